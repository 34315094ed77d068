/-
  Several texts as one: Ba Jb Gb Jc Gc Zj Zk Bb Oa Jd Je Jf Jg Jh Da Db Dc Dd Ji Jj Of Ob Gd Ge.
-/
import Derived.Shelf.SlSortCmp.NoneTotal
import Derived.Lib.Bytealg
import Derived.Test.YtladpaehbolghaaOrd2

namespace Go.Proofs.Ytladpaehbolghaa
open Go Go.RowKit K SH
section
variable {m : Mem} {wI : World}
theorem c_same17 {av bv : Value} {a b : List UInt8} (him : Im m wI) (ha : SlM m av 1 a.length (bs a)) (hb : SlM m bv 1 b.length (bs b)) :
  Ret Try.prog 12 #[av, bv] wI fun v w' => Tch wI w' [] [] ∧ v = .bool (decide (a = b)) := by
 refine ret_of Try.call12 Try.func12 rfl Try.ntmps12 Try.results12 rfl ?_
 refine wc_seq ?_
 refine wc_region ?_
 refine wl_val (v_assign' (by conv => (lhs; whnf))) rfl ?_
 refine wl_nil ?_
 refine then_go ?_
 refine wc_seq ?_
 refine wc_region ?_
 refine wl_val (v_move' (by conv => (lhs; whnf))) rfl ?_
 refine wl_val (v_b2s Try.underlying31 Try.underlying5 Try.underlying9 him ha rfl) rfl ?_
 refine wl_val (v_move' (by conv => (lhs; whnf))) rfl ?_
 refine wl_val (v_b2s Try.underlying31 Try.underlying5 Try.underlying9 him hb rfl) rfl ?_
 refine wl_val (v_eqs rfl rfl) rfl ?_
 refine wl_val (v_assign' (by conv => (lhs; whnf))) rfl ?_
 refine wl_nil ?_
 refine then_go ?_
 refine wc_ret ?_
 exact ret1 rfl ⟨Tch.refl _ _, rfl⟩
theorem c_bclone {v : Value} {l : List UInt8} (him : Im m wI) (hv : SlM m v 1 l.length (bs l)) (hL : l.length ≤ 1099511627776) :
  Ret Try.prog 21 #[v] wI fun v' w' => Out m wI w' fun m' => SlM m' v' 1 l.length (bs l) := by
 have st := St.start him
 obtain ⟨_, a, cap, rfl, _⟩ := id hv
 refine ret_of Try.call21 Try.func21 rfl Try.ntmps21 Try.results21 rfl ?_
 refine wc_seq ?_
 refine wc_region ?_
 refine wl_val (v_assign' (by conv => (lhs; whnf))) rfl ?_
 refine wl_nil ?_
 refine then_go ?_
 refine wc_seq ?_
 refine wc_seq ?_
 refine wc_region ?_
 refine wl_val (v_move' (by conv => (lhs; whnf))) rfl ?_
 refine wl_val (v_eq_nilS Try.underlying31 rfl rfl) rfl ?_
 refine wl_nil ?_
 refine then_go ?_
 refine wc_cond rfl (fun h4 => ?_) (fun h4 => ?_)
 ·refine wc_seq ?_
  refine wc_region ?_
  refine wl_val (v_assign' (by conv => (lhs; whnf))) rfl ?_
  refine wl_nil ?_
  refine then_go ?_
  refine wc_ret (then_ret ?_)
  have hL0 : l = [] := by
   obtain ⟨_, a', c', he, hk, hn, _⟩ := hv
   cases he
   have := hn (by simpa using h4)
   exact List.eq_nil_of_length_eq_zero (by omega)
  subst hL0
  exact ret1 rfl (st.out SlM.nil)
 ·refine wc_skip ?_
  refine then_go ?_
  refine wc_seq ?_
  refine wc_region ?_
  refine wl_buildSlice0 (size := 1) Try.underlying31 TF.t5 st rfl ?_
  intro v5 w st
  have st : St m m [] wI w [rowE v5 5 1 ([] : List UInt8).length (bs [])] := st
  refine wl_val (v_move' (by conv => (lhs; whnf))) rfl ?_
  refine wl_appB (l2 := l) st Try.underlying31 Try.underlying31 (.inr ⟨_, rfl⟩) TF.t5 TF.z5 rfl rfl (hv.src st.im (one_bs _)) (by simp; omega) (by simp; omega) rfl ?_
  intro v7 w st hv7
  refine wl_val (v_assign' (by conv => (lhs; whnf))) rfl ?_
  refine wl_nil ?_
  refine then_go ?_
  refine wc_ret ?_
  exact ret1 rfl st.bytesOut
theorem c_bequal {av bv : Value} {a b : List UInt8} (him : Im m wI) (ha : SlM m av 1 a.length (bs a)) (hb : SlM m bv 1 b.length (bs b)) :
  Ret Try.prog 71 #[av, bv] wI fun v w' => Tch wI w' [] [] ∧ v = .bool (decide (a = b)) := by
 have st := St.start him
 refine ret_of Try.call71 Try.func71 rfl Try.ntmps71 Try.results71 rfl ?_
 refine wc_seq ?_
 refine wc_region ?_
 refine wl_val (v_assign' (by conv => (lhs; whnf))) rfl ?_
 refine wl_nil ?_
 refine then_go ?_
 refine wc_seq ?_
 refine wc_region ?_
 refine wl_val (v_move' (by conv => (lhs; whnf))) rfl ?_
 refine wl_val (v_b2s Try.underlying31 Try.underlying5 Try.underlying9 st.im ha rfl) rfl ?_
 refine wl_val (v_move' (by conv => (lhs; whnf))) rfl ?_
 refine wl_val (v_b2s Try.underlying31 Try.underlying5 Try.underlying9 st.im hb rfl) rfl ?_
 refine wl_val (v_eqs rfl rfl) rfl ?_
 refine wl_val (v_assign' (by conv => (lhs; whnf))) rfl ?_
 refine wl_nil ?_
 refine then_go ?_
 refine wc_ret ?_
 exact ret1 rfl ⟨st.touch, rfl⟩
end
end Go.Proofs.Ytladpaehbolghaa

namespace Go.Proofs.Ytladpaehbolghaa
open Go Go.RowKit K SH DK JR
section
variable {P : Program} {r : Fr} {w : World} {ty T U : TypeId} {x y : Operand} {p q : UInt64}
theorem bv64 (a : UInt64) : BitVec.ofInt 64 (a.toNat : Int) = a.toBitVec := by
 apply BitVec.eq_of_toNat_eq
 rw [BitVec.ofInt_natCast, BitVec.toNat_ofNat, Nat.mod_eq_of_lt a.toNat_lt]
 rfl
theorem v_or64 (hx : ev r x = u64 p) (hy : ev r y = u64 q) : Val P (.binOp .or T x y U) ty r w (u64 (p ||| q)) w := by
 have h := v_or (P := P) (w := w) (ty := ty) (T := T) (U := U) hx hy
 rw [show IntKind.u64.bits = 64 from rfl, bv64, bv64, wrap_u64] at h
 rw [show p ||| q = UInt64.ofNat (p.toBitVec ||| q.toBitVec).toNat by
  apply UInt64.toNat_inj.mp
  rw [UInt64.toNat_ofNat', Nat.mod_eq_of_lt (p.toBitVec ||| q.toBitVec).isLt]
  rfl]
 exact h
theorem v_lss64 (hx : ev r x = u64 p) (hy : ev r y = u64 q) : Val P (.binOp .lss T x y U) ty r w (.bool (decide (p.toNat < q.toNat))) w := wl_valD (v_lss hx hy) (by simp)
theorem v_gtr64 (hx : ev r x = u64 p) (hy : ev r y = u64 q) : Val P (.binOp .gtr T x y U) ty r w (.bool (decide (q.toNat < p.toNat))) w := wl_valD (v_gtr hx hy) (by simp)
theorem v_eql64 (hx : ev r x = u64 p) (hy : ev r y = u64 q) : Val P (.binOp .eql T x y U) ty r w (.bool (decide (p = q))) w := wl_valD (v_eql hx hy) (by rw [decide_eq_decide, ← UInt64.toNat_inj]; omega)
theorem v_conv64i {D : TypeDesc} (hT : P.underlying T = some D) (hU : P.underlying U = some (.int .i64)) (hx : ev r x = u64 p) (hp : p.toNat < 9223372036854775808) : Val P (.convert T U x) ty r w (.int .i64 p.toNat) w := by
 have h := v_conv (P := P) (w := w) (ty := ty) hT hU hx
 rwa [wrap_i64 (by omega) (by omega)] at h
end
theorem shl_or (p : UInt64) (c : UInt8) : shl64 p 8 ||| UInt64.ofNat c.toNat = p * 256 + UInt64.ofNat c.toNat := by
 rw [← UInt64.toNat_inj, UInt64.toNat_or, UInt64.toNat_add, UInt64.toNat_mul]
 unfold shl64
 rw [UInt64.toNat_ofNat', UInt64.toNat_ofNat']
 have hc : c.toNat < 256 := c.toNat_lt
 have e : p.toNat * 2 ^ 8 % 2 ^ 64 = (p.toNat % 2 ^ 56) <<< 8 := by
  rw [Nat.shiftLeft_eq]
  omega
 have hc2 : c.toNat % 2 ^ 64 = c.toNat := by omega
 rw [e, hc2, ← Nat.shiftLeft_add_eq_or_of_lt (by omega : c.toNat < 2 ^ 8), Nat.shiftLeft_eq]
 rw [show (256 : UInt64).toNat = 256 from rfl]
 omega
abbrev byE (v : Value) (l : List UInt8) : Ent := rowE v 5 1 l.length (bs l)
theorem byE_SlM {m0 m : Mem} {F : List Nat} {w0 w : World} {Es : List Ent} {v : Value} {l : List UInt8} (st : St m0 m F w0 w Es) (i : Nat) (hi : Es[i]? = some (byE v l)) : SlM (heapM w) v 1 l.length (bs l) := row_SlM (m := heapM w) (st.at hi) (fun _ _ _ h => h)
theorem byE_one {m0 m : Mem} {F : List Nat} {w0 w : World} {Es : List Ent} {v : Value} {l : List UInt8} (st : St m0 m F w0 w Es) (i : Nat) (hi : Es[i]? = some (byE v l)) : v.oneCell' = true := SlM.one1 (byE_SlM st i hi)
section
variable {m0 m : Mem} {F : List Nat} {w0 w : World} {Es : List Ent}
theorem c_jnumber {n : UInt64} (st : St m0 m F w0 w Es) : Ret Try.prog 51 #[u64 n] w fun v w' => St m0 m F w0 w' (byE v (num8 n) :: Es) := by
 refine ret_of Try.call51 Try.func51 rfl Try.ntmps51 Try.results51 rfl ?_
 refine wc_seq ?_
 refine wc_region ?_
 refine wl_val (v_assign' (by conv => (lhs; whnf))) rfl ?_
 refine wl_nil ?_
 refine then_go ?_
 refine wc_seq ?_
 refine wc_region ?_
 refine wl_make (l := 8) (c := 8) Try.underlying31 TF.t5 TF.z5 rfl rfl rfl rfl (by omega) (by omega) (by omega) (by omega) st rfl ?_
 intro b5 w st
 have st : St m0 m F w0 w (K.blk b5 (bs ((num8 n).take 0) ++ List.replicate (8 - 0) (u8 0)).toArray 5 :: Es) := by
  have e : madeCells (Value.int .u8 0).cells (8 * 1) = (List.replicate 8 (u8 0)).toArray := by
   rw [show (Value.int .u8 0).cells = Array.replicate (0 + 1) (Value.int .u8 0) from rfl, madeCells_rep]
   rfl
  rw [e] at st
  exact st
 refine wl_val (v_assign' (by conv => (lhs; whnf))) rfl ?_
 refine wl_nil ?_
 refine then_go ?_
 refine wc_seq ?_
 refine wc_seq ?_
 refine wc_region ?_
 refine wl_val (v_move' (by conv => (lhs; whnf))) rfl ?_
 refine wl_val (v_len_s Try.underlying31 rfl) rfl ?_
 refine wl_val (v_move' (by conv => (lhs; whnf))) rfl ?_
 refine wl_nil ?_
 refine then_go ?_
 refine wc_block ?_
 refine wc_loop (S := Nat) (fun q r w' => ∃ i, q + i = 8 ∧ r 0 = u64 n ∧ r 3 = .slice (some ⟨b5, 0, none⟩) 8 8 ∧ r 7 = .int .i64 8 ∧ r 8 = .int .i64 i ∧ St m0 m F w0 w' (K.blk b5 (bs ((num8 n).take i) ++ List.replicate (8 - i) (u8 0)).toArray 5 :: Es)) id 8 ⟨0, rfl, rfl, rfl, rfl, rfl, st⟩ ?_
 clear st
 rintro q r w2 ⟨i, hqi, h0, h3, h7, h8, st⟩
 refine wc_o 0 h0 (wc_o 3 h3 (wc_o 7 h7 (wc_o 8 h8 ?_)))
 refine wc_seq ?_
 refine wc_region ?_
 refine wl_val (v_lss rfl rfl) rfl ?_
 refine wl_nil ?_
 refine then_go ?_
 refine wc_seq ?_
 refine wc_if rfl (fun h9 => ?_) (fun h9 => ?_)
 ·refine wc_skip ?_
  refine then_go ?_
  refine wc_seq ?_
  refine wc_block ?_
  refine wc_seq ?_
  refine wc_region ?_
  refine wl_val (v_move' (by conv => (lhs; whnf))) rfl ?_
  refine wl_val (v_assign' (by conv => (lhs; whnf))) rfl ?_
  refine wl_nil ?_
  refine then_go ?_
  have hi : i < 8 := by omega
  have hni : i < (num8 n).length := by rw [length_num8]; exact hi
  have hb : UInt8.ofNat (shr64 n (56 - 8 * i)).toNat = (num8 n)[i] := by
   unfold shr64
   rw [UInt64.toNat_ofNat', Nat.mod_eq_of_lt (Nat.lt_of_le_of_lt (Nat.div_le_self _ _) n.toNat_lt)]
   simp [num8]
  refine wc_region ?_
  refine wl_val (v_move' (by conv => (lhs; whnf))) rfl ?_
  refine wl_val (v_move' (by conv => (lhs; whnf))) rfl ?_
  refine wl_val (v_move' (by conv => (lhs; whnf))) rfl ?_
  refine wl_val (v_move' (by conv => (lhs; whnf))) rfl ?_
  refine wl_val (v_mul' (c := ((8 * i : Nat) : Int)) rfl rfl (by omega) (by omega) (by omega)) rfl ?_
  refine wl_val (v_sub' (c := ((56 - 8 * i : Nat) : Int)) rfl rfl (by omega) (by omega) (by omega)) rfl ?_
  refine wl_val (v_shr64 (p := n) (56 - 8 * i) rfl rfl (by omega)) rfl ?_
  refine wl_val (v_conv64_8 Try.underlying47 Try.underlying5 rfl) rfl ?_
  refine wl_val (v_ias i Try.underlying31 TF.t5 rfl rfl (by first | rfl | omega) (by first | omega | (dsimp only at *; omega))) rfl ?_
  refine wl_store1 (off := 0 + i * 1) 0 st rfl TF.t5 rfl (by conv => (lhs; whnf)) rfl (by simp [length_bs, length_num8]; omega) ?_
  intro w st
  refine wl_nil ?_
  refine block_go (then_go ?_)
  refine wc_region ?_
  refine wl_val (v_add' rfl rfl rfl (by first | omega | (dsimp only at *; omega)) (by first | omega | (dsimp only at *; omega))) rfl ?_
  refine wl_val (v_move' (by conv => (lhs; whnf))) rfl ?_
  refine wl_nil ?_
  refine then_go ?_
  refine ⟨q - 1, by simp; omega, i + 1, by omega, rfl, rfl, rfl, rfl, ?_⟩
  rw [show 8 - i = (8 - (i + 1)) + 1 by omega, List.replicate_succ] at st
  change St _ _ _ _ _ (K.blk b5 (((bs ((num8 n).take i) ++ u8 0 :: List.replicate (8 - (i + 1)) (u8 0)).toArray).setIfInBounds (0 + i * 1) (u8 _)) _ :: Es) at st
  rw [set_app (by rw [length_bs, List.length_take, length_num8]; omega), hb] at st
  rw [List.take_succ_eq_append_getElem hni, bs, List.map_append]
  simpa [bs] using st
 ·refine wc_exit (then_exit (then_exit (block_hit ?_)))
  refine then_go ?_
  refine wc_seq ?_
  refine wc_region ?_
  refine wl_val (v_move' (by conv => (lhs; whnf))) rfl ?_
  refine wl_val (v_assign' (by conv => (lhs; whnf))) rfl ?_
  refine wl_nil ?_
  refine then_go ?_
  refine wc_ret ?_
  have hi8 : i = 8 := by omega
  subst hi8
  rw [List.take_of_length_le (by rw [length_num8]; omega)] at st
  exact ret1 rfl (st.rowShut 0 (b := b5) (k := 8) (cap := 8) (size := 1) (xs := bs (num8 n)) rfl (by omega) (by simp [length_bs, length_num8]) (by omega) (by simp [← length_num8 n, ← length_bs (num8 n)]))
theorem c_whole {v : Value} {l : By} (st : St m0 m F w0 w (byE v l :: Es)) (hl : l.length ≤ 1099511627776) : Ret Try.prog 50 #[v] w fun v' w' => St m0 m F w0 w' (byE v' (pad64 l) :: Es) := by
 refine ret_of Try.call50 Try.func50 rfl Try.ntmps50 Try.results50 rfl ?_
 refine wc_seq ?_
 refine wc_region ?_
 refine wl_val (v_assign' (by conv => (lhs; whnf))) rfl ?_
 refine wl_nil ?_
 refine then_go ?_
 refine wc_seq ?_
 refine wc_block ?_
 refine wc_loop (S := Nat) (fun q r w' => ∃ (i : Nat) (v : Value), q + i = (64 - l.length % 64) % 64 ∧ r 0 = v ∧ St m0 m F w0 w' (byE v (l ++ List.replicate i 0) :: Es)) id ((64 - l.length % 64) % 64) ⟨0, v, by omega, rfl, by simpa using st⟩ ?_
 clear st
 rintro q r w2 ⟨i, v, hqi, h0, st⟩
 obtain ⟨va, vc, hv⟩ := row_sl (st.at (i := 0) rfl)
 subst hv
 refine wc_o 0 h0 ?_
 have hll : (l ++ List.replicate i (0 : UInt8)).length = l.length + i := by simp
 refine wc_seq ?_
 refine wc_seq ?_
 refine wc_region ?_
 refine wl_val (v_move' (by conv => (lhs; whnf))) rfl ?_
 refine wl_val (v_len_s Try.underlying31 rfl) rfl ?_
 refine wl_val (v_rem' (c := (((l.length + i) % 64 : Nat) : Int)) rfl rfl (by omega) (by omega) (by rw [hll]; omega)) rfl ?_
 refine wl_val (v_neq rfl rfl) rfl ?_
 refine wl_nil ?_
 refine then_go ?_
 refine wc_if rfl (fun h6 => ?_) (fun h6 => ?_)
 ·refine wc_skip ?_
  refine then_go ?_
  refine wc_block ?_
  refine wc_region ?_
  refine wl_val (v_move' (by conv => (lhs; whnf))) rfl ?_
  refine wl_byte1 0 Try.underlying31 TF.t5 TF.z5 rfl st rfl ?_
  intro b8 w st
  refine wl_app1 st Try.underlying31 TF.t5 TF.z5 rfl rfl (by omega) (by omega) rfl ?_
  intro v9 w st hv9
  have e9 : l ++ List.replicate i (0 : UInt8) ++ [0] = l ++ List.replicate (i + 1) 0 := by rw [List.append_assoc, List.replicate_succ']
  rw [e9] at st
  refine wl_val (v_assign' (by conv => (lhs; whnf))) rfl ?_
  refine wl_nil ?_
  refine block_go (then_go ?_)
  exact ⟨q - 1, by simp; omega, i + 1, v9, by omega, rfl, st⟩
 ·refine wc_exit (then_exit (then_exit (block_hit ?_)))
  refine then_go ?_
  refine wc_seq ?_
  refine wc_region ?_
  refine wl_val (v_move' (by conv => (lhs; whnf))) rfl ?_
  refine wl_val (v_assign' (by conv => (lhs; whnf))) rfl ?_
  refine wl_nil ?_
  refine then_go ?_
  refine wc_ret ?_
  have hi : i = (64 - l.length % 64) % 64 := by omega
  subst hi
  exact ret1 rfl st
theorem c_cdigest {v : Value} {l d : By} (st : St m0 m F w0 w (byE v l :: Es)) (hd : d.length = 32) (hl : l.length ≤ 1099511627776) : Ret Try.prog 48 #[v, arr d] w fun v' w' => St m0 m F w0 w' (byE v' (l ++ d) :: Es) := by
 refine ret_of Try.call48 Try.func48 rfl Try.ntmps48 Try.results48 rfl ?_
 refine wc_seq ?_
 refine wc_region ?_
 refine wl_box (v := arr d) rfl st rfl ?_
 intro b3 w st
 refine wl_val (v_assign' (by conv => (lhs; whnf))) rfl ?_
 refine wl_nil ?_
 refine then_go ?_
 refine wc_seq ?_
 refine wc_region ?_
 refine wl_val (v_move' (by conv => (lhs; whnf))) rfl ?_
 refine wl_val (v_sla 0 32 Try.underlying94 TF.t5 rfl rfl rfl (by omega) (by omega) (by omega)) rfl ?_
 refine wl_appBi (l2 := d) 1 st rfl Try.underlying31 Try.underlying31 (.inr ⟨_, rfl⟩) TF.t5 TF.z5 rfl rfl (st.srcArr (off := 0) (k := 32) 0 rfl (by rw [length_bs, hd]) (fun j u hj => by simpa [arr, Value.cells] using hj) (one_bs _)) (by omega) (by omega) rfl ?_
 intro v7 w st hv7
 refine wl_val (v_assign' (by conv => (lhs; whnf))) rfl ?_
 refine wl_nil ?_
 refine then_go ?_
 refine wc_ret ?_
 exact ret1 rfl (st.drop 0)
theorem c_jhead {g : UInt64} (st : St m0 m F w0 w Es) : Ret Try.prog 60 #[u64 g] w fun v w' => St m0 m F w0 w' (byE v (headB g) :: Es) := by
 have h8 := length_num8 g
 refine ret_of Try.call60 Try.func60 rfl Try.ntmps60 Try.results60 rfl ?_
 refine wc_seq ?_
 refine wc_region ?_
 refine wl_val (v_assign' (by conv => (lhs; whnf))) rfl ?_
 refine wl_nil ?_
 refine then_go ?_
 refine wc_seq ?_
 refine wc_region ?_
 refine wl_byteR 72 Try.underlying31 TF.t5 TF.z5 rfl st rfl ?_
 intro b4 w st
 refine wl_val (v_move' (by conv => (lhs; whnf))) rfl ?_
 refine wl_call rfl (c_jnumber st) rfl ?_
 intro v6 w st
 refine wl_appBi (l2 := num8 g) 1 st rfl Try.underlying31 Try.underlying31 (.inr ⟨_, rfl⟩) TF.t5 TF.z5 rfl rfl ((byE_SlM st 0 rfl).src (im_heapM _) (one_bs _)) (by simp; omega) (by simp; omega) rfl ?_
 intro v7 w st hv7
 have st : St m0 m F w0 w (byE v7 (72 :: num8 g) :: Es) := st.drop 0
 refine wl_val (v_assign' (by conv => (lhs; whnf))) rfl ?_
 refine wl_nil ?_
 refine then_go ?_
 refine wc_seq ?_
 refine wc_region ?_
 refine wl_val (v_move' (by conv => (lhs; whnf))) rfl ?_
 refine wl_val (v_move' (by conv => (lhs; whnf))) rfl ?_
 refine wl_call rfl (c_tagsof (im_heapM _) (byE_SlM st 0 rfl) (by simp; omega)) rfl ?_
 rintro v10 w ⟨t10, rfl⟩
 have st := st.pure t10
 refine wl_call rfl (c_cdigest st (length_sum _) (by simp; omega)) rfl ?_
 intro v11 w st
 refine wl_call rfl (c_whole st (by simp [length_sum]; omega)) rfl ?_
 intro v12 w st
 refine wl_val (v_assign' (by conv => (lhs; whnf))) rfl ?_
 refine wl_nil ?_
 refine then_go ?_
 refine wc_ret ?_
 exact ret1 rfl st
theorem c_jtext {g s : UInt64} {v : Value} {b : By} (st : St m0 m F w0 w Es) (hb : SlM m v 1 b.length (bs b)) (hl : b.length ≤ 1000000000) : Ret Try.prog 47 #[u64 g, u64 s, v] w fun v' w' => St m0 m F w0 w' (byE v' (textB g s b) :: Es) := by
 have h8 := length_num8 g
 have h9 := length_num8 s
 refine ret_of Try.call47 Try.func47 rfl Try.ntmps47 Try.results47 rfl ?_
 refine wc_seq ?_
 refine wc_region ?_
 refine wl_val (v_assign' (by conv => (lhs; whnf))) rfl ?_
 refine wl_nil ?_
 refine then_go ?_
 refine wc_seq ?_
 refine wc_region ?_
 refine wl_byteR 74 Try.underlying31 TF.t5 TF.z5 rfl st rfl ?_
 intro b7 w st
 refine wl_val (v_move' (by conv => (lhs; whnf))) rfl ?_
 refine wl_call rfl (c_jnumber st) rfl ?_
 intro v9 w st
 refine wl_appBi (l2 := num8 g) 1 st rfl Try.underlying31 Try.underlying31 (.inr ⟨_, rfl⟩) TF.t5 TF.z5 rfl rfl ((byE_SlM st 0 rfl).src (im_heapM _) (one_bs _)) (by simp; omega) (by simp; omega) rfl ?_
 intro v10 w st hv10
 have st : St m0 m F w0 w (byE v10 (74 :: num8 g) :: Es) := st.drop 0
 refine wl_val (v_move' (by conv => (lhs; whnf))) rfl ?_
 refine wl_call rfl (c_jnumber st) rfl ?_
 intro v12 w st
 refine wl_appBi (l2 := num8 s) 1 st rfl Try.underlying31 Try.underlying31 (.inr ⟨_, rfl⟩) TF.t5 TF.z5 rfl rfl ((byE_SlM st 0 rfl).src (im_heapM _) (one_bs _)) (by simp; omega) (by simp; omega) rfl ?_
 intro v13 w st hv13
 have st : St m0 m F w0 w (byE v13 (74 :: num8 g ++ num8 s) :: Es) := st.drop 0
 refine wl_val (v_move' (by conv => (lhs; whnf))) rfl ?_
 refine wl_appB (l2 := b) st Try.underlying31 Try.underlying31 (.inr ⟨_, rfl⟩) TF.t5 TF.z5 rfl rfl (hb.src st.im (one_bs _)) (by simp; omega) (by simp; omega) rfl ?_
 intro v15 w st hv15
 have e : 74 :: num8 g ++ num8 s ++ b = textB g s b := by simp [textB]
 rw [e] at st
 refine wl_val (v_assign' (by conv => (lhs; whnf))) rfl ?_
 refine wl_nil ?_
 refine then_go ?_
 refine wc_ret ?_
 exact ret1 rfl st
theorem K.St.newOf {n : Mem} {w' : World} {E : Ent} (st : St m0 m F w0 w Es) (s : St n n [] w w' [E]) : St m0 m F w0 w' (E :: Es) := by
 have h := St.finish (l := [E]) (Es := []) s
 refine st.new (E := E) ⟨h.1.os, h.1.tape, h.1.output, h.1.size, h.1.block, fun k hk => h.1.out k (by simpa [joinE] using hk)⟩ (s.holds E (by simp))
theorem c_jrecord {g s : UInt64} {v : Value} {b : By} (st : St m0 m F w0 w Es) (hb : SlM m v 1 b.length (bs b)) (hl : b.length ≤ 1000000000) : Ret Try.prog 28 #[u64 g, u64 s, v] w fun v' w' => St m0 m F w0 w' (byE v' (recB g s b) :: Es) := by
 have h8 := length_num8 g
 have h9 := length_num8 s
 obtain ⟨ba, bc, hbv⟩ : ∃ a c, v = .slice a b.length c := by obtain ⟨_, a, c, h, _⟩ := hb; exact ⟨a, c, h⟩
 subst hbv
 refine ret_of Try.call28 Try.func28 rfl Try.ntmps28 Try.results28 rfl ?_
 refine wc_seq ?_
 refine wc_region ?_
 refine wl_val (v_assign' (by conv => (lhs; whnf))) rfl ?_
 refine wl_nil ?_
 refine then_go ?_
 refine wc_seq ?_
 refine wc_region ?_
 refine wl_val (v_move' (by conv => (lhs; whnf))) rfl ?_
 refine wl_val (v_move' (by conv => (lhs; whnf))) rfl ?_
 refine wl_call rfl (c_jtext (b := []) st SlM.nil (by decide)) rfl ?_
 intro v10 w st
 have st : St m0 m F w0 w (byE v10 (74 :: (num8 g ++ (num8 s ++ []))) :: Es) := st
 refine wl_val (v_assign' (by conv => (lhs; whnf))) rfl ?_
 refine wl_nil ?_
 refine then_go ?_
 refine wc_seq ?_
 refine wc_region ?_
 refine wl_val (v_move' (by conv => (lhs; whnf))) rfl ?_
 refine wl_val (v_move' (by conv => (lhs; whnf))) rfl ?_
 refine wl_val (v_move' (by conv => (lhs; whnf))) rfl ?_
 refine wl_val (v_move' (by conv => (lhs; whnf))) rfl ?_
 refine wl_call rfl (c_jtext st hb hl) rfl ?_
 intro v15 w st
 refine wl_call rfl (c_tagsof (im_heapM _) (byE_SlM st 0 rfl) (by rw [length_textB]; omega)) rfl ?_
 rintro v16 w ⟨t16, rfl⟩
 have st := st.pure t16
 have st : St m0 m F w0 w (byE v10 (74 :: (num8 g ++ (num8 s ++ []))) :: Es) := st.drop 0
 refine wl_call rfl (c_cdigest st (length_sum _) (by simp; omega)) rfl ?_
 intro v17 w st
 refine wl_val (v_assign' (by conv => (lhs; whnf))) rfl ?_
 refine wl_nil ?_
 refine then_go ?_
 refine wc_seq ?_
 refine wc_region ?_
 refine wl_val (v_move' (by conv => (lhs; whnf))) rfl ?_
 refine wl_val (v_move' (by conv => (lhs; whnf))) rfl ?_
 refine wl_val (v_len_s Try.underlying31 rfl) rfl ?_
 refine wl_val (v_convi_64 Try.underlying3 Try.underlying47 rfl) rfl ?_
 refine wl_call rfl (c_jnumber st) rfl ?_
 intro v22 w st
 have h10 := length_num8 (UInt64.ofNat b.length)
 have hsl := length_sum (textB g s b)
 refine wl_appBi (l2 := num8 (UInt64.ofNat b.length)) 1 st rfl Try.underlying31 Try.underlying31 (.inr ⟨_, rfl⟩) TF.t5 TF.z5 rfl rfl ((byE_SlM st 0 rfl).src (im_heapM _) (one_bs _)) (by simp; omega) (by simp; omega) rfl ?_
 intro v23 w st hv23
 have st : St m0 m F w0 w (byE v23 _ :: Es) := st.drop 0
 refine wl_val (v_move' (by conv => (lhs; whnf))) rfl ?_
 refine wl_appB (l2 := b) st Try.underlying31 Try.underlying31 (.inr ⟨_, rfl⟩) TF.t5 TF.z5 rfl rfl (hb.src st.im (one_bs _)) (by simp; omega) (by simp; omega) rfl ?_
 intro v25 w st hv25
 refine wl_call rfl (c_whole st (by simp; omega)) rfl ?_
 intro v26 w st
 have e : pad64 (74 :: (num8 g ++ (num8 s ++ [])) ++ sum (textB g s b) ++ num8 (UInt64.ofNat b.length) ++ b) = recB g s b := by simp [recB]
 rw [e] at st
 refine wl_val (v_assign' (by conv => (lhs; whnf))) rfl ?_
 refine wl_nil ?_
 refine then_go ?_
 refine wc_ret ?_
 exact ret1 rfl st
theorem c_length {v : Value} {b : By} (him : Im m w) (hb : SlM m v 1 b.length (bs b)) (hl : 8 ≤ b.length) : Ret Try.prog 70 #[v] w fun v' w' => Tch w w' [] [] ∧ v' = u64 (rd8 b) := by
 have st := St.start him
 obtain ⟨b0, o0, cap, rfl, hcap⟩ := hb.ptr1 (by omega) (by decide)
 have hb8 := SlM.subB 0 8 hb (by omega) hl
 have hl8 : ((b.drop 0).take (8 - 0)).length = 8 := by simp; omega
 have hrd : rd8 b = ((b.drop 0).take (8 - 0)).foldl (fun n c => n * 256 + UInt64.ofNat c.toNat) 0 := rfl
 obtain ⟨b8, hb8e⟩ : ∃ b8, b8 = (b.drop 0).take (8 - 0) := ⟨_, rfl⟩
 rw [← hb8e] at hb8 hl8 hrd
 obtain ⟨b1, o1, c1, he, _⟩ := hb8.ptr1 (by omega) (by decide)
 rw [he] at hb8
 have hb8 : SlM m (.slice (some ⟨b1, o1, none⟩) 8 c1) 1 8 (bs b8) := hb8
 refine ret_of Try.call70 Try.func70 rfl Try.ntmps70 Try.results70 rfl ?_
 refine wc_seq ?_
 refine wc_region ?_
 refine wl_val (v_assign' (by conv => (lhs; whnf))) rfl ?_
 refine wl_nil ?_
 refine then_go ?_
 refine wc_seq ?_
 refine wc_region ?_
 refine wl_val (v_assign' (by conv => (lhs; whnf))) rfl ?_
 refine wl_nil ?_
 refine then_go ?_
 refine wc_seq ?_
 refine wc_seq ?_
 refine wc_region ?_
 refine wl_val (v_move' (by conv => (lhs; whnf))) rfl ?_
 refine wl_val (v_to (v' := .slice (some ⟨b1, o1, none⟩) 8 c1) (v_sls 0 8 Try.underlying31 TF.t5 rfl rfl ⟨_, _, rfl, rfl⟩ (by omega) (by omega)) he) rfl ?_
 refine wl_val (v_len_s Try.underlying31 rfl) rfl ?_
 refine wl_val (v_move' (by conv => (lhs; whnf))) rfl ?_
 refine wl_nil ?_
 refine then_go ?_
 refine wc_block ?_
 refine wc_loop (S := Nat) (fun q r w' => ∃ i, q + i = 8 ∧ r 3 = u64 ((b8.take i).foldl (fun n c => n * 256 + UInt64.ofNat c.toNat) 0) ∧ r 7 = .slice (some ⟨b1, o1, none⟩) 8 c1 ∧ r 8 = .int .i64 8 ∧ r 9 = .int .i64 i ∧ St m m [] w w' []) id 8 ⟨0, rfl, rfl, rfl, rfl, rfl, st⟩ ?_
 clear st
 rintro q r w2 ⟨i, hqi, h3, h7, h8, h9, st⟩
 refine wc_o 3 h3 (wc_o 7 h7 (wc_o 8 h8 (wc_o 9 h9 ?_)))
 refine wc_seq ?_
 refine wc_region ?_
 refine wl_val (v_lss rfl rfl) rfl ?_
 refine wl_nil ?_
 refine then_go ?_
 refine wc_seq ?_
 refine wc_if rfl (fun h10 => ?_) (fun h10 => ?_)
 ·refine wc_skip ?_
  refine then_go ?_
  refine wc_seq ?_
  refine wc_block ?_
  refine wc_seq ?_
  have hi : i < b8.length := by omega
  refine wc_region ?_
  refine wl_val (v_ias i Try.underlying31 TF.t5 rfl rfl (by first | rfl | omega) (by first | omega | (dsimp only at *; omega))) rfl ?_
  refine wl_val (v_load rfl (SlM.rdB TF.t5 i hb8 hi st.im)) rfl ?_
  refine wl_val (v_assign' (by conv => (lhs; whnf))) rfl ?_
  refine wl_nil ?_
  refine then_go ?_
  refine wc_region ?_
  refine wl_val (v_move' (by conv => (lhs; whnf))) rfl ?_
  refine wl_val (v_shl64 (p := (b8.take i).foldl (fun n c => n * 256 + UInt64.ofNat c.toNat) 0) 8 rfl rfl (by omega)) rfl ?_
  refine wl_val (v_move' (by conv => (lhs; whnf))) rfl ?_
  refine wl_val (v_convi_64 (n := b8[i].toNat) Try.underlying5 Try.underlying47 rfl) rfl ?_
  refine wl_val (v_or64 rfl rfl) rfl ?_
  refine wl_val (v_assign' (by conv => (lhs; whnf))) rfl ?_
  refine wl_nil ?_
  refine block_go (then_go ?_)
  refine wc_region ?_
  refine wl_val (v_add' rfl rfl rfl (by first | omega | (dsimp only at *; omega)) (by first | omega | (dsimp only at *; omega))) rfl ?_
  refine wl_val (v_move' (by conv => (lhs; whnf))) rfl ?_
  refine wl_nil ?_
  refine then_go ?_
  refine ⟨q - 1, by simp; omega, i + 1, by omega, ?_, rfl, rfl, rfl, st⟩
  rw [List.take_succ_eq_append_getElem hi, List.foldl_append, List.foldl_cons, List.foldl_nil, ← shl_or]
  rfl
 ·refine wc_exit (then_exit (then_exit (block_hit ?_)))
  refine then_go ?_
  refine wc_seq ?_
  refine wc_region ?_
  refine wl_val (v_move' (by conv => (lhs; whnf))) rfl ?_
  refine wl_val (v_assign' (by conv => (lhs; whnf))) rfl ?_
  refine wl_nil ?_
  refine then_go ?_
  refine wc_ret ?_
  have hi8 : i = 8 := by omega
  subst hi8
  have e8 : b8.take 8 = b8 := List.take_of_length_le (by omega)
  exact ret1 rfl ⟨st.touch, by rw [hrd, e8]; rfl⟩
end
end Go.Proofs.Ytladpaehbolghaa

namespace Go.Proofs.Ytladpaehbolghaa
open Go Go.RowKit K SH GC
set_option maxRecDepth 100000 in
theorem or128 (k : Nat) : UInt8.ofNat k ||| 128 = UInt8.ofNat (k % 128 + 128) := by
 have key : ∀ m : Fin 256, UInt8.ofNat m.val ||| 128 = UInt8.ofNat (m.val % 128 + 128) := by decide
 have h := key ⟨k % 256, Nat.mod_lt _ (by decide)⟩
 have e1 : UInt8.ofNat (k % 256) = UInt8.ofNat k := by
  apply UInt8.toNat_inj.mp
  rw [UInt8.toNat_ofNat', UInt8.toNat_ofNat']
  omega
 have e2 : k % 256 % 128 = k % 128 := by omega
 rw [← e1, h]
 show UInt8.ofNat (k % 256 % 128 + 128) = _
 rw [e2]
theorem shr7 (n : UInt64) : (shr64 n 7).toNat = n.toNat / 128 := by
 unfold shr64
 rw [UInt64.toNat_ofNat', Nat.mod_eq_of_lt (Nat.lt_of_le_of_lt (Nat.div_le_self _ _) n.toNat_lt)]
section
variable {m0 m : Mem} {F : List Nat} {w0 w : World} {Es : List Ent}
theorem c_cnum {v : Value} {l : List UInt8} {n : UInt64} (st : St m0 m F w0 w (byE v l :: Es)) (hl : l.length ≤ 1099511627776) : Ret Try.prog 31 #[v, u64 n] w fun v' w' => St m0 m F w0 w' (byE v' (l ++ numB n.toNat) :: Es) := by
 obtain ⟨A, hA⟩ : ∃ A, A = l ++ numB n.toNat := ⟨_, rfl⟩
 have hn10 := numB_len10 n.toNat_lt
 have hAl : A.length ≤ 1099511627786 := by rw [hA, List.length_append]; omega
 rw [← hA]
 refine ret_of Try.call31 Try.func31 rfl Try.ntmps31 Try.results31 rfl ?_
 refine wc_seq ?_
 refine wc_region ?_
 refine wl_val (v_assign' (by conv => (lhs; whnf))) rfl ?_
 refine wl_nil ?_
 refine then_go ?_
 refine wc_seq ?_
 refine wc_block ?_
 refine wc_loop (S := Nat) (fun q r w' => ∃ (v : Value) (l : List UInt8) (n : UInt64), q = n.toNat ∧ r 0 = v ∧ r 1 = u64 n ∧ A = l ++ numB n.toNat ∧ St m0 m F w0 w' (byE v l :: Es)) id n.toNat ⟨v, l, n, rfl, rfl, rfl, hA, st⟩ ?_
 clear st hA hn10
 rintro q r w2 ⟨v, l, n, hq, g0, g1, hA, st⟩
 have hn10 := numB_pos (n := n.toNat)
 have hll : l.length ≤ 1099511627786 := by rw [hA, List.length_append] at hAl; omega
 refine wc_o 0 g0 (wc_o 1 g1 ?_)
 refine wc_seq ?_
 refine wc_seq ?_
 refine wc_region ?_
 refine wl_val (v_move' (by conv => (lhs; whnf))) rfl ?_
 refine wl_val (v_geq (a := (n.toNat : Int)) (b := 128) rfl rfl) rfl ?_
 refine wl_nil ?_
 refine then_go ?_
 refine wc_cond rfl (fun h6 => ?_) (fun h6 => ?_)
 ·refine wc_skip ?_
  refine then_go ?_
  refine wc_block ?_
  refine wc_seq ?_
  have hb : ¬ n.toNat < 128 := by have := of_decide_eq_true h6; omega
  rw [numB_big hb, ← or128] at hA
  refine wc_region ?_
  refine wl_val (v_move' (by conv => (lhs; whnf))) rfl ?_
  refine wl_val (v_move' (by conv => (lhs; whnf))) rfl ?_
  refine wl_val (v_conv64_8 Try.underlying47 Try.underlying5 rfl) rfl ?_
  refine wl_val (v_or8 128 rfl rfl rfl) rfl ?_
  refine wl_byte1 (UInt8.ofNat n.toNat ||| 128) Try.underlying31 TF.t5 TF.z5 rfl st rfl ?_
  intro b11 w st
  refine wl_app1 st Try.underlying31 TF.t5 TF.z5 rfl rfl (by omega) (by omega) rfl ?_
  intro v12 w st hv12
  refine wl_val (v_assign' (by conv => (lhs; whnf))) rfl ?_
  refine wl_nil ?_
  refine then_go ?_
  refine wc_region ?_
  refine wl_val (v_move' (by conv => (lhs; whnf))) rfl ?_
  refine wl_val (v_shr64 7 rfl rfl (by omega)) rfl ?_
  refine wl_val (v_assign' (by conv => (lhs; whnf))) rfl ?_
  refine wl_nil ?_
  refine block_go (then_go ?_)
  exact ⟨(shr64 n 7).toNat, by rw [shr7]; simp; omega, v12, l ++ [UInt8.ofNat n.toNat ||| 128], shr64 n 7, rfl, rfl, rfl, by rw [hA, shr7]; simp, st⟩
 ·refine wc_exit (then_exit (then_exit (block_hit ?_)))
  refine then_go ?_
  refine wc_seq ?_
  have hb : n.toNat < 128 := by have := of_decide_eq_false h6; omega
  rw [numB_small hb] at hA
  refine wc_region ?_
  refine wl_val (v_move' (by conv => (lhs; whnf))) rfl ?_
  refine wl_val (v_move' (by conv => (lhs; whnf))) rfl ?_
  refine wl_val (v_conv64_8 Try.underlying47 Try.underlying5 rfl) rfl ?_
  refine wl_byte1 (UInt8.ofNat n.toNat) Try.underlying31 TF.t5 TF.z5 rfl st rfl ?_
  intro b18 w st
  refine wl_app1 st Try.underlying31 TF.t5 TF.z5 rfl rfl (by omega) (by omega) rfl ?_
  intro v19 w st hv19
  refine wl_val (v_assign' (by conv => (lhs; whnf))) rfl ?_
  refine wl_nil ?_
  refine then_go ?_
  refine wc_ret ?_
  exact ret1 rfl (by rw [hA]; exact st)
theorem c_ctext {v tv : Value} {l t : List UInt8} (st : St m0 m F w0 w (byE v l :: Es)) (hl : l.length ≤ 1099511627776) (htl : t.length ≤ 1099511627776) (hm : SlM m tv 1 t.length (bs t)) :
  Ret Try.prog 32 #[v, tv] w fun v' w' => St m0 m F w0 w' (byE v' (l ++ txtB t) :: Es) := by
 obtain ⟨_, ta, tc, rfl, _⟩ := id hm
 refine ret_of Try.call32 Try.func32 rfl Try.ntmps32 Try.results32 rfl ?_
 refine wc_seq ?_
 refine wc_region ?_
 refine wl_val (v_assign' (by conv => (lhs; whnf))) rfl ?_
 refine wl_nil ?_
 refine then_go ?_
 refine wc_seq ?_
 refine wc_region ?_
 refine wl_val (v_move' (by conv => (lhs; whnf))) rfl ?_
 refine wl_val (v_move' (by conv => (lhs; whnf))) rfl ?_
 refine wl_val (v_len_s Try.underlying31 rfl) rfl ?_
 refine wl_val (v_convi_64 Try.underlying3 Try.underlying47 rfl) rfl ?_
 refine wl_call rfl (c_cnum (n := UInt64.ofNat t.length) st hl) rfl ?_
 intro v9 w st
 rw [UInt64.toNat_ofNat', Nat.mod_eq_of_lt (by omega)] at st
 refine wl_val (v_move' (by conv => (lhs; whnf))) rfl ?_
 have hn10 := numB_len10 (n := t.length) (by omega)
 refine wl_appB (l2 := t) st Try.underlying31 Try.underlying31 (.inr ⟨_, rfl⟩) TF.t5 TF.z5 rfl rfl (hm.src st.im (one_bs _)) (by rw [List.length_append]; omega) (by rw [List.length_append]; omega) rfl ?_
 intro v11 w st hv11
 refine wl_val (v_assign' (by conv => (lhs; whnf))) rfl ?_
 refine wl_nil ?_
 refine then_go ?_
 refine wc_ret ?_
 exact ret1 rfl (by rw [txtB, ← List.append_assoc]; exact st)
end
end Go.Proofs.Ytladpaehbolghaa

namespace Go.Proofs.Ytladpaehbolghaa
open Go Go.RowKit K SH DK JR
theorem K.SlM.opn {m : Mem} {v : Value} {l : List UInt8} (h : SlM m v 1 l.length (bs l)) : ∃ a c, v = .slice a l.length c ∧ l.length ≤ c := by obtain ⟨_, a, c, h, hk, _⟩ := h; exact ⟨a, c, h, hk⟩
theorem K.SlM.tailB {m : Mem} {a : Option Addr} {cap : Nat} {l : List UInt8} (i : Nat) (hx : SlM m (.slice a l.length cap) 1 l.length (bs l)) (hi : i ≤ l.length) : SlM m (.slice (sliceOff a cap i 1) (l.length - i) (cap - i)) 1 (l.drop i).length (bs (l.drop i)) := by
 have h := SlM.subB i l.length hx hi (Nat.le_refl _)
 rw [List.take_of_length_le (by simp)] at h
 rw [List.length_drop]
 exact h
theorem K.SlM.partB {m : Mem} {a : Option Addr} {cap : Nat} {l : List UInt8} (i j : Nat) (hx : SlM m (.slice a l.length cap) 1 l.length (bs l)) (hij : i ≤ j) (hj : j ≤ l.length) : SlM m (.slice (sliceOff a cap i 1) (j - i) (cap - i)) 1 ((l.drop i).take (j - i)).length (bs ((l.drop i).take (j - i))) := by
 have h := SlM.subB i j hx hij hj
 rw [List.length_take, List.length_drop, Nat.min_eq_left (by omega)]
 exact h
section
variable {m : Mem} {w : World}
def NextOut (m : Mem) (v : Value) (o : Option By) : Prop := match o with
 | none => v = .tuple #[.slice none 0 0, .int .i64 0]
 | some x => ∃ xv, v = .tuple #[xv, .int .i64 (recL x.length : Nat)] ∧ SlM m xv 1 x.length (bs x)
theorem c_next {g s : UInt64} {v : Value} {b : By} (him : Im m w) (hb : SlM m v 1 b.length (bs b)) (hl : b.length ≤ 500000000) : Ret Try.prog 61 #[u64 g, u64 s, v] w fun v' w' => Out m w w' fun m' => NextOut m' v' (nextF g s b) := by
 have st := St.start him
 obtain ⟨ba, bc, rfl, hbc⟩ := hb.opn
 refine ret_of Try.call61 Try.func61 rfl Try.ntmps61 Try.results61 rfl ?_
 refine wc_seq ?_
 refine wc_region ?_
 refine wl_val (v_assign' (by conv => (lhs; whnf))) rfl ?_
 refine wl_val (v_assign' (by conv => (lhs; whnf))) rfl ?_
 refine wl_nil ?_
 refine then_go ?_
 refine wc_seq ?_
 refine wc_seq ?_
 refine wc_region ?_
 refine wl_val (v_move' (by conv => (lhs; whnf))) rfl ?_
 refine wl_val (v_len_s Try.underlying31 rfl) rfl ?_
 refine wl_val (v_lss rfl rfl) rfl ?_
 refine wl_nil ?_
 refine then_go ?_
 refine wc_if rfl (fun h13 => ?_) (fun h13 => ?_)
 ·refine wc_seq ?_
  refine wc_region ?_
  refine wl_val (v_assign' (by conv => (lhs; whnf))) rfl ?_
  refine wl_val (v_assign' (by conv => (lhs; whnf))) rfl ?_
  refine wl_nil ?_
  refine then_go ?_
  refine wc_ret (then_ret ?_)
  refine ret2 rfl rfl ((st.keepOnly (l := []) (List.nil_sublist _)).out ?_)
  rw [nextF_short (by omega)]
  rfl
 ·refine wc_skip ?_
  refine then_go ?_
  refine wc_seq ?_
  refine wc_region ?_
  refine wl_val (v_move' (by conv => (lhs; whnf))) rfl ?_
  refine wl_val (v_sls 49 b.length Try.underlying31 TF.t5 rfl ⟨_, _, rfl, rfl⟩ rfl (by omega) hbc) rfl ?_
  have h49 := hb.tailB 49 (by omega)
  refine wl_call rfl (c_length st.im h49 (by rw [List.length_drop]; omega)) rfl ?_
  rintro v16 w ⟨t16, rfl⟩
  have st := st.pure t16
  obtain ⟨q, hq⟩ : ∃ q, q = rd8 (b.drop 49) := ⟨_, rfl⟩
  rw [← hq]
  refine wl_val (v_assign' (by conv => (lhs; whnf))) rfl ?_
  refine wl_nil ?_
  refine then_go ?_
  refine wc_seq ?_
  refine wc_seq ?_
  refine wc_region ?_
  refine wl_val (v_move' (by conv => (lhs; whnf))) rfl ?_
  refine wl_val (v_lss64 (q := 1) rfl rfl) rfl ?_
  refine wl_val (v_move' (by conv => (lhs; whnf))) rfl ?_
  refine wl_valg rfl rfl (fun e => (v_move' (by conv => (lhs; whnf)))) rfl ?_
  refine wl_valg rfl rfl (fun e => (v_move' (by conv => (lhs; whnf)))) rfl ?_
  refine wl_valg rfl rfl (fun e => (v_len_s Try.underlying31 (by first | rfl | exact gx e rfl))) rfl ?_
  refine wl_valg rfl rfl (fun e => (v_sub' (c := ((b.length - 57 : Nat) : Int)) (by first | rfl | exact gx e rfl) (by first | rfl | exact gx e rfl) (by omega) (by omega) (by omega))) rfl ?_
  refine wl_valg rfl rfl (fun e => (v_convi_64 (n := b.length - 57) Try.underlying3 Try.underlying47 (by first | rfl | exact gx e rfl))) rfl ?_
  refine wl_valg rfl rfl (fun e => (v_gtr64 (q := UInt64.ofNat (b.length - 57)) (by first | rfl | exact gx e rfl) (by first | rfl | exact gx e rfl))) rfl ?_
  refine wl_val (v_pickO rfl rfl rfl) rfl ?_
  refine wl_nil ?_
  refine then_go ?_
  refine wc_cond rfl (fun h26 => ?_) (fun h26 => ?_)
  ·refine wc_seq ?_
   refine wc_region ?_
   refine wl_val (v_assign' (by conv => (lhs; whnf))) rfl ?_
   refine wl_val (v_assign' (by conv => (lhs; whnf))) rfl ?_
   refine wl_nil ?_
   refine then_go ?_
   refine wc_ret (then_ret ?_)
   refine ret2 rfl rfl ((st.keepOnly (l := []) (List.nil_sublist _)).out ?_)
   have e : nextF g s b = none := by
    unfold nextF
    rw [if_neg (by omega), if_pos]
    rw [← hq]
    simp only [Bool.or_eq_true, decide_eq_true_eq, UInt64.toNat_ofNat'] at h26
    rw [Nat.mod_eq_of_lt (by omega)] at h26
    exact h26
   rw [e]
   rfl
  ·refine wc_skip ?_
   refine then_go ?_
   refine wc_seq ?_
   have hn : ¬ (q.toNat < 1 ∨ b.length - 57 < q.toNat) := by
    simp only [Bool.or_eq_false_iff, decide_eq_false_iff_not, UInt64.toNat_ofNat'] at h26
    rw [Nat.mod_eq_of_lt (by omega)] at h26
    intro h
    exact h.elim h26.1 h26.2
   refine wc_region ?_
   refine wl_val (v_move' (by conv => (lhs; whnf))) rfl ?_
   refine wl_val (v_move' (by conv => (lhs; whnf))) rfl ?_
   refine wl_val (v_conv64i Try.underlying47 Try.underlying3 rfl (by omega)) rfl ?_
   refine wl_val (v_add' (c := ((57 + q.toNat : Nat) : Int)) rfl rfl (by omega) (by omega) (by omega)) rfl ?_
   refine wl_val (v_sls 57 (57 + q.toNat) Try.underlying31 TF.t5 rfl ⟨_, _, rfl, rfl⟩ ⟨_, _, rfl, rfl⟩ (by omega) (by omega)) rfl ?_
   refine wl_val (v_assign' (by conv => (lhs; whnf))) rfl ?_
   refine wl_nil ?_
   refine then_go ?_
   refine wc_seq ?_
   refine wc_region ?_
   refine wl_val (v_move' (by conv => (lhs; whnf))) rfl ?_
   refine wl_val (v_move' (by conv => (lhs; whnf))) rfl ?_
   refine wl_val (v_move' (by conv => (lhs; whnf))) rfl ?_
   have hx := hb.partB 57 (57 + q.toNat) (by omega) (by omega)
   have hxe : (b.drop 57).take (57 + q.toNat - 57) = (b.drop 57).take (rd8 (b.drop 49)).toNat := by rw [← hq]; congr 1; omega
   have hnx : nextF g s b = if (recB g s ((b.drop 57).take (57 + q.toNat - 57))).length ≤ b.length ∧ recB g s ((b.drop 57).take (57 + q.toNat - 57)) = b.take (recB g s ((b.drop 57).take (57 + q.toNat - 57))).length then some ((b.drop 57).take (57 + q.toNat - 57)) else none := by
    rw [hxe]
    unfold nextF
    rw [if_neg (by omega), if_neg (by rw [← hq]; exact hn)]
   have hxl : ((b.drop 57).take (57 + q.toNat - 57)).length = q.toNat := by rw [List.length_take, List.length_drop]; omega
   obtain ⟨x, hxx⟩ : ∃ x, x = (b.drop 57).take (57 + q.toNat - 57) := ⟨_, rfl⟩
   rw [← hxx] at hx hnx hxl
   refine wl_call rfl (c_jrecord st hx (by omega)) rfl ?_
   intro v35 w st
   have hrl := length_recB g s x
   obtain ⟨ra, rc, hv35, hrc⟩ := (byE_SlM st 0 rfl).opn
   subst hv35
   refine wl_val (v_assign' (by conv => (lhs; whnf))) rfl ?_
   refine wl_nil ?_
   refine then_go ?_
   refine wc_seq ?_
   refine wc_seq ?_
   refine wc_region ?_
   refine wl_val (v_move' (by conv => (lhs; whnf))) rfl ?_
   refine wl_val (v_len_s Try.underlying31 rfl) rfl ?_
   refine wl_val (v_move' (by conv => (lhs; whnf))) rfl ?_
   refine wl_val (v_len_s Try.underlying31 rfl) rfl ?_
   refine wl_val (v_gtr rfl rfl) rfl ?_
   refine wl_val (v_move' (by conv => (lhs; whnf))) rfl ?_
   rcases Bool.eq_false_or_eq_true (decide ((b.length : Int) < ((recB g s x).length : Int))) with hg5 | hg5
   ·rw [hg5]
    refine wl_off rfl rfl rfl rfl ?_
    refine wl_off rfl rfl rfl rfl ?_
    refine wl_off rfl rfl rfl rfl ?_
    refine wl_off rfl rfl rfl rfl ?_
    refine wl_off rfl rfl rfl rfl ?_
    refine wl_off rfl rfl rfl rfl ?_
    refine wl_off rfl rfl rfl rfl ?_
    refine wl_val (v_pick rfl) rfl ?_
    refine wl_nil ?_
    refine then_go ?_
    refine wc_true rfl ?_
    refine wc_seq ?_
    refine wc_region ?_
    refine wl_val (v_assign' (by conv => (lhs; whnf))) rfl ?_
    refine wl_val (v_assign' (by conv => (lhs; whnf))) rfl ?_
    refine wl_nil ?_
    refine then_go ?_
    refine wc_ret (then_ret ?_)
    refine ret2 rfl rfl ((st.keepOnly (l := []) (List.nil_sublist _)).out ?_)
    rw [hnx, if_neg (fun h => by have := of_decide_eq_true hg5; omega)]
    rfl
   ·rw [hg5]
    refine wl_on rfl rfl ?_
    refine wl_val (v_move' (by conv => (lhs; whnf))) rfl ?_
    refine wl_on rfl rfl ?_
    refine wl_val (v_move' (by conv => (lhs; whnf))) rfl ?_
    refine wl_on rfl rfl ?_
    refine wl_val (v_move' (by conv => (lhs; whnf))) rfl ?_
    refine wl_on rfl rfl ?_
    refine wl_val (v_len_s Try.underlying31 rfl) rfl ?_
    refine wl_on rfl rfl ?_
    refine wl_val (v_sls 0 (recB g s x).length Try.underlying31 TF.t5 rfl rfl ⟨_, _, rfl, rfl⟩ (Nat.zero_le _) (by have := of_decide_eq_false hg5; omega)) rfl ?_
    have hle : (recB g s x).length ≤ b.length := by have := of_decide_eq_false hg5; omega
    have hfr := hb.partB 0 (recB g s x).length (Nat.zero_le _) hle
    rw [List.drop_zero, Nat.sub_zero] at hfr
    refine wl_on rfl rfl ?_
    refine wl_call rfl (c_bequal (im_heapM _) (byE_SlM st 0 rfl) (hfr.mono fun k o h => st.im k o h)) rfl ?_
    rintro v47 w ⟨t47, rfl⟩
    have st := st.pure t47
    refine wl_on rfl rfl ?_
    refine wl_val (v_not rfl) rfl ?_
    refine wl_val (v_pick rfl) rfl ?_
    refine wl_nil ?_
    refine then_go ?_
    refine wc_cond rfl (fun h49 => ?_) (fun h49 => ?_)
    ·refine wc_seq ?_
     refine wc_region ?_
     refine wl_val (v_assign' (by conv => (lhs; whnf))) rfl ?_
     refine wl_val (v_assign' (by conv => (lhs; whnf))) rfl ?_
     refine wl_nil ?_
     refine then_go ?_
     refine wc_ret (then_ret ?_)
     refine ret2 rfl rfl ((st.keepOnly (l := []) (List.nil_sublist _)).out ?_)
     rw [hnx, if_neg (fun h => by simp at h49; exact h49 h.2)]
     rfl
    ·refine wc_skip ?_
     refine then_go ?_
     refine wc_seq ?_
     refine wc_region ?_
     refine wl_val (v_move' (by conv => (lhs; whnf))) rfl ?_
     refine wl_call rfl (c_bclone st.im hx (by omega)) rfl ?_
     rintro v51 w ⟨t51, m1, hg1, hi1, hxv⟩
     have st := st.grown hg1 t51 hi1
     refine wl_val (v_move' (by conv => (lhs; whnf))) rfl ?_
     refine wl_val (v_len_s Try.underlying31 rfl) rfl ?_
     refine wl_val (v_assign' (by conv => (lhs; whnf))) rfl ?_
     refine wl_val (v_assign' (by conv => (lhs; whnf))) rfl ?_
     refine wl_nil ?_
     refine then_go ?_
     refine wc_ret ?_
     refine ret2 (v := v51) (v' := .int .i64 (recL x.length : Nat)) rfl (by rw [← hrl]; rfl) ((st.keepOnly (l := []) (List.nil_sublist _)).out ?_)
     rw [hnx, if_pos ⟨hle, by simpa using h49⟩]
     exact ⟨v51, rfl, hxv⟩
theorem c_begun {v : Value} {b : By} (him : Im m w) (hb : SlM m v 1 b.length (bs b)) (hl : 64 ≤ b.length) (hl2 : b.length ≤ 500000000) : Ret Try.prog 58 #[v] w fun v' w' => Tch w w' [] [] ∧ v' = u64 (begF b) := by
 have st := St.start him
 obtain ⟨ba, bc, rfl, hbc⟩ := hb.opn
 refine ret_of Try.call58 Try.func58 rfl Try.ntmps58 Try.results58 rfl ?_
 refine wc_seq ?_
 refine wc_region ?_
 refine wl_val (v_assign' (by conv => (lhs; whnf))) rfl ?_
 refine wl_nil ?_
 refine then_go ?_
 refine wc_seq ?_
 refine wc_seq ?_
 refine wc_region ?_
 refine wl_val (v_move' (by conv => (lhs; whnf))) rfl ?_
 refine wl_val (v_sls 1 b.length Try.underlying31 TF.t5 rfl ⟨_, _, rfl, rfl⟩ rfl (by omega) hbc) rfl ?_
 have h1 := hb.tailB 1 (by omega)
 refine wl_call rfl (c_length st.im h1 (by rw [List.length_drop]; omega)) rfl ?_
 rintro v6 w ⟨t6, rfl⟩
 have st := st.pure t6
 obtain ⟨q, hq⟩ : ∃ q, q = rd8 (b.drop 1) := ⟨_, rfl⟩
 rw [← hq]
 refine wl_val (v_assign' (by conv => (lhs; whnf))) rfl ?_
 refine wl_nil ?_
 refine then_go ?_
 refine wc_seq ?_
 rcases Nat.eq_zero_or_pos q.toNat with hq0 | hq0
 ·refine wc_draw TF.mixed ?_
  have st := st.pure (touch_drew _)
  refine fl_val 0 rfl (fun _ => (v_move' (by conv => (lhs; whnf)))) rfl (by kernel_rfl) ?_
  refine fl_val 1 rfl (fun _ => (wl_valD (v_gtr64 (q := 0) rfl rfl) (q := false) (decide_eq_false (by rw [hq0]; decide)))) rfl (by kernel_rfl) ?_
  refine fl_val 2 rfl (fun _ => (v_move' (by conv => (lhs; whnf)))) rfl (by kernel_rfl) ?_
  refine fl_off 3 rfl rfl rfl rfl rfl rfl (by kernel_rfl) ?_
  refine fl_off 4 rfl rfl rfl rfl rfl rfl (by kernel_rfl) ?_
  refine fl_off 5 rfl rfl rfl rfl rfl rfl (by kernel_rfl) ?_
  refine fl_eff1 6 [4, 3, 1, 0] [] (by kernel_rfl) trivial rfl ?_
  refine wl_off rfl rfl rfl rfl ?_
  refine wl_nil ⟨rfl, ?_⟩
  refine fl_eff1 7 [3, 1, 0] [] (by kernel_rfl) trivial rfl ?_
  refine wl_off rfl rfl rfl rfl ?_
  refine wl_nil ⟨rfl, ?_⟩
  refine fl_val 8 rfl (fun _ => (v_pick rfl)) rfl (by kernel_rfl) ?_
  refine fl_nil (by kernel_rfl) trivial ?_
  refine then_go ?_
  refine wc_false rfl ?_
  refine wc_skip ?_
  refine then_go ?_
  refine wc_seq ?_
  refine wc_region ?_
  refine wl_val (v_assign' (by conv => (lhs; whnf))) rfl ?_
  refine wl_nil ?_
  refine then_go ?_
  refine wc_ret ?_
  refine ret1 (v := u64 0) rfl ⟨(st.keepOnly (l := []) (List.nil_sublist _)).touch, ?_⟩
  unfold begF
  rw [← hq, if_neg (fun h => by omega)]
 ·refine wc_draw TF.mixed ?_
  have st := st.pure (touch_drew _)
  refine fl_val 0 rfl (fun _ => (v_move' (by conv => (lhs; whnf)))) rfl (by kernel_rfl) ?_
  refine fl_val 1 rfl (fun _ => (wl_valD (v_gtr64 (q := 0) rfl rfl) (q := true) (decide_eq_true hq0))) rfl (by kernel_rfl) ?_
  refine fl_val 2 rfl (fun _ => (v_move' (by conv => (lhs; whnf)))) rfl (by kernel_rfl) ?_
  refine fl_on 3 rfl rfl rfl rfl (fun _ => (v_move' (by conv => (lhs; whnf)))) rfl (by kernel_rfl) ?_
  refine fl_on 4 rfl rfl rfl rfl (fun _ => (v_sls 0 64 Try.underlying31 TF.t5 rfl rfl ⟨_, _, rfl, rfl⟩ (by omega) (by omega))) rfl (by kernel_rfl) ?_
  refine fl_on 5 rfl rfl rfl rfl (fun _ => (v_move' (by conv => (lhs; whnf)))) rfl (by kernel_rfl) ?_
  refine fl_eff1 6 [4, 3, 1, 0] [] (by kernel_rfl) trivial rfl ?_
  refine wl_on rfl rfl ?_
  refine wl_call rfl (c_jhead st) rfl ?_
  intro v13 w st
  refine wl_nil ⟨rfl, ?_⟩
  refine fl_eff1 7 [3, 1, 0] [] (by kernel_rfl) trivial rfl ?_
  have hfr := hb.partB 0 64 (by omega) hl
  rw [List.drop_zero, Nat.sub_zero] at hfr
  refine wl_on rfl rfl ?_
  refine wl_call rfl (c_bequal (im_heapM _) (hfr.mono fun k o h => st.im k o h) (byE_SlM st 0 rfl)) rfl ?_
  rintro v14 w ⟨t14, rfl⟩
  have st := st.pure t14
  refine wl_nil ⟨rfl, ?_⟩
  refine fl_val 8 rfl (fun _ => (v_pick rfl)) rfl (by kernel_rfl) ?_
  refine fl_nil (by kernel_rfl) trivial ?_
  refine then_go ?_
  refine wc_cond rfl (fun h15 => ?_) (fun h15 => ?_)
  ·refine wc_seq ?_
   refine wc_region ?_
   refine wl_val (v_move' (by conv => (lhs; whnf))) rfl ?_
   refine wl_val (v_assign' (by conv => (lhs; whnf))) rfl ?_
   refine wl_nil ?_
   refine then_go ?_
   refine wc_ret (then_ret ?_)
   refine ret1 (v := u64 q) rfl ⟨(st.keepOnly (l := []) (List.nil_sublist _)).touch, ?_⟩
   unfold begF
   rw [← hq, if_pos ⟨hq0, of_decide_eq_true h15⟩]
  ·refine wc_skip ?_
   refine then_go ?_
   refine wc_seq ?_
   refine wc_region ?_
   refine wl_val (v_assign' (by conv => (lhs; whnf))) rfl ?_
   refine wl_nil ?_
   refine then_go ?_
   refine wc_ret ?_
   refine ret1 (v := u64 0) rfl ⟨(st.keepOnly (l := []) (List.nil_sublist _)).touch, ?_⟩
   unfold begF
   rw [← hq, if_neg (fun h => of_decide_eq_false h15 h.2)]
end
end Go.Proofs.Ytladpaehbolghaa

namespace Go.Proofs.Ytladpaehbolghaa
open Go Go.RowKit K SH GC JR
abbrev faultV : Value := .iface 113 (.agg #[])
abbrev rdE (rb : Nat) (bv : Value) (i : Nat) : Ent := K.blk rb #[bv, .int .i64 i] 115
abbrev rdP (rb : Nat) : Value := .pointer (some ⟨rb, 0, none⟩)
section
variable {m0 m : Mem} {F : List Nat} {w0 w : World} {Es : List Ent}
theorem c_fail {rb : Nat} : RetP Try.prog 46 #[rdP rb] w faultV (fun _ _ => False) (fun w' => w' = w) := by
 refine ret_ofP Try.call46 Try.func46 rfl Try.ntmps46 Try.results46 rfl ?_
 refine wc_region ?_
 refine wl_val (v_build (c' := #[]) [] TF.z113 TF.p113 rfl rfl) rfl ?_
 refine wl_val (v_mkiface Try.underlying113 trivial rfl) rfl ?_
 exact wl_panic rfl ⟨rfl, rfl⟩
theorem c_rbyte {rb i : Nat} {bv : Value} {b : List UInt8} (st : St m0 m F w0 w (rdE rb bv i :: Es)) (hb : SlM m bv 1 b.length (bs b)) (hl : b.length ≤ 1099511627776) (hi : i ≤ b.length) :
  RetP Try.prog 72 #[rdP rb] w faultV (fun v w' => ∃ (h : i < b.length), v = u8 b[i] ∧ St m0 m F w0 w' (rdE rb bv (i + 1) :: Es)) (fun w' => ¬ i < b.length ∧ St m0 m F w0 w' (rdE rb bv i :: Es)) := by
 obtain ⟨ba, bc, rfl, hbc⟩ := hb.opn
 refine ret_ofP Try.call72 Try.func72 rfl Try.ntmps72 Try.results72 rfl ?_
 refine wc_seq ?_
 refine wc_region ?_
 refine wl_val (v_assign' (by conv => (lhs; whnf))) rfl ?_
 refine wl_nil ?_
 refine then_go ?_
 refine wc_seq ?_
 refine wc_seq ?_
 refine wc_draw TF.mixed ?_
 have st := st.pure (touch_drew _)
 refine fl_val 0 rfl (fun _ => (v_move' (by conv => (lhs; whnf)))) rfl (by kernel_rfl) ?_
 refine fl_val 1 rfl (fun _ => (v_nil rfl)) rfl (by kernel_rfl) ?_
 refine fl_val 2 rfl (fun _ => (v_fa TF.f115_1 rfl)) rfl (by kernel_rfl) ?_
 refine fl_ld 3 rfl (v_load rfl (st.reads (v := .int .i64 i) 0 rfl TF.t3 rfl)) (by kernel_rfl) ?_
 refine fl_val 4 rfl (fun _ => (v_move' (by conv => (lhs; whnf)))) rfl (by kernel_rfl) ?_
 refine fl_val 5 rfl (fun _ => (v_nil rfl)) rfl (by kernel_rfl) ?_
 refine fl_val 6 rfl (fun _ => (v_fa TF.f115_0 rfl)) rfl (by kernel_rfl) ?_
 refine fl_ld 7 rfl (v_load rfl (st.reads (v := .slice ba b.length bc) 0 rfl TF.t31 rfl)) (by kernel_rfl) ?_
 refine fl_val 8 rfl (fun _ => (v_len_s Try.underlying31 rfl)) rfl (by kernel_rfl) ?_
 refine fl_val 9 rfl (fun _ => (v_geq rfl rfl)) rfl (by kernel_rfl) ?_
 refine fl_nil (by kernel_rfl) ⟨obl_ld rfl rfl rfl (v_load rfl (st.reads (v := .slice ba b.length bc) 0 rfl TF.t31 rfl)), obl_ld rfl rfl rfl (v_load rfl (st.reads (v := .int .i64 i) 0 rfl TF.t3 rfl)), trivial⟩ ?_
 refine then_go ?_
 refine wc_cond rfl (fun h12 => ?_) (fun h12 => ?_)
 ·refine wc_region ?_
  refine wl_val (v_move' (by conv => (lhs; whnf))) rfl ?_
  exact wl_callP rfl c_fail rfl (fun w' h => by subst h; exact ⟨rfl, by have := of_decide_eq_true h12; omega, st⟩) (fun _ _ h => h.elim)
 ·refine wc_skip ?_
  refine then_go ?_
  refine wc_seq ?_
  have hib : i < b.length := by have := of_decide_eq_false h12; omega
  refine wc_region ?_
  refine wl_val (v_move' (by conv => (lhs; whnf))) rfl ?_
  refine wl_val (v_nil rfl) rfl ?_
  refine wl_val (v_fa TF.f115_1 rfl) rfl ?_
  refine wl_val (v_load rfl (st.reads (v := .int .i64 i) 0 rfl TF.t3 rfl)) rfl ?_
  refine wl_val (v_add' (c := ((i + 1 : Nat) : Int)) rfl rfl (by omega) (by omega) (by omega)) rfl ?_
  refine wl_val (v_nil rfl) rfl ?_
  refine wl_val (v_fa TF.f115_1 rfl) rfl ?_
  refine wl_store1 (v := .int .i64 ((i + 1 : Nat) : Int)) 0 st rfl TF.t3 rfl rfl rfl (lt_ok rfl) ?_
  intro w st
  have st : St m0 m F w0 w (rdE rb (.slice ba b.length bc) (i + 1) :: Es) := st
  refine wl_nil ?_
  refine then_go ?_
  refine wc_seq ?_
  obtain ⟨bb, bo, _, hbe, _⟩ := hb.ptr1 (by omega) (by decide)
  simp only [Value.slice.injEq] at hbe
  obtain ⟨hba, _, _⟩ := hbe
  subst hba
  refine wc_draw TF.mixed ?_
  have st := st.pure (touch_drew _)
  refine fl_val 0 rfl (fun _ => (v_move' (by conv => (lhs; whnf)))) rfl (by kernel_rfl) ?_
  refine fl_val 1 rfl (fun _ => (v_nil rfl)) rfl (by kernel_rfl) ?_
  refine fl_val 2 rfl (fun _ => (v_fa TF.f115_0 rfl)) rfl (by kernel_rfl) ?_
  refine fl_ld 3 rfl (v_load rfl (st.reads (v := .slice (some ⟨bb, bo, none⟩) b.length bc) 0 rfl TF.t31 rfl)) (by kernel_rfl) ?_
  refine fl_val 4 rfl (fun _ => (v_move' (by conv => (lhs; whnf)))) rfl (by kernel_rfl) ?_
  refine fl_val 5 rfl (fun _ => (v_nil rfl)) rfl (by kernel_rfl) ?_
  refine fl_val 6 rfl (fun _ => (v_fa TF.f115_1 rfl)) rfl (by kernel_rfl) ?_
  refine fl_ld 7 rfl (v_load rfl (st.reads (v := .int .i64 ((i + 1 : Nat) : Int)) 0 rfl TF.t3 rfl)) (by kernel_rfl) ?_
  refine fl_val 8 rfl (fun _ => (v_sub' (c := (i : Int)) rfl rfl (by omega) (by omega) (by omega))) rfl (by kernel_rfl) ?_
  refine fl_val 9 rfl (fun _ => (v_ias i Try.underlying31 TF.t5 rfl rfl (by first | rfl | omega) (by first | omega | (dsimp only at *; omega)))) rfl (by kernel_rfl) ?_
  refine fl_ld 10 rfl (v_load rfl (SlM.rdB TF.t5 i hb hib st.im)) (by kernel_rfl) ?_
  refine fl_eff1 11 [] [] (by kernel_rfl) ⟨obl_ld rfl rfl rfl (v_load rfl (SlM.rdB TF.t5 i hb hib st.im)), obl_ld rfl rfl rfl (v_load rfl (st.reads (v := .int .i64 ((i + 1 : Nat) : Int)) 0 rfl TF.t3 rfl)), obl_ld rfl rfl rfl (v_load rfl (st.reads (v := .slice (some ⟨bb, bo, none⟩) b.length bc) 0 rfl TF.t31 rfl)), trivial⟩ rfl ?_
  refine wl_val (v_assign' (by conv => (lhs; whnf))) rfl ?_
  refine wl_nil ⟨rfl, ?_⟩
  refine fl_nil (by kernel_rfl) trivial ?_
  refine then_go ?_
  refine wc_ret ?_
  exact toP (ret1 rfl ⟨hib, rfl, st⟩)
theorem or_low {A : UInt64} {c k : Nat} (hA : A.toNat < 2 ^ (7 * k)) (hk : k ≤ 9) (hc : c < 128) (h9 : k = 9 → c ≤ 1) : (A ||| shl64 (UInt64.ofNat c) (7 * k)).toNat = A.toNat + 2 ^ (7 * k) * c ∧ A.toNat + 2 ^ (7 * k) * c < 2 ^ (7 * (k + 1)) := by
 have e1 : (UInt64.ofNat c).toNat = c := by rw [UInt64.toNat_ofNat']; omega
 have hp : 0 < 2 ^ (7 * k) := Nat.pow_pos (by decide)
 have e7 : 2 ^ (7 * (k + 1)) = 2 ^ (7 * k) * 128 := by rw [show 7 * (k + 1) = 7 * k + 7 by omega, Nat.pow_add]
 have hcb : 2 ^ (7 * k) * c ≤ 2 ^ (7 * k) * 127 := Nat.mul_le_mul_left _ (by omega)
 have h64 : c * 2 ^ (7 * k) < 2 ^ 64 := by
  by_cases h : k = 9
  ·subst h
   have := h9 rfl
   have h1 : c * 2 ^ (7 * 9) ≤ 1 * 2 ^ (7 * 9) := Nat.mul_le_mul_right _ this
   exact Nat.lt_of_le_of_lt h1 (by decide)
  ·have h1 : 2 ^ (7 * k) ≤ 2 ^ 56 := Nat.pow_le_pow_right (by decide) (by omega)
   have h2 : c * 2 ^ (7 * k) ≤ 127 * 2 ^ 56 := Nat.mul_le_mul (by omega) h1
   exact Nat.lt_of_le_of_lt h2 (by decide)
 have e2 : (shl64 (UInt64.ofNat c) (7 * k)).toNat = c * 2 ^ (7 * k) := by
  unfold shl64
  rw [UInt64.toNat_ofNat', e1, Nat.mod_eq_of_lt h64]
 refine ⟨?_, by rw [e7]; omega⟩
 rw [UInt64.toNat_or, e2, Nat.or_comm, ← Nat.shiftLeft_eq, ← Nat.shiftLeft_add_eq_or_of_lt hA, Nat.shiftLeft_eq, Nat.mul_comm c]
 omega
theorem c_rdnum {rb i : Nat} {bv : Value} {b : List UInt8} (st : St m0 m F w0 w (rdE rb bv i :: Es)) (hb : SlM m bv 1 b.length (bs b)) (hl : b.length ≤ 1099511627776) (hi : i ≤ b.length) :
  RetP Try.prog 63 #[rdP rb] w faultV (fun v w' => ∃ n j, i < j ∧ j ≤ b.length ∧ numR 0 (b.drop i) = some (n, b.drop j) ∧ v = u64 (UInt64.ofNat n) ∧ St m0 m F w0 w' (rdE rb bv j :: Es)) (fun w' => numR 0 (b.drop i) = none ∧ ∃ j, j ≤ b.length ∧ St m0 m F w0 w' (rdE rb bv j :: Es)) := by
 obtain ⟨N0, hN0⟩ : ∃ N0, N0 = numR 0 (b.drop i) := ⟨_, rfl⟩
 rw [← hN0]
 refine ret_ofP Try.call63 Try.func63 rfl Try.ntmps63 Try.results63 rfl ?_
 refine wc_seq ?_
 refine wc_region ?_
 refine wl_val (v_assign' (by conv => (lhs; whnf))) rfl ?_
 refine wl_nil ?_
 refine then_go ?_
 refine wc_seq ?_
 refine wc_region ?_
 refine wl_val (v_assign' (by conv => (lhs; whnf))) rfl ?_
 refine wl_val (v_assign' (by conv => (lhs; whnf))) rfl ?_
 refine wl_nil ?_
 refine then_go ?_
 refine wc_block ?_
 refine wc_loop (S := Nat) (fun q r w' => ∃ (k j : Nat) (A : UInt64), q = 10 - k ∧ k ≤ 9 ∧ i ≤ j ∧ j ≤ b.length ∧ A.toNat < 2 ^ (7 * k) ∧ r 0 = rdP rb ∧ r 3 = u64 A ∧ r 4 = .int .i64 ((7 * k : Nat) : Int) ∧ (N0 = match numR k (b.drop j) with | none => none | some (n, r) => some (A.toNat + 2 ^ (7 * k) * n, r)) ∧ St m0 m F w0 w' (rdE rb bv j :: Es)) id 10 ⟨0, i, 0, rfl, by omega, Nat.le_refl _, hi, by decide, rfl, rfl, rfl, by rw [hN0]; cases numR 0 (b.drop i) <;> simp, st⟩ ?_
 clear st hN0
 rintro q r w2 ⟨k, j, A, hq, hk, hij, hj, hA, g0, g3, g4, hN, st⟩
 refine wc_o 0 g0 (wc_o 3 g3 (wc_o 4 g4 ?_))
 refine wc_block ?_
 refine wc_seq ?_
 refine wc_region ?_
 refine wl_val (v_move' (by conv => (lhs; whnf))) rfl ?_
 refine wl_callP rfl (c_rbyte st hb hl hj) rfl (fun w' h => ⟨rfl, by rw [hN, List.drop_eq_nil_of_le (by omega)]; rfl, j, hj, h.2⟩) ?_
 rintro v7 w ⟨hjl, rfl, st⟩
 rw [List.drop_eq_getElem_cons hjl, numR_cons] at hN
 obtain ⟨c, hc⟩ : ∃ c, c = b[j] := ⟨_, rfl⟩
 rw [← hc] at hN ⊢
 have hc8 := c.toNat_lt
 refine wl_val (v_assign' (by conv => (lhs; whnf))) rfl ?_
 refine wl_nil ?_
 refine then_go ?_
 refine wc_cut (fun r w' => ¬ ((k = 9 ∧ 1 < c.toNat) ∨ (0 < k ∧ c.toNat = 0)) ∧ r 0 = rdP rb ∧ r 3 = u64 A ∧ r 4 = .int .i64 ((7 * k : Nat) : Int) ∧ r 5 = u8 c ∧ St m0 m F w0 w' (rdE rb bv (j + 1) :: Es)) ?_ ?_
 ·refine wc_seq ?_
  by_cases h9 : k = 9
  ·by_cases hc1 : 1 < c.toNat
   ·refine wc_region ?_
    refine wl_val (v_move' (by conv => (lhs; whnf))) rfl ?_
    refine wl_val (wl_valD (v_eql rfl rfl) (q := true) (decide_eq_true (by omega))) rfl ?_
    refine wl_val (v_move' (by conv => (lhs; whnf))) rfl ?_
    refine wl_on rfl rfl ?_
    refine wl_val (v_move' (by conv => (lhs; whnf))) rfl ?_
    refine wl_on rfl rfl ?_
    refine wl_val (wl_valD (v_gtr (a := (c.toNat : Int)) (b := 1) rfl rfl) (q := true) (decide_eq_true (by omega))) rfl ?_
    refine wl_val (v_pick rfl) rfl ?_
    refine wl_val (v_move' (by conv => (lhs; whnf))) rfl ?_
    refine wl_off rfl rfl rfl rfl ?_
    refine wl_off rfl rfl rfl rfl ?_
    refine wl_off rfl rfl rfl rfl ?_
    refine offU rfl rfl rfl ?_
    refine offU rfl rfl rfl ?_
    refine wl_off rfl rfl rfl rfl ?_
    refine wl_val (v_pick rfl) rfl ?_
    refine wl_nil ?_
    refine then_go ?_
    refine wc_true rfl ?_
    refine wc_region ?_
    refine wl_val (v_move' (by conv => (lhs; whnf))) rfl ?_
    rw [if_pos (by omega)] at hN
    exact wl_callP rfl c_fail rfl (fun w' h => by subst h; exact ⟨rfl, hN, j + 1, by omega, st⟩) (fun _ _ h => h.elim)
   ·refine wc_region ?_
    refine wl_val (v_move' (by conv => (lhs; whnf))) rfl ?_
    refine wl_val (wl_valD (v_eql rfl rfl) (q := true) (decide_eq_true (by omega))) rfl ?_
    refine wl_val (v_move' (by conv => (lhs; whnf))) rfl ?_
    refine wl_on rfl rfl ?_
    refine wl_val (v_move' (by conv => (lhs; whnf))) rfl ?_
    refine wl_on rfl rfl ?_
    refine wl_val (wl_valD (v_gtr (a := (c.toNat : Int)) (b := 1) rfl rfl) (q := false) (decide_eq_false (by omega))) rfl ?_
    refine wl_val (v_pick rfl) rfl ?_
    refine wl_val (v_move' (by conv => (lhs; whnf))) rfl ?_
    refine wl_on rfl rfl ?_
    refine wl_val (v_move' (by conv => (lhs; whnf))) rfl ?_
    refine wl_on rfl rfl ?_
    refine wl_val (wl_valD (v_gtr rfl rfl) (q := true) (decide_eq_true (by omega))) rfl ?_
    refine wl_on rfl rfl ?_
    refine wl_val (v_move' (by conv => (lhs; whnf))) rfl ?_
    refine wl_on rfl rfl ?_
    refine wl_val (v_move' (by conv => (lhs; whnf))) rfl ?_
    refine wl_on rfl rfl ?_
    refine wl_val (v_eql (a := (c.toNat : Int)) (b := 0) rfl rfl) rfl ?_
    refine wl_on rfl rfl ?_
    refine wl_val (v_pick rfl) rfl ?_
    refine wl_val (v_pick rfl) rfl ?_
    refine wl_nil ?_
    refine then_go ?_
    refine wc_cond rfl (fun h21 => ?_) (fun h21 => ?_)
    ·refine wc_region ?_
     refine wl_val (v_move' (by conv => (lhs; whnf))) rfl ?_
     have hz := of_decide_eq_true h21
     rw [if_pos (by omega)] at hN
     exact wl_callP rfl c_fail rfl (fun w' h => by subst h; exact ⟨rfl, hN, j + 1, by omega, st⟩) (fun _ _ h => h.elim)
    ·refine wc_skip ?_
     refine then_go ?_
     exact ⟨by have := of_decide_eq_false h21; omega, rfl, rfl, rfl, rfl, st⟩
  ·by_cases hk0 : 0 < k
   ·refine wc_region ?_
    refine wl_val (v_move' (by conv => (lhs; whnf))) rfl ?_
    refine wl_val (wl_valD (v_eql rfl rfl) (q := false) (decide_eq_false (by omega))) rfl ?_
    refine wl_val (v_move' (by conv => (lhs; whnf))) rfl ?_
    refine wl_off rfl rfl rfl rfl ?_
    refine wl_off rfl rfl rfl rfl ?_
    refine wl_val (v_pick rfl) rfl ?_
    refine wl_val (v_move' (by conv => (lhs; whnf))) rfl ?_
    refine wl_on rfl rfl ?_
    refine wl_val (v_move' (by conv => (lhs; whnf))) rfl ?_
    refine wl_on rfl rfl ?_
    refine wl_val (wl_valD (v_gtr rfl rfl) (q := true) (decide_eq_true (by omega))) rfl ?_
    refine wl_on rfl rfl ?_
    refine wl_val (v_move' (by conv => (lhs; whnf))) rfl ?_
    refine wl_on rfl rfl ?_
    refine wl_val (v_move' (by conv => (lhs; whnf))) rfl ?_
    refine wl_on rfl rfl ?_
    refine wl_val (v_eql (a := (c.toNat : Int)) (b := 0) rfl rfl) rfl ?_
    refine wl_on rfl rfl ?_
    refine wl_val (v_pick rfl) rfl ?_
    refine wl_val (v_pick rfl) rfl ?_
    refine wl_nil ?_
    refine then_go ?_
    refine wc_cond rfl (fun h21 => ?_) (fun h21 => ?_)
    ·refine wc_region ?_
     refine wl_val (v_move' (by conv => (lhs; whnf))) rfl ?_
     have hz := of_decide_eq_true h21
     rw [if_pos (by omega)] at hN
     exact wl_callP rfl c_fail rfl (fun w' h => by subst h; exact ⟨rfl, hN, j + 1, by omega, st⟩) (fun _ _ h => h.elim)
    ·refine wc_skip ?_
     refine then_go ?_
     exact ⟨by have := of_decide_eq_false h21; omega, rfl, rfl, rfl, rfl, st⟩
   ·refine wc_region ?_
    refine wl_val (v_move' (by conv => (lhs; whnf))) rfl ?_
    refine wl_val (wl_valD (v_eql rfl rfl) (q := false) (decide_eq_false (by omega))) rfl ?_
    refine wl_val (v_move' (by conv => (lhs; whnf))) rfl ?_
    refine wl_off rfl rfl rfl rfl ?_
    refine wl_off rfl rfl rfl rfl ?_
    refine wl_val (v_pick rfl) rfl ?_
    refine wl_val (v_move' (by conv => (lhs; whnf))) rfl ?_
    refine wl_on rfl rfl ?_
    refine wl_val (v_move' (by conv => (lhs; whnf))) rfl ?_
    refine wl_on rfl rfl ?_
    refine wl_val (wl_valD (v_gtr rfl rfl) (q := false) (decide_eq_false (by omega))) rfl ?_
    refine wl_on rfl rfl ?_
    refine wl_val (v_move' (by conv => (lhs; whnf))) rfl ?_
    refine wl_off rfl rfl rfl rfl ?_
    refine wl_off rfl rfl rfl rfl ?_
    refine wl_on rfl rfl ?_
    refine wl_val (v_pick rfl) rfl ?_
    refine wl_val (v_pick rfl) rfl ?_
    refine wl_nil ?_
    refine then_go ?_
    refine wc_false rfl ?_
    refine wc_skip ?_
    refine then_go ?_
    exact ⟨by omega, rfl, rfl, rfl, rfl, st⟩
 ·clear st
  rintro r w ⟨hgood, g0, g3, g4, g5, st⟩
  refine wc_o 0 g0 (wc_o 3 g3 (wc_o 4 g4 (wc_o 5 g5 ?_)))
  rw [if_neg hgood] at hN
  have hor := or_low (c := c.toNat % 128) hA hk (by omega) (by omega)
  have h127 : c.toNat &&& 127 = c.toNat % 128 := Nat.and_two_pow_sub_one_eq_mod c.toNat 7
  refine wc_seq ?_
  refine wc_region ?_
  refine wl_val (v_move' (by conv => (lhs; whnf))) rfl ?_
  refine wl_val (v_move' (by conv => (lhs; whnf))) rfl ?_
  refine wl_val (v_to (v' := .int .u8 (c.toNat % 128 : Nat)) (v_and8 127 (by omega) rfl rfl) (by rw [h127])) rfl ?_
  refine wl_val (v_convi_64 Try.underlying5 Try.underlying47 rfl) rfl ?_
  refine wl_val (v_move' (by conv => (lhs; whnf))) rfl ?_
  refine wl_val (v_shl64 (7 * k) rfl rfl (by omega)) rfl ?_
  refine wl_val (v_or64 rfl rfl) rfl ?_
  refine wl_val (v_assign' (by conv => (lhs; whnf))) rfl ?_
  refine wl_nil ?_
  refine then_go ?_
  refine wc_seq ?_
  refine wc_seq ?_
  refine wc_region ?_
  refine wl_val (v_move' (by conv => (lhs; whnf))) rfl ?_
  refine wl_val (v_lss (a := (c.toNat : Int)) (b := 128) rfl rfl) rfl ?_
  refine wl_nil ?_
  refine then_go ?_
  refine wc_cond rfl (fun h32 => ?_) (fun h32 => ?_)
  ·refine wc_seq ?_
   refine wc_region ?_
   refine wl_val (v_move' (by conv => (lhs; whnf))) rfl ?_
   refine wl_val (v_assign' (by conv => (lhs; whnf))) rfl ?_
   refine wl_nil ?_
   refine then_go ?_
   refine wc_ret (then_ret (block_ret (then_ret (block_ret ?_))))
   have h128 : c.toNat < 128 := by have := of_decide_eq_true h32; omega
   rw [if_pos h128] at hN
   have e128 : c.toNat % 128 = c.toNat := Nat.mod_eq_of_lt h128
   have hval : u64 (A ||| shl64 (UInt64.ofNat (c.toNat % 128)) (7 * k)) = u64 (UInt64.ofNat (A.toNat + 2 ^ (7 * k) * c.toNat)) := by
    rw [e128] at hor ⊢
    rw [← hor.1, UInt64.ofNat_toNat]
   exact toP (ret1 rfl ⟨A.toNat + 2 ^ (7 * k) * c.toNat, j + 1, by omega, by omega, hN, hval, st⟩)
  ·refine wc_skip ?_
   refine then_go ?_
   refine wc_region ?_
   refine wl_val (v_move' (by conv => (lhs; whnf))) rfl ?_
   refine wl_val (v_add' (c := ((7 * (k + 1) : Nat) : Int)) rfl rfl (by omega) (by omega) (by omega)) rfl ?_
   refine wl_val (v_assign' (by conv => (lhs; whnf))) rfl ?_
   refine wl_nil ?_
   refine block_go (then_go ?_)
   have h128 : ¬ c.toNat < 128 := by have := of_decide_eq_false h32; omega
   have hk9 : k ≠ 9 := by rintro rfl; exact hgood (.inl ⟨rfl, by omega⟩)
   rw [if_neg h128] at hN
   refine ⟨10 - (k + 1), by simp; omega, k + 1, j + 1, _, rfl, by omega, by omega, by omega, ?_, rfl, rfl, rfl, ?_, st⟩
   ·rw [hor.1]; exact hor.2
   ·rw [hN, hor.1]
    cases numR (k + 1) (b.drop (j + 1)) with
    | none => rfl
    | some p =>
     obtain ⟨n, r⟩ := p
     simp only [Option.some.injEq, Prod.mk.injEq, and_true]
     rw [show 7 * (k + 1) = 7 * k + 7 by omega, Nat.pow_add, Nat.mul_add, Nat.mul_assoc, Nat.add_assoc]
end
end Go.Proofs.Ytladpaehbolghaa

namespace Go.Proofs.Ytladpaehbolghaa
open Go Go.RowKit K Go.Sort Go.Shelf
section
variable {α : Type} [Inhabited α] {enc : α → List Value} {k : Nat}
omit [Inhabited α] in
theorem flat_len0 (hk : ∀ x, (enc x).length = k) (L : List α) : (L.flatMap enc).length = L.length * k := by
 induction L with
 | nil => simp
 | cons x L ih => rw [List.flatMap_cons, List.length_append, ih, hk, List.length_cons, Nat.add_mul]; omega
theorem flat_get (hk : ∀ x, (enc x).length = k) : ∀ (L : List α) (t : Nat), t < L.length * k → (L.flatMap enc)[t]! = (enc L[t / k]!)[t % k]!
  | [], t, h => by simp at h
  | x :: L, t, h => by
    have k0 : 0 < k := by rcases Nat.eq_zero_or_pos k with e | e; · simp [e] at h
                          · exact e
    rw [List.length_cons, Nat.add_mul, Nat.one_mul] at h
    rw [List.flatMap_cons, List.getElem!_eq_getElem?_getD]
    by_cases ht : t < k
    · rw [List.getElem?_append_left (by rw [hk]; exact ht), Nat.div_eq_of_lt ht, Nat.mod_eq_of_lt ht, ← List.getElem!_eq_getElem?_getD]
      rfl
    · obtain ⟨u, rfl⟩ : ∃ u, t = u + k := ⟨t - k, by omega⟩
      rw [List.getElem?_append_right (by rw [hk]; omega), hk, Nat.add_sub_cancel, Nat.add_div_right _ k0, Nat.add_mod_right, ← List.getElem!_eq_getElem?_getD, flat_get hk L u (by omega)]
      simp
theorem flatK_eq (hk : ∀ x, (enc x).length = k) (L : List α) : flatK enc k L.toArray = (L.flatMap enc).toArray := by
 refine ext_get! (by simp [flat_len0 hk]) fun t ht => ?_
 have ht' : t < L.length * k := by simpa using ht
 rw [get_flatK _ _ _ t (by simpa using ht')]
 have := flat_get hk L t ht'
 simpa using this.symm
theorem put_cells {F G sp : List Value} (h : F.length = G.length) : putCells id 0 F.toArray (G ++ sp).toArray = (F ++ sp).toArray := by
 refine ext_get! (by simp [putCells, h]) fun t ht => ?_
 have ht' : t < G.length + sp.length := by simpa [putCells] using ht
 unfold putCells
 rw [getElem!_pos _ t (by simpa using ht'), Array.getElem_mapIdx, getElem!_pos _ t (by simp [h]; omega)]
 by_cases hf : t < F.length
 ·simp [hf, List.getElem_append_left]
 ·have hg : ¬ t < G.length := by omega
  simp [hg, h]
  rw [List.getElem_append_right (by omega), List.getElem_append_right (by omega)]
  simp [h]
theorem sortedW {P : Program} {w : World} {b : Nat} {L L' : List α} {sp : List Value} {E : TypeId} {n : Nat} {os : Array Obj} (hk : ∀ x, (enc x).length = k) (hl : L'.length = L.length) (hb : w.heap[b]? = some (.cells (L.flatMap enc ++ sp).toArray E (0, 0))) :
  Tch w (sortWorldK enc k w b 0 n L'.toArray os) [b] [b] ∧ (sortWorldK enc k w b 0 n L'.toArray os).heap[b]? = some (.cells (L'.flatMap enc ++ sp).toArray E (0, 0)) := by
 have hlt := lt_of_get hb
 unfold sortWorldK putRowK putRow mapBlock
 rw [flatK_eq hk]
 refine ⟨⟨rfl, rfl, rfl, by simp [grow, ahead], fun j hj hn => ?_, fun _ h => .inl h⟩, ?_⟩
 ·show ((w.heap.modify b _) ++ os)[j]? = _
  rw [Array.getElem?_append_left (by simpa using hj), Array.getElem?_modify, if_neg (by simp at hn; exact fun e => hn e.symm)]
 ·show ((w.heap.modify b _) ++ os)[b]? = _
  rw [Array.getElem?_append_left (by simpa using hlt), Array.getElem?_modify, if_pos rfl, hb]
  show some (Obj.cells (putCells id 0 _ _) E (0, 0)) = _
  rw [put_cells (by rw [flat_len0 hk, flat_len0 hk, hl])]
theorem holds_row {w : World} {b : Nat} {L : List α} {sp : List Value} {E : TypeId} (hk : ∀ x, (enc x).length = k) (hb : w.heap[b]? = some (.cells (L.flatMap enc ++ sp).toArray E (0, 0))) : HoldsK enc k w b 0 L.toArray := by
 unfold HoldsK
 rw [flatK_eq hk]
 intro j hj
 have hj' : j < (L.flatMap enc).length := by simpa using hj
 constructor
 ·unfold World.cell?
  rw [hb]
  simp only [Option.isSome_none, Bool.false_eq_true, if_false, Nat.zero_add, List.getElem?_toArray, id_eq]
  rw [List.getElem?_append_left hj', List.getElem?_eq_getElem hj', getElem!_pos _ j hj]
  simp
 ·unfold World.frozen?
  rw [hb]
  simp
theorem wl_boxX {P : Program} {n d : Nat} {ops : Array Oper} {Q : Po} {r : Fr} {w : World} {rest : List Oper} {ty : TypeId} {pos : String} {after : Array Edge} {T : TypeId} {x : Operand} {v : Value} (hx : ev r x = v) (hd : Nat.blt d n = true)
  (k : WL P n ops Q rest (upd d (.pointer (some ⟨w.heap.size, 0, none⟩)) r) (grow w #[.cells v.cells T (0, 0)])) :
  WL P n ops Q (⟨some d, .box T x, ty, pos, after, none⟩ :: rest) r w := by
 refine wl_val (v := .pointer (some ⟨w.heap.size, 0, none⟩)) (w' := w.alloc (.cells v.cells T)) ?_ hd (by rw [alloc_eq_grow]; exact k)
 intro _ _ _ _
 simp [execOp, Instr.box, newVar, newRow, hx]
theorem grow_at {w : World} {os : Array Obj} {k : Nat} : (grow w os).heap[w.heap.size + k]? = os[k]? := by
 show (w.heap ++ os)[w.heap.size + k]? = _
 rw [Array.getElem?_append_right (by omega), Nat.add_sub_cancel_left]
theorem sort_row {P : Program} {ρ : Ren} {E : TypeId} {by' : Nat} (LY : SlLaysF0.n6 P ρ) (hE : ρ.t 24 = E) (tf : TyF P E true k by') (hk : ∀ x, (enc x).length = k) (h1 : ∀ x, ∀ v ∈ enc x, v.oneCell' = true) {cf : α → α → Int} (hO : SWO (ltOf cf)) {g : Nat}
  (eg : ∀ args w, (callFunc g args).run P w = .ok (.enter g args) w) (hcmp : ∀ (W : World) (x y : α), Calls P g #[.agg (enc x).toArray, .agg (enc y).toArray] W fun e w' => e = .returned (.int .i64 (cf x y)) ∧ ∃ q os', w' = grow (W.drewN q) os')
  {m0 m : Mem} {F : List Nat} {w0 w : World} {Es : List Ent} {v : Value} {L : List α} (st : St m0 m F w0 w Es) (i : Nat) (hi : Es[i]? = some (rowE v E k L.length (L.flatMap enc))) (hL : L.length ≤ 1000000000) :
  Calls P (ρ.f 6) #[v, .func (.func g) #[] #[]] w fun e w' => e = .returned (.tuple #[]) ∧ ∃ L' : List α, L'.Perm L ∧ L'.Pairwise (fun x y => ltOf cf y x = false) ∧ St m0 m F w0 w' (Es.set i (rowE v E k L'.length (L'.flatMap enc))) := by
 have hset : Es.set i (rowE v E k L.length (L.flatMap enc)) = Es := by
  obtain ⟨h, he⟩ := List.getElem?_eq_some_iff.1 hi
  rw [← he, List.set_getElem_self]
 rcases (st.at hi).2 with ⟨rfl, h0⟩ | ⟨b, cap, cur, rfl, _, hg, hc, hm, hs, ht⟩
 ·have hn : L.length = 0 := h0
  refine Calls.mono (AnyF.slices_SortFunc_none LY none 0 _ w) ?_
  rintro e w' ⟨rfl, rfl⟩
  have hnil : L = [] := List.length_eq_zero_iff.1 hn
  subst hnil
  exact ⟨rfl, [], List.Perm.refl _, List.Pairwise.nil, by rw [hset]; exact st⟩
 ·obtain ⟨sp, hsp⟩ : ∃ sp, cur = (L.flatMap enc ++ sp).toArray := ⟨cur.toList.drop (L.length * k), by rw [← ht, List.take_append_drop]⟩
  rw [hsp] at hg
  have hcon := AnyQ.slices_SortFunc LY k (hE ▸ tf.isagg) (hE ▸ tf.sz) enc hk h1 cf hO g #[] b 0 cap L.toArray w eg (fun _ _ _ _ x y => hcmp _ x y) (holds_row hk hg) (lt_of_get hg) (by rw [List.size_toArray]; omega)
  rw [List.size_toArray] at hcon
  refine Calls.mono hcon ?_
  rintro e w' ⟨rfl, d', n, os, hp, hs', rfl⟩
  obtain ⟨L', hL'⟩ : ∃ L', d' = L'.toArray := ⟨d'.toList, rfl⟩
  subst hL'
  have hlen : L'.length = L.length := by simpa using hp.1
  have hperm : L'.Perm L := by
   have := hp.2.2
   simpa [hlen, List.take_of_length_le (Nat.le_of_eq hlen)] using this
  have hsort : L'.Pairwise (fun x y => ltOf cf y x = false) := by
   rw [List.pairwise_iff_getElem]
   intro a c ha hc' hac
   have := hs' a c (Nat.zero_le _) hac (by omega)
   simpa [ha, hc'] using this
  have hW := sortedW (P := P) (n := n) (os := os) hk hlen hg
  refine ⟨rfl, L', hperm, hsort, st.step i hi ?_ ⟨by rw [flat_len0 hk], .inr ⟨b, cap, (L'.flatMap enc ++ sp).toArray, by rw [hlen], Nat.zero_le _, hW.2, by rw [hlen]; exact hc, hm, ?_, ?_⟩⟩⟩
  ·simpa [rowE, Value.ownBlock] using hW.1
  ·rw [← hs, hsp]
   simp only [List.size_toArray, List.length_append, flat_len0 hk, hlen]
  ·show (L'.flatMap enc ++ sp).take _ = _
   rw [List.take_left' (by rw [flat_len0 hk])]
end
end Go.Proofs.Ytladpaehbolghaa

namespace Go.Proofs.Ytladpaehbolghaa
open Go Go.RowKit K Go.Sort
theorem cmpB_lt : ∀ {a b : List UInt8}, Lib.compareBytes a b < 0 ↔ a < b
 | [], [] => by simp [Lib.compareBytes]
 | [], _ :: _ => by simp [Lib.compareBytes]
 | _ :: _, [] => by simp [Lib.compareBytes]
 | x :: a, y :: b => by
  have ih := cmpB_lt (a := a) (b := b)
  rw [Lib.compareBytes, List.cons_lt_cons_iff]
  by_cases h1 : x < y
  ·simp [h1]
  ·by_cases h2 : y < x
   ·have : x ≠ y := fun e => by subst e; exact h1 h2
    simp [h1, h2, this]
   ·have : x = y := UInt8.le_antisymm (UInt8.not_lt.1 h2) (UInt8.not_lt.1 h1)
    simp [h1, h2, this, ih]
theorem cmpB_swo {α : Type} (f : α → List UInt8) : SWO (Proofs.ltOf fun x y => Lib.compareBytes (f x) (f y)) where
 irrefl x := by simp [Proofs.ltOf, cmpB_lt]
 trans x y z h1 h2 := by
  simp only [Proofs.ltOf, decide_eq_true_eq, cmpB_lt] at *
  exact List.lt_trans h1 h2
 ntrans x y z h1 h2 := by
  simp only [Proofs.ltOf, decide_eq_false_iff_not, cmpB_lt, List.not_lt] at *
  exact List.le_trans h2 h1
theorem size_strB (n : List UInt8) : (strB n).size = n.length := rfl
theorem bytesLess_iff : ∀ {a b : List UInt8}, Op.bytesLess a b = decide (a < b)
 | _, [] => by simp [Op.bytesLess]
 | [], _ :: _ => by simp [Op.bytesLess]
 | x :: a, y :: b => by
  have ih := bytesLess_iff (a := a) (b := b)
  rw [Op.bytesLess, ih, Bool.eq_iff_iff]
  simp [List.cons_lt_cons_iff]
section
variable {P : Program} {r : Fr} {w : World} {ty T U : TypeId} {x y : Operand} {a b : List UInt8}
theorem v_geStr (hx : ev r x = .string (strB a)) (hy : ev r y = .string (strB b)) : Val P (.binOp .geq T x y U) ty r w (.bool (decide (¬ a < b))) w := by
 intro _ _ _ _
 have e : (!decide (a < b)) = decide (¬ a < b) := decide_not.symm
 simp only [execOp, eqGuard, binOp, hx, hy, Op.stringOp, strB_toList, bytesLess_iff, e]
 rfl
end
end Go.Proofs.Ytladpaehbolghaa

namespace Go.Proofs.Ytladpaehbolghaa
open Go Go.RowKit K SH
abbrev lrE (v : Value) (N : List ((List UInt8) × Value)) : Ent := rowE v 31 1 N.length (N.map (·.2))
def Pcs (m : Mem) (N : List ((List UInt8) × Value)) : Prop := ∀ x ∈ N, SlM m x.2 1 x.1.length (bs x.1)
theorem Pcs.mono {m m' : Mem} {N : List ((List UInt8) × Value)} (h : Pcs m N) (hm : ∀ k o, m k = some o → m' k = some o) : Pcs m' N := fun x hx => (h x hx).mono hm
theorem Pcs.snoc {m : Mem} {N : List ((List UInt8) × Value)} {x : (List UInt8) × Value} (h : Pcs m N) (hx : SlM m x.2 1 x.1.length (bs x.1)) : Pcs m (N ++ [x]) := fun y hy => (List.mem_append.1 hy).elim (h y) fun hy => by rw [List.mem_singleton.1 hy]; exact hx
def Apart (m m' : Mem) (v : Value) (l : List UInt8) : Prop := ∃ m1, (∀ k o, m1 k = some o → m' k = some o ∧ m k = none) ∧ SlM m1 v 1 l.length (bs l)
def PcsN (m m' : Mem) (N N' : List ((List UInt8) × Value)) : Prop := ∀ y ∈ N', y ∈ N ∨ Apart m m' y.2 y.1
theorem Apart.mono {m n m' m'' : Mem} {v : Value} {l : (List UInt8)} (h : Apart m m' v l) (hn : ∀ k o, n k = some o → m k = some o) (hm : ∀ k o, m' k = some o → m'' k = some o) : Apart n m'' v l := by
 obtain ⟨m1, h1, h2⟩ := h
 refine ⟨m1, fun k o hk => ⟨hm k o (h1 k o hk).1, ?_⟩, h2⟩
 cases hq : n k with
 | none => rfl
 | some q => have := hn k q hq; rw [(h1 k o hk).2] at this; cases this
theorem PcsN.refl {m m' : Mem} {N : List ((List UInt8) × Value)} : PcsN m m' N N := fun _ h => .inl h
theorem lr_PcsM {m0 m : Mem} {F : List Nat} {w0 w : World} {Es : List Ent} {v : Value} {N : List ((List UInt8) × Value)} (st : St m0 m F w0 w Es) (i : Nat) (hi : Es[i]? = some (lrE v N)) (h : Pcs m N) : PcsM (heapM w) v N := ⟨row_SlM (m := heapM w) (st.at hi) (fun _ _ _ h => h), fun x hx => (h x hx).mono fun k o h => st.im k o h⟩
section
variable {P : Program} {n : Nat} {ops : Array Oper} {Q : Po} {rest : List Oper} {r : Fr} {w : World} {d : Nat} {ty : TypeId} {pos : String} {after : Array Edge} {m0 m : Mem} {F : List Nat} {w0 : World} {Es : List Ent}
theorem wl_lrApp (i : Nat) {b cap : Nat} {v xv : Value} {s y : Operand} {N : List ((List UInt8) × Value)} {x : (List UInt8)} (st : St m0 m F w0 w (K.blk b #[xv] 31 :: Es)) (hi : Es[i]? = some (lrE v N)) (ho : xv.oneCell' = true) (hs : ev r s = v) (hy : ev r y = .slice (some ⟨b, 0, none⟩) 1 cap) (hN : N.length ≤ 1000000000) (hd : Nat.blt d n = true)
  (k : ∀ v' w', St m0 m F w0 w' (Es.set i (lrE v' (N ++ [(x, xv)]))) → WL Try.prog n ops Q rest (upd d v' r) w') :
  WL Try.prog n ops Q (⟨some d, .call ⟨.builtin .append, #[s, y], #[35, 35]⟩, ty, pos, after, none⟩ :: rest) r w := by
 refine wl_append (news := [xv]) (i + 1) st hi Try.underlying35 Try.underlying35 (.inr ⟨_, rfl⟩) TF.t31 TF.z31 rfl hs hy (st.srcArr (off := 0) 0 rfl rfl (fun j u hj => by simpa using hj) (fun u hu => by rw [List.mem_singleton.1 hu]; exact ho)) (by omega) (by omega) hd ?_
 intro v' w' _ st'
 have e1 : N.map (·.2) ++ [xv] = (N ++ [(x, xv)]).map (·.2) := by simp
 have e2 : N.length + 1 = (N ++ [(x, xv)]).length := by simp
 have st2 := st'.drop 0
 rw [e1, e2] at st2
 exact k v' w' st2
end
end Go.Proofs.Ytladpaehbolghaa

namespace Go.Proofs.Ytladpaehbolghaa
open Go Go.RowKit K SH GC JR
structure Ac where
 key : By
 set : Bool
 data : By
def acC (x : Ac) (vData : Value) : List Value := [.string (strB x.key)] ++ ([.bool x.set] ++ ([vData]))
structure AcOk (m : Mem) (x : Ac) (vData : Value) : Prop where
 key : x.key.length ≤ 9223372036854775807
 data : SlM m vData 1 x.data.length (bs x.data)
theorem AcOk.mono {m m' : Mem} {x : Ac} {vData : Value} (h : AcOk m x vData) (hm : ∀ k o, m k = some o → m' k = some o) : AcOk m' x vData :=
 ⟨h.key, h.data.mono hm⟩
def AcM (m : Mem) (v : Value) (x : Ac) : Prop := ∃ vData, v = .agg (acC x vData).toArray ∧ AcOk m x vData
theorem AcM.mono {m m' : Mem} {v : Value} {x : Ac} (h : AcM m v x) (hm : ∀ k o, m k = some o → m' k = some o) : AcM m' v x := by
 obtain ⟨vData, h1, h2⟩ := h
 exact ⟨_, h1, h2.mono hm⟩
section
variable {m : Mem} {x : Ac} {vData : Value} (h : AcOk m x vData)
include h
theorem Ac.len : (acC x vData).length = 3 := by
 have _ := h
 simp only [acC, List.length_append, List.length_cons, List.length_nil]
theorem Ac.g0_1 : getV false 1 (acC x vData).toArray 0 = some (.string (strB x.key)) := by
 have _ := h
 have e : acC x vData = (([] : List Value)) ++ ([.string (strB x.key)]) ++ ([.bool x.set] ++ [vData] ++ ([] : List Value)) := by simp [acC]
 exact getV_lst (b := []) (a := ([] : List Value)) (c := [.bool x.set] ++ [vData] ++ ([] : List Value)) (by rw [e]; simp) (by simp only [List.length_append, List.length_cons, List.length_nil])
theorem Ac.g1_1 : getV false 1 (acC x vData).toArray 1 = some (.bool x.set) := by
 have _ := h
 have e : acC x vData = (([] : List Value) ++ [.string (strB x.key)]) ++ ([.bool x.set]) ++ ([vData] ++ ([] : List Value)) := by simp [acC]
 exact getV_lst (b := []) (a := ([] : List Value) ++ [.string (strB x.key)]) (c := [vData] ++ ([] : List Value)) (by rw [e]; simp) (by simp only [List.length_append, List.length_cons, List.length_nil])
theorem Ac.g2_1 : getV false 1 (acC x vData).toArray 2 = some (vData) := by
 have _ := h
 have e : acC x vData = (([] : List Value) ++ [.string (strB x.key)] ++ [.bool x.set]) ++ ([vData]) ++ (([] : List Value)) := by simp [acC]
 exact getV_lst (b := []) (a := ([] : List Value) ++ [.string (strB x.key)] ++ [.bool x.set]) (c := ([] : List Value)) (by rw [e]; simp) (by simp only [List.length_append, List.length_cons, List.length_nil])
theorem Ac.one : ∀ u ∈ acC x vData, u.oneCell' = true := (one_app (one_cell rfl) (one_app (one_cell rfl) (one_cell (SlM.one1 h.data))))
end
def Ac.zero : Ac := ⟨[], false, []⟩
abbrev AcT := (Ac × Value)
def acP (p : AcT) : List Value := acC p.1 p.2
def AcsM (m : Mem) (v : Value) (L : List AcT) : Prop := LsM m v acP 3 L ∧ ∀ p ∈ L, AcOk m p.1 p.2
theorem AcsM.mono {m m' : Mem} {v : Value} {L : List AcT} (h : AcsM m v L) (hm : ∀ k o, m k = some o → m' k = some o) : AcsM m' v L := ⟨h.1.mono hm, fun p hp => (h.2 p hp).mono hm⟩
theorem AcsM.nil {m : Mem} : AcsM m (.slice none 0 0) [] := ⟨LsM.nil, by simp⟩
namespace OS
def actOk (a : Ac) : Prop := 1 ≤ a.key.length ∧ a.key.length ≤ 64 ∧ (a.set = true ∨ a.data.length = 0) ∧ a.data.length ≤ 1048576
instance (a : Ac) : Decidable (actOk a) := by unfold actOk; infer_instance
def okL (L : List Ac) : Prop := L.length ≤ 4096 ∧ (∀ a ∈ L, actOk a) ∧ (L.map (·.key)).Pairwise (· < ·)
instance (L : List Ac) : Decidable (okL L) := by unfold okL; infer_instance
def chkL (L : List Ac) : Nat := if okL L then 0 else 1
def GoodTo (L : List Ac) (i : Nat) : Prop := (∀ a ∈ L.take i, actOk a) ∧ ((L.take i).map (·.key)).Pairwise (· < ·)
theorem good0 {L : List Ac} : GoodTo L 0 := ⟨by simp, by simp⟩
theorem good_succ {L : List Ac} {i : Nat} (h : GoodTo L i) (hi : i < L.length) (ha : actOk L[i]) (hk : ∀ (h0 : 0 < i), L[i - 1].key < L[i].key) : GoodTo L (i + 1) := by
 unfold GoodTo
 rw [List.take_succ_eq_append_getElem hi]
 refine ⟨fun a h1 => ?_, ?_⟩
 ·rcases List.mem_append.1 h1 with h1 | h1
  ·exact h.1 a h1
  ·rw [List.mem_singleton.1 h1]; exact ha
 ·rw [List.map_append, List.pairwise_append]
  refine ⟨h.2, by simp, fun a h1 b h2 => ?_⟩
  rw [List.map_singleton, List.mem_singleton] at h2
  subst h2
  obtain ⟨y, hy, rfl⟩ := List.mem_map.1 h1
  obtain ⟨j, hj, rfl⟩ := List.getElem_of_mem hy
  have hji : j < i := by rw [List.length_take] at hj; omega
  have h0 := hk (by omega)
  rw [List.getElem_take]
  by_cases e : j = i - 1
  ·subst e; exact h0
  ·have h3 := List.pairwise_iff_getElem.1 h.2 j (i - 1) (by simp; omega) (by simp; omega) (by omega)
   simp only [List.getElem_map, List.getElem_take] at h3
   exact List.lt_trans h3 h0
theorem good_all {L : List Ac} (h : GoodTo L L.length) : okL L ↔ L.length ≤ 4096 := by
 unfold GoodTo at h
 rw [List.take_length] at h
 exact ⟨fun x => x.1, fun x => ⟨x, h⟩⟩
theorem ok_at {L : List Ac} (h : okL L) {i : Nat} (hi : i < L.length) : actOk L[i] := h.2.1 _ (List.getElem_mem hi)
theorem ok_lt {L : List Ac} (h : okL L) {i : Nat} (hi : i < L.length) (h0 : 0 < i) : L[i - 1].key < L[i].key := by
 have := List.pairwise_iff_getElem.1 h.2.2 (i - 1) i (by simp; omega) (by simp; omega) (by omega)
 simpa using this
end OS
section
open OS
variable {m : Mem} {wI : World}
theorem AcsM.at {m : Mem} {a : Option Addr} {k c : Nat} {L : List AcT} (h : AcsM m (.slice a k c) L) {i : Nat} (hi : i < L.length) :
  ∃ lb lo da dc, a = some ⟨lb, lo, none⟩ ∧ L[i].2 = .slice da L[i].1.data.length dc ∧ (∀ {w' : World}, Im m w' → Reads Try.prog w' 33 ⟨lb, lo + i * 3, none⟩ (.agg (acC L[i].1 L[i].2).toArray)) ∧ (∀ {w' : World}, Im m w' → Reads Try.prog w' 9 ⟨lb, lo + i * 3 + 0, none⟩ (.string (strB L[i].1.key))) ∧ (∀ {w' : World}, Im m w' → Reads Try.prog w' 4 ⟨lb, lo + i * 3 + 1, none⟩ (.bool L[i].1.set)) ∧ (∀ {w' : World}, Im m w' → Reads Try.prog w' 31 ⟨lb, lo + i * 3 + 2, none⟩ L[i].2) := by
 obtain ⟨lb, lo, hla⟩ := h.1.ptr (by omega) (by decide)
 have hok := h.2 _ (List.getElem_mem hi)
 obtain ⟨da, dc, hd, _⟩ := hok.data.opn
 subst hla
 exact ⟨lb, lo, da, dc, rfl, hd, fun him => h.1.rd0 rfl hi (by decide) TF.t33 (getV_all (Ac.len hok)) him, fun him => h.1.rd rfl hi (by decide) TF.t9 (Ac.g0_1 hok) him, fun him => h.1.rd rfl hi (by decide) TF.t4 (Ac.g1_1 hok) him, fun him => h.1.rd rfl hi (by decide) TF.t31 (Ac.g2_1 hok) him⟩
theorem c_chk {v : Value} {L : List AcT} (him : Im m wI) (hL : AcsM m v L) (hLl : L.length ≤ 1099511627776) :
  Ret Try.prog 6 #[v] wI fun v' w' => Tch wI w' [] [] ∧ v' = .int .i64 (chkL (L.map (·.1)) : Nat) := by
 have st := St.start him
 obtain ⟨la, lc, rfl⟩ := hL.1.sl
 obtain ⟨M, hM⟩ : ∃ M, M = L.map (·.1) := ⟨_, rfl⟩
 have hMl : M.length = L.length := by rw [hM, List.length_map]
 rw [← hM]
 refine ret_of Try.call6 Try.func6 rfl Try.ntmps6 Try.results6 rfl ?_
 refine wc_seq ?_
 refine wc_region ?_
 refine wl_val (v_assign' (by conv => (lhs; whnf))) rfl ?_
 refine wl_nil ?_
 refine then_go ?_
 refine wc_seq ?_
 refine wc_seq ?_
 refine wc_region ?_
 refine wl_val (v_move' (by conv => (lhs; whnf))) rfl ?_
 refine wl_val (v_len_s Try.underlying22 rfl) rfl ?_
 refine wl_val (v_move' (by conv => (lhs; whnf))) rfl ?_
 refine wl_nil ?_
 refine then_go ?_
 refine wc_block ?_
 refine wc_loop (S := Nat) (fun q r w' => ∃ i, q + i = L.length ∧ r 0 = .slice la L.length lc ∧ r 5 = .slice la L.length lc ∧ r 6 = .int .i64 L.length ∧ r 7 = .int .i64 i ∧ GoodTo M i ∧ St m m [] wI w' []) id L.length ⟨0, by omega, rfl, rfl, rfl, rfl, good0, st⟩ ?_
 clear st
 rintro q r w2 ⟨i, hqi, g0, g5, g6, g7, hg, st⟩
 refine wc_o 0 g0 (wc_o 5 g5 (wc_o 6 g6 (wc_o 7 g7 ?_)))
 refine wc_seq ?_
 refine wc_region ?_
 refine wl_val (v_lss rfl rfl) rfl ?_
 refine wl_nil ?_
 refine then_go ?_
 refine wc_seq ?_
 refine wc_if rfl (fun h8 => ?_) (fun h8 => ?_)
 ·refine wc_skip ?_
  refine then_go ?_
  refine wc_seq ?_
  refine wc_block ?_
  refine wc_seq ?_
  have hi : i < L.length := by omega
  have hiM : i < M.length := by omega
  obtain ⟨lb, lo, da, dc, hla, hd, hrL, _⟩ := hL.at hi
  subst hla
  have hok : AcOk m L[i].1 L[i].2 := hL.2 _ (List.getElem_mem hi)
  have hMi : M[i] = L[i].1 := by simp [hM]
  obtain ⟨x, hx⟩ : ∃ x, x = L[i].1 := ⟨_, rfl⟩
  rw [← hx] at hd hok hMi
  rw [hd] at hok
  have hrX : ∀ {w' : World}, Im m w' → Reads Try.prog w' 33 ⟨lb, lo + i * 3, none⟩ (.agg (acC x (.slice da x.data.length dc)).toArray) := by rw [← hd, hx]; exact hrL
  refine wc_region ?_
  refine wl_val (v_move' (by conv => (lhs; whnf))) rfl ?_
  refine wl_val (v_ias i Try.underlying22 TF.t33 rfl rfl (by first | rfl | omega) (by first | omega | (dsimp only at *; omega))) rfl ?_
  refine wl_val (v_load rfl (hrX st.im)) rfl ?_
  refine wl_alloc TF.z33 st rfl ?_
  intro b4 w st
  refine wl_val (v_assign' (by conv => (lhs; whnf))) rfl ?_
  refine wl_storeW (cs := (acC x (.slice da x.data.length dc)).toArray) 0 st rfl TF.t33 rfl rfl (by exact Ac.len hok) rfl (by exact Ac.one hok) ?_
  intro w st
  refine wl_nil ?_
  refine then_go ?_
  refine wc_block ?_
  refine wc_seq ?_
  by_cases h1 : x.key.length = 0
  ·refine wc_region ?_
   refine wl_val (v_fa TF.f33_0 rfl) rfl ?_
   refine wl_val (v_load rfl (by first | exact st.rdp 0 rfl (by exact rfl) TF.t9 (by exact (Ac.g0_1 (by assumption))) | exact st.rdp 1 rfl (by exact rfl) TF.t9 (by exact (Ac.g0_1 (by assumption))) | exact st.rdp 2 rfl (by exact rfl) TF.t9 (by exact (Ac.g0_1 (by assumption))) | exact st.rdp 3 rfl (by exact rfl) TF.t9 (by exact (Ac.g0_1 (by assumption))) | exact st.rdp 4 rfl (by exact rfl) TF.t9 (by exact (Ac.g0_1 (by assumption))) | exact st.rdp 5 rfl (by exact rfl) TF.t9 (by exact (Ac.g0_1 (by assumption))) | exact st.rdp 6 rfl (by exact rfl) TF.t9 (by exact (Ac.g0_1 (by assumption))) | exact st.rdp 7 rfl (by exact rfl) TF.t9 (by exact (Ac.g0_1 (by assumption))))) rfl ?_
   refine wl_val (wl_valD (v_eqs (b := []) rfl rfl) (q := true) (decide_eq_true (List.eq_nil_of_length_eq_zero h1))) rfl ?_
   refine wl_val (v_move' (by conv => (lhs; whnf))) rfl ?_
   refine wl_off rfl rfl rfl rfl ?_
   refine wl_off rfl rfl rfl rfl ?_
   refine wl_off rfl rfl rfl rfl ?_
   refine wl_off rfl rfl rfl rfl ?_
   refine wl_val (v_pick rfl) rfl ?_
   refine wl_val (v_move' (by conv => (lhs; whnf))) rfl ?_
   refine wl_off rfl rfl rfl rfl ?_
   refine wl_off rfl rfl rfl rfl ?_
   refine wl_off rfl rfl rfl rfl ?_
   refine wl_off rfl rfl rfl rfl ?_
   refine offU rfl rfl rfl ?_
   refine offU rfl rfl rfl ?_
   refine offU rfl rfl rfl ?_
   refine offU rfl rfl rfl ?_
   refine wl_off rfl rfl rfl rfl ?_
   refine wl_val (v_pick rfl) rfl ?_
   refine wl_val (v_move' (by conv => (lhs; whnf))) rfl ?_
   refine wl_off rfl rfl rfl rfl ?_
   refine wl_off rfl rfl rfl rfl ?_
   refine wl_off rfl rfl rfl rfl ?_
   refine wl_off rfl rfl rfl rfl ?_
   refine wl_val (v_pick rfl) rfl ?_
   refine wl_val (v_assign' (by conv => (lhs; whnf))) rfl ?_
   refine wl_nil ?_
   refine then_go ?_
   refine wc_true rfl ?_
   refine wc_seq ?_
   refine wc_region ?_
   refine wl_val (v_assign' (by conv => (lhs; whnf))) rfl ?_
   refine wl_nil ?_
   refine then_go ?_
   refine wc_ret (block_ret (block_ret (then_ret (then_ret (block_ret (then_ret ?_))))))
   exact ret1 rfl ⟨(st.keepOnly (l := []) (List.nil_sublist _)).touch, by unfold chkL; rw [if_neg (fun h => by have := ok_at h hiM; rw [hMi] at this; unfold actOk at this; omega)]; rfl⟩
  ·by_cases h2 : 64 < x.key.length
   ·refine wc_region ?_
    refine wl_val (v_fa TF.f33_0 rfl) rfl ?_
    refine wl_val (v_load rfl (by first | exact st.rdp 0 rfl (by exact rfl) TF.t9 (by exact (Ac.g0_1 (by assumption))) | exact st.rdp 1 rfl (by exact rfl) TF.t9 (by exact (Ac.g0_1 (by assumption))) | exact st.rdp 2 rfl (by exact rfl) TF.t9 (by exact (Ac.g0_1 (by assumption))) | exact st.rdp 3 rfl (by exact rfl) TF.t9 (by exact (Ac.g0_1 (by assumption))) | exact st.rdp 4 rfl (by exact rfl) TF.t9 (by exact (Ac.g0_1 (by assumption))) | exact st.rdp 5 rfl (by exact rfl) TF.t9 (by exact (Ac.g0_1 (by assumption))) | exact st.rdp 6 rfl (by exact rfl) TF.t9 (by exact (Ac.g0_1 (by assumption))) | exact st.rdp 7 rfl (by exact rfl) TF.t9 (by exact (Ac.g0_1 (by assumption))))) rfl ?_
    refine wl_val (wl_valD (v_eqs (b := []) rfl rfl) (q := false) (decide_eq_false (fun e => h1 (by rw [e]; rfl)))) rfl ?_
    refine wl_val (v_move' (by conv => (lhs; whnf))) rfl ?_
    refine wl_on rfl rfl ?_
    refine wl_val (v_fa TF.f33_0 rfl) rfl ?_
    refine wl_on rfl rfl ?_
    refine wl_val (v_load rfl (by first | exact st.rdp 0 rfl (by exact rfl) TF.t9 (by exact (Ac.g0_1 (by assumption))) | exact st.rdp 1 rfl (by exact rfl) TF.t9 (by exact (Ac.g0_1 (by assumption))) | exact st.rdp 2 rfl (by exact rfl) TF.t9 (by exact (Ac.g0_1 (by assumption))) | exact st.rdp 3 rfl (by exact rfl) TF.t9 (by exact (Ac.g0_1 (by assumption))) | exact st.rdp 4 rfl (by exact rfl) TF.t9 (by exact (Ac.g0_1 (by assumption))) | exact st.rdp 5 rfl (by exact rfl) TF.t9 (by exact (Ac.g0_1 (by assumption))) | exact st.rdp 6 rfl (by exact rfl) TF.t9 (by exact (Ac.g0_1 (by assumption))) | exact st.rdp 7 rfl (by exact rfl) TF.t9 (by exact (Ac.g0_1 (by assumption))))) rfl ?_
    refine wl_on rfl rfl ?_
    refine wl_val (v_to (v' := .int .i64 x.key.length) (v_len_str Try.underlying9 rfl) (by rw [size_strB])) rfl ?_
    refine wl_on rfl rfl ?_
    refine wl_val (wl_valD (v_gtr rfl rfl) (q := true) (decide_eq_true (by omega))) rfl ?_
    refine wl_val (v_pick rfl) rfl ?_
    refine wl_val (v_move' (by conv => (lhs; whnf))) rfl ?_
    refine wl_off rfl rfl rfl rfl ?_
    refine wl_off rfl rfl rfl rfl ?_
    refine wl_off rfl rfl rfl rfl ?_
    refine wl_off rfl rfl rfl rfl ?_
    refine offU rfl rfl rfl ?_
    refine offU rfl rfl rfl ?_
    refine offU rfl rfl rfl ?_
    refine offU rfl rfl rfl ?_
    refine wl_off rfl rfl rfl rfl ?_
    refine wl_val (v_pick rfl) rfl ?_
    refine wl_val (v_move' (by conv => (lhs; whnf))) rfl ?_
    refine wl_off rfl rfl rfl rfl ?_
    refine wl_off rfl rfl rfl rfl ?_
    refine wl_off rfl rfl rfl rfl ?_
    refine wl_off rfl rfl rfl rfl ?_
    refine wl_val (v_pick rfl) rfl ?_
    refine wl_val (v_assign' (by conv => (lhs; whnf))) rfl ?_
    refine wl_nil ?_
    refine then_go ?_
    refine wc_true rfl ?_
    refine wc_seq ?_
    refine wc_region ?_
    refine wl_val (v_assign' (by conv => (lhs; whnf))) rfl ?_
    refine wl_nil ?_
    refine then_go ?_
    refine wc_ret (block_ret (block_ret (then_ret (then_ret (block_ret (then_ret ?_))))))
    exact ret1 rfl ⟨(st.keepOnly (l := []) (List.nil_sublist _)).touch, by unfold chkL; rw [if_neg (fun h => by have := ok_at h hiM; rw [hMi] at this; unfold actOk at this; omega)]; rfl⟩
   ·rcases Bool.eq_false_or_eq_true x.set with h3 | h3
    ·refine wc_region ?_
     refine wl_val (v_fa TF.f33_0 rfl) rfl ?_
     refine wl_val (v_load rfl (by first | exact st.rdp 0 rfl (by exact rfl) TF.t9 (by exact (Ac.g0_1 (by assumption))) | exact st.rdp 1 rfl (by exact rfl) TF.t9 (by exact (Ac.g0_1 (by assumption))) | exact st.rdp 2 rfl (by exact rfl) TF.t9 (by exact (Ac.g0_1 (by assumption))) | exact st.rdp 3 rfl (by exact rfl) TF.t9 (by exact (Ac.g0_1 (by assumption))) | exact st.rdp 4 rfl (by exact rfl) TF.t9 (by exact (Ac.g0_1 (by assumption))) | exact st.rdp 5 rfl (by exact rfl) TF.t9 (by exact (Ac.g0_1 (by assumption))) | exact st.rdp 6 rfl (by exact rfl) TF.t9 (by exact (Ac.g0_1 (by assumption))) | exact st.rdp 7 rfl (by exact rfl) TF.t9 (by exact (Ac.g0_1 (by assumption))))) rfl ?_
     refine wl_val (wl_valD (v_eqs (b := []) rfl rfl) (q := false) (decide_eq_false (fun e => h1 (by rw [e]; rfl)))) rfl ?_
     refine wl_val (v_move' (by conv => (lhs; whnf))) rfl ?_
     refine wl_on rfl rfl ?_
     refine wl_val (v_fa TF.f33_0 rfl) rfl ?_
     refine wl_on rfl rfl ?_
     refine wl_val (v_load rfl (by first | exact st.rdp 0 rfl (by exact rfl) TF.t9 (by exact (Ac.g0_1 (by assumption))) | exact st.rdp 1 rfl (by exact rfl) TF.t9 (by exact (Ac.g0_1 (by assumption))) | exact st.rdp 2 rfl (by exact rfl) TF.t9 (by exact (Ac.g0_1 (by assumption))) | exact st.rdp 3 rfl (by exact rfl) TF.t9 (by exact (Ac.g0_1 (by assumption))) | exact st.rdp 4 rfl (by exact rfl) TF.t9 (by exact (Ac.g0_1 (by assumption))) | exact st.rdp 5 rfl (by exact rfl) TF.t9 (by exact (Ac.g0_1 (by assumption))) | exact st.rdp 6 rfl (by exact rfl) TF.t9 (by exact (Ac.g0_1 (by assumption))) | exact st.rdp 7 rfl (by exact rfl) TF.t9 (by exact (Ac.g0_1 (by assumption))))) rfl ?_
     refine wl_on rfl rfl ?_
     refine wl_val (v_to (v' := .int .i64 x.key.length) (v_len_str Try.underlying9 rfl) (by rw [size_strB])) rfl ?_
     refine wl_on rfl rfl ?_
     refine wl_val (wl_valD (v_gtr rfl rfl) (q := false) (decide_eq_false (by omega))) rfl ?_
     refine wl_val (v_pick rfl) rfl ?_
     refine wl_val (v_move' (by conv => (lhs; whnf))) rfl ?_
     refine wl_on rfl rfl ?_
     refine wl_val (v_fa TF.f33_1 rfl) rfl ?_
     refine wl_on rfl rfl ?_
     refine wl_val (v_load rfl (by first | exact st.rdp 0 rfl (by exact rfl) TF.t4 (by exact (Ac.g1_1 (by assumption))) | exact st.rdp 1 rfl (by exact rfl) TF.t4 (by exact (Ac.g1_1 (by assumption))) | exact st.rdp 2 rfl (by exact rfl) TF.t4 (by exact (Ac.g1_1 (by assumption))) | exact st.rdp 3 rfl (by exact rfl) TF.t4 (by exact (Ac.g1_1 (by assumption))) | exact st.rdp 4 rfl (by exact rfl) TF.t4 (by exact (Ac.g1_1 (by assumption))) | exact st.rdp 5 rfl (by exact rfl) TF.t4 (by exact (Ac.g1_1 (by assumption))) | exact st.rdp 6 rfl (by exact rfl) TF.t4 (by exact (Ac.g1_1 (by assumption))) | exact st.rdp 7 rfl (by exact rfl) TF.t4 (by exact (Ac.g1_1 (by assumption))))) rfl ?_
     refine wl_on rfl rfl ?_
     refine wl_val (wl_valD (v_not rfl) (q := false) (by rw [h3]; rfl)) rfl ?_
     refine wl_on rfl rfl ?_
     refine wl_val (v_move' (by conv => (lhs; whnf))) rfl ?_
     refine wl_off rfl rfl rfl rfl ?_
     refine wl_off rfl rfl rfl rfl ?_
     refine wl_off rfl rfl rfl rfl ?_
     refine wl_off rfl rfl rfl rfl ?_
     refine wl_on rfl rfl ?_
     refine wl_val (v_pick rfl) rfl ?_
     refine wl_val (v_pick rfl) rfl ?_
     refine wl_val (v_move' (by conv => (lhs; whnf))) rfl ?_
     refine wl_on rfl rfl ?_
     refine wl_val (v_fa TF.f33_2 rfl) rfl ?_
     refine wl_on rfl rfl ?_
     refine wl_val (v_load rfl (st.reads (v := .slice da x.data.length dc) 0 rfl TF.t31 rfl)) rfl ?_
     refine wl_on rfl rfl ?_
     refine wl_val (v_len_s Try.underlying31 rfl) rfl ?_
     refine wl_on rfl rfl ?_
     refine wl_val (v_gtr rfl rfl) rfl ?_
     refine wl_val (v_pick rfl) rfl ?_
     refine wl_val (v_assign' (by conv => (lhs; whnf))) rfl ?_
     refine wl_nil ?_
     refine then_go ?_
     refine wc_cond rfl (fun h12 => ?_) (fun h12 => ?_)
     ·refine wc_seq ?_
      refine wc_region ?_
      refine wl_val (v_assign' (by conv => (lhs; whnf))) rfl ?_
      refine wl_nil ?_
      refine then_go ?_
      refine wc_ret (block_ret (block_ret (then_ret (then_ret (block_ret (then_ret ?_))))))
      exact ret1 rfl ⟨(st.keepOnly (l := []) (List.nil_sublist _)).touch, by have := of_decide_eq_true h12; unfold chkL; rw [if_neg (fun h => by have := ok_at h hiM; rw [hMi] at this; unfold actOk at this; omega)]; rfl⟩
     ·refine wc_seq ?_
      by_cases hi0 : 0 < i
      ·have hip : i - 1 < L.length := by omega
       obtain ⟨lb', lo', da', dc', hla', hd', _, hrK, _⟩ := hL.at hip
       cases hla'
       have hMp : M[i - 1] = L[i - 1].1 := by simp [hM]
       refine wc_draw TF.mixed ?_
       have st := st.pure (touch_drew _)
       refine fl_val 0 rfl (fun _ => (v_move' (by conv => (lhs; whnf)))) rfl (by kernel_rfl) ?_
       refine fl_val 1 rfl (fun _ => (wl_valD (v_gtr rfl rfl) (q := true) (decide_eq_true (by omega)))) rfl (by kernel_rfl) ?_
       refine fl_val 2 rfl (fun _ => (v_move' (by conv => (lhs; whnf)))) rfl (by kernel_rfl) ?_
       refine fl_on 3 rfl rfl rfl rfl (fun _ => (v_move' (by conv => (lhs; whnf)))) rfl (by kernel_rfl) ?_
       refine fl_on 4 rfl rfl rfl rfl (fun _ => (v_move' (by conv => (lhs; whnf)))) rfl (by kernel_rfl) ?_
       refine fl_on 5 rfl rfl rfl rfl (fun _ => (v_sub' (c := ((i - 1 : Nat) : Int)) rfl rfl (by omega) (by omega) (by omega))) rfl (by kernel_rfl) ?_
       refine fl_on 6 rfl rfl rfl rfl (fun _ => (v_ias ((i - 1)) Try.underlying22 TF.t33 rfl rfl (by first | rfl | omega) (by first | omega | (dsimp only at *; omega)))) rfl (by kernel_rfl) ?_
       refine fl_on 7 rfl rfl rfl rfl (fun _ => (v_fa TF.f33_0 rfl)) rfl (by kernel_rfl) ?_
       refine fl_ond 8 rfl rfl rfl rfl (v_load rfl (hrK st.im)) rfl (by kernel_rfl) ?_
       refine fl_on 9 rfl rfl rfl rfl (fun _ => (v_fa TF.f33_0 rfl)) rfl (by kernel_rfl) ?_
       refine fl_ond 10 rfl rfl rfl rfl (v_load rfl (by first | exact st.rdp 0 rfl (by exact rfl) TF.t9 (by exact (Ac.g0_1 (by assumption))) | exact st.rdp 1 rfl (by exact rfl) TF.t9 (by exact (Ac.g0_1 (by assumption))) | exact st.rdp 2 rfl (by exact rfl) TF.t9 (by exact (Ac.g0_1 (by assumption))) | exact st.rdp 3 rfl (by exact rfl) TF.t9 (by exact (Ac.g0_1 (by assumption))) | exact st.rdp 4 rfl (by exact rfl) TF.t9 (by exact (Ac.g0_1 (by assumption))) | exact st.rdp 5 rfl (by exact rfl) TF.t9 (by exact (Ac.g0_1 (by assumption))) | exact st.rdp 6 rfl (by exact rfl) TF.t9 (by exact (Ac.g0_1 (by assumption))) | exact st.rdp 7 rfl (by exact rfl) TF.t9 (by exact (Ac.g0_1 (by assumption))))) rfl (by kernel_rfl) ?_
       refine fl_on 11 rfl rfl rfl rfl (fun _ => (v_geStr rfl rfl)) rfl (by kernel_rfl) ?_
       refine fl_val 12 rfl (fun _ => (v_pick rfl)) rfl (by kernel_rfl) ?_
       refine fl_eff1 13 [11, 9, 7, 6, 5, 4, 3, 1, 0] [10, 8] (by kernel_rfl) ⟨obl_on rfl rfl rfl rfl rfl (v_load rfl (by first | exact st.rdp 0 rfl (by exact rfl) TF.t9 (by exact (Ac.g0_1 (by assumption))) | exact st.rdp 1 rfl (by exact rfl) TF.t9 (by exact (Ac.g0_1 (by assumption))) | exact st.rdp 2 rfl (by exact rfl) TF.t9 (by exact (Ac.g0_1 (by assumption))) | exact st.rdp 3 rfl (by exact rfl) TF.t9 (by exact (Ac.g0_1 (by assumption))) | exact st.rdp 4 rfl (by exact rfl) TF.t9 (by exact (Ac.g0_1 (by assumption))) | exact st.rdp 5 rfl (by exact rfl) TF.t9 (by exact (Ac.g0_1 (by assumption))) | exact st.rdp 6 rfl (by exact rfl) TF.t9 (by exact (Ac.g0_1 (by assumption))) | exact st.rdp 7 rfl (by exact rfl) TF.t9 (by exact (Ac.g0_1 (by assumption))))), obl_on rfl rfl rfl rfl rfl (v_load rfl (hrK st.im)), trivial⟩ rfl ?_
       refine wl_val (v_assign' (by conv => (lhs; whnf))) rfl ?_
       refine wl_nil ⟨rfl, ?_⟩
       refine fl_nil (by kernel_rfl) ⟨obl_on rfl rfl rfl rfl rfl (v_load rfl (by first | exact st.rdp 0 rfl (by exact rfl) TF.t9 (by exact (Ac.g0_1 (by assumption))) | exact st.rdp 1 rfl (by exact rfl) TF.t9 (by exact (Ac.g0_1 (by assumption))) | exact st.rdp 2 rfl (by exact rfl) TF.t9 (by exact (Ac.g0_1 (by assumption))) | exact st.rdp 3 rfl (by exact rfl) TF.t9 (by exact (Ac.g0_1 (by assumption))) | exact st.rdp 4 rfl (by exact rfl) TF.t9 (by exact (Ac.g0_1 (by assumption))) | exact st.rdp 5 rfl (by exact rfl) TF.t9 (by exact (Ac.g0_1 (by assumption))) | exact st.rdp 6 rfl (by exact rfl) TF.t9 (by exact (Ac.g0_1 (by assumption))) | exact st.rdp 7 rfl (by exact rfl) TF.t9 (by exact (Ac.g0_1 (by assumption))))), obl_on rfl rfl rfl rfl rfl (v_load rfl (hrK st.im)), trivial⟩ ?_
       refine then_go ?_
       refine wc_cond rfl (fun h39 => ?_) (fun h39 => ?_)
       ·refine wc_seq ?_
        refine wc_region ?_
        refine wl_val (v_assign' (by conv => (lhs; whnf))) rfl ?_
        refine wl_nil ?_
        refine then_go ?_
        refine wc_ret (block_ret (block_ret (then_ret (then_ret (block_ret (then_ret ?_))))))
        exact ret1 rfl ⟨(st.keepOnly (l := []) (List.nil_sublist _)).touch, by unfold chkL; rw [if_neg (fun h => of_decide_eq_true h39 (by have := ok_lt h hiM hi0; rw [hMi, hMp] at this; exact this))]; rfl⟩
       ·refine wc_skip ?_
        refine block_go (block_go (then_go ?_))
        refine wc_region ?_
        refine wl_val (v_add' (c := ((i + 1 : Nat) : Int)) rfl rfl (by omega) (by omega) (by omega)) rfl ?_
        refine wl_val (v_move' (by conv => (lhs; whnf))) rfl ?_
        refine wl_nil ?_
        refine then_go ?_
        exact ⟨q - 1, by simp; omega, i + 1, by omega, rfl, rfl, rfl, rfl, good_succ hg hiM (by rw [hMi]; have := of_decide_eq_false h12; unfold actOk; rw [h3]; refine ⟨by omega, by omega, .inl rfl, by omega⟩) (fun _ => by have := of_decide_eq_false h39; rw [hMi, hMp]; exact Decidable.not_not.1 this), st.drop 0⟩
      ·refine wc_draw TF.mixed ?_
       have st := st.pure (touch_drew _)
       refine fl_val 0 rfl (fun _ => (v_move' (by conv => (lhs; whnf)))) rfl (by kernel_rfl) ?_
       refine fl_val 1 rfl (fun _ => (wl_valD (v_gtr rfl rfl) (q := false) (decide_eq_false (by omega)))) rfl (by kernel_rfl) ?_
       refine fl_val 2 rfl (fun _ => (v_move' (by conv => (lhs; whnf)))) rfl (by kernel_rfl) ?_
       refine fl_off 3 rfl rfl rfl rfl rfl rfl (by kernel_rfl) ?_
       refine fl_off 4 rfl rfl rfl rfl rfl rfl (by kernel_rfl) ?_
       refine fl_off 5 rfl rfl rfl rfl rfl rfl (by kernel_rfl) ?_
       refine fl_off 6 rfl rfl rfl rfl rfl rfl (by kernel_rfl) ?_
       refine fl_off 7 rfl rfl rfl rfl rfl rfl (by kernel_rfl) ?_
       refine fl_offd 8 rfl rfl rfl rfl rfl rfl (by kernel_rfl) ?_
       refine fl_off 9 rfl rfl rfl rfl rfl rfl (by kernel_rfl) ?_
       refine fl_offd 10 rfl rfl rfl rfl rfl rfl (by kernel_rfl) ?_
       refine fl_off 11 rfl rfl rfl rfl rfl rfl (by kernel_rfl) ?_
       refine fl_val 12 rfl (fun _ => (v_pick rfl)) rfl (by kernel_rfl) ?_
       refine fl_eff1 13 [11, 9, 7, 6, 5, 4, 3, 1, 0] [10, 8] (by kernel_rfl) ⟨obl_off rfl rfl rfl rfl rfl rfl, obl_off rfl rfl rfl rfl rfl rfl, trivial⟩ rfl ?_
       refine wl_val (v_assign' (by conv => (lhs; whnf))) rfl ?_
       refine wl_nil ⟨rfl, ?_⟩
       refine fl_nil (by kernel_rfl) ⟨obl_off rfl rfl rfl rfl rfl rfl, obl_off rfl rfl rfl rfl rfl rfl, trivial⟩ ?_
       refine then_go ?_
       refine wc_false rfl ?_
       refine wc_skip ?_
       refine block_go (block_go (then_go ?_))
       refine wc_region ?_
       refine wl_val (v_add' (c := ((i + 1 : Nat) : Int)) rfl rfl (by omega) (by omega) (by omega)) rfl ?_
       refine wl_val (v_move' (by conv => (lhs; whnf))) rfl ?_
       refine wl_nil ?_
       refine then_go ?_
       exact ⟨q - 1, by simp; omega, i + 1, by omega, rfl, rfl, rfl, rfl, good_succ hg hiM (by rw [hMi]; have := of_decide_eq_false h12; unfold actOk; rw [h3]; refine ⟨by omega, by omega, .inl rfl, by omega⟩) (fun h => (hi0 h).elim), st.drop 0⟩
    ·by_cases h4 : 0 < x.data.length
     ·refine wc_region ?_
      refine wl_val (v_fa TF.f33_0 rfl) rfl ?_
      refine wl_val (v_load rfl (by first | exact st.rdp 0 rfl (by exact rfl) TF.t9 (by exact (Ac.g0_1 (by assumption))) | exact st.rdp 1 rfl (by exact rfl) TF.t9 (by exact (Ac.g0_1 (by assumption))) | exact st.rdp 2 rfl (by exact rfl) TF.t9 (by exact (Ac.g0_1 (by assumption))) | exact st.rdp 3 rfl (by exact rfl) TF.t9 (by exact (Ac.g0_1 (by assumption))) | exact st.rdp 4 rfl (by exact rfl) TF.t9 (by exact (Ac.g0_1 (by assumption))) | exact st.rdp 5 rfl (by exact rfl) TF.t9 (by exact (Ac.g0_1 (by assumption))) | exact st.rdp 6 rfl (by exact rfl) TF.t9 (by exact (Ac.g0_1 (by assumption))) | exact st.rdp 7 rfl (by exact rfl) TF.t9 (by exact (Ac.g0_1 (by assumption))))) rfl ?_
      refine wl_val (wl_valD (v_eqs (b := []) rfl rfl) (q := false) (decide_eq_false (fun e => h1 (by rw [e]; rfl)))) rfl ?_
      refine wl_val (v_move' (by conv => (lhs; whnf))) rfl ?_
      refine wl_on rfl rfl ?_
      refine wl_val (v_fa TF.f33_0 rfl) rfl ?_
      refine wl_on rfl rfl ?_
      refine wl_val (v_load rfl (by first | exact st.rdp 0 rfl (by exact rfl) TF.t9 (by exact (Ac.g0_1 (by assumption))) | exact st.rdp 1 rfl (by exact rfl) TF.t9 (by exact (Ac.g0_1 (by assumption))) | exact st.rdp 2 rfl (by exact rfl) TF.t9 (by exact (Ac.g0_1 (by assumption))) | exact st.rdp 3 rfl (by exact rfl) TF.t9 (by exact (Ac.g0_1 (by assumption))) | exact st.rdp 4 rfl (by exact rfl) TF.t9 (by exact (Ac.g0_1 (by assumption))) | exact st.rdp 5 rfl (by exact rfl) TF.t9 (by exact (Ac.g0_1 (by assumption))) | exact st.rdp 6 rfl (by exact rfl) TF.t9 (by exact (Ac.g0_1 (by assumption))) | exact st.rdp 7 rfl (by exact rfl) TF.t9 (by exact (Ac.g0_1 (by assumption))))) rfl ?_
      refine wl_on rfl rfl ?_
      refine wl_val (v_to (v' := .int .i64 x.key.length) (v_len_str Try.underlying9 rfl) (by rw [size_strB])) rfl ?_
      refine wl_on rfl rfl ?_
      refine wl_val (wl_valD (v_gtr rfl rfl) (q := false) (decide_eq_false (by omega))) rfl ?_
      refine wl_val (v_pick rfl) rfl ?_
      refine wl_val (v_move' (by conv => (lhs; whnf))) rfl ?_
      refine wl_on rfl rfl ?_
      refine wl_val (v_fa TF.f33_1 rfl) rfl ?_
      refine wl_on rfl rfl ?_
      refine wl_val (v_load rfl (by first | exact st.rdp 0 rfl (by exact rfl) TF.t4 (by exact (Ac.g1_1 (by assumption))) | exact st.rdp 1 rfl (by exact rfl) TF.t4 (by exact (Ac.g1_1 (by assumption))) | exact st.rdp 2 rfl (by exact rfl) TF.t4 (by exact (Ac.g1_1 (by assumption))) | exact st.rdp 3 rfl (by exact rfl) TF.t4 (by exact (Ac.g1_1 (by assumption))) | exact st.rdp 4 rfl (by exact rfl) TF.t4 (by exact (Ac.g1_1 (by assumption))) | exact st.rdp 5 rfl (by exact rfl) TF.t4 (by exact (Ac.g1_1 (by assumption))) | exact st.rdp 6 rfl (by exact rfl) TF.t4 (by exact (Ac.g1_1 (by assumption))) | exact st.rdp 7 rfl (by exact rfl) TF.t4 (by exact (Ac.g1_1 (by assumption))))) rfl ?_
      refine wl_on rfl rfl ?_
      refine wl_val (wl_valD (v_not rfl) (q := true) (by rw [h3]; rfl)) rfl ?_
      refine wl_on rfl rfl ?_
      refine wl_val (v_move' (by conv => (lhs; whnf))) rfl ?_
      refine wl_on rfl rfl ?_
      refine wl_val (v_fa TF.f33_2 rfl) rfl ?_
      refine wl_on rfl rfl ?_
      refine wl_val (v_load rfl (st.reads (v := .slice da x.data.length dc) 0 rfl TF.t31 rfl)) rfl ?_
      refine wl_on rfl rfl ?_
      refine wl_val (v_len_s Try.underlying31 rfl) rfl ?_
      refine wl_on rfl rfl ?_
      refine wl_val (wl_valD (v_gtr rfl rfl) (q := true) (decide_eq_true (by omega))) rfl ?_
      refine wl_on rfl rfl ?_
      refine wl_val (v_pick rfl) rfl ?_
      refine wl_val (v_pick rfl) rfl ?_
      refine wl_val (v_move' (by conv => (lhs; whnf))) rfl ?_
      refine wl_off rfl rfl rfl rfl ?_
      refine wl_off rfl rfl rfl rfl ?_
      refine wl_off rfl rfl rfl rfl ?_
      refine wl_off rfl rfl rfl rfl ?_
      refine wl_val (v_pick rfl) rfl ?_
      refine wl_val (v_assign' (by conv => (lhs; whnf))) rfl ?_
      refine wl_nil ?_
      refine then_go ?_
      refine wc_true rfl ?_
      refine wc_seq ?_
      refine wc_region ?_
      refine wl_val (v_assign' (by conv => (lhs; whnf))) rfl ?_
      refine wl_nil ?_
      refine then_go ?_
      refine wc_ret (block_ret (block_ret (then_ret (then_ret (block_ret (then_ret ?_))))))
      exact ret1 rfl ⟨(st.keepOnly (l := []) (List.nil_sublist _)).touch, by unfold chkL; rw [if_neg (fun h => by have := ok_at h hiM; rw [hMi] at this; have h5 := this.2.2.1; rw [h3] at h5; rcases h5 with h5 | h5 <;> first | cases h5 | omega)]; rfl⟩
     ·refine wc_region ?_
      refine wl_val (v_fa TF.f33_0 rfl) rfl ?_
      refine wl_val (v_load rfl (by first | exact st.rdp 0 rfl (by exact rfl) TF.t9 (by exact (Ac.g0_1 (by assumption))) | exact st.rdp 1 rfl (by exact rfl) TF.t9 (by exact (Ac.g0_1 (by assumption))) | exact st.rdp 2 rfl (by exact rfl) TF.t9 (by exact (Ac.g0_1 (by assumption))) | exact st.rdp 3 rfl (by exact rfl) TF.t9 (by exact (Ac.g0_1 (by assumption))) | exact st.rdp 4 rfl (by exact rfl) TF.t9 (by exact (Ac.g0_1 (by assumption))) | exact st.rdp 5 rfl (by exact rfl) TF.t9 (by exact (Ac.g0_1 (by assumption))) | exact st.rdp 6 rfl (by exact rfl) TF.t9 (by exact (Ac.g0_1 (by assumption))) | exact st.rdp 7 rfl (by exact rfl) TF.t9 (by exact (Ac.g0_1 (by assumption))))) rfl ?_
      refine wl_val (wl_valD (v_eqs (b := []) rfl rfl) (q := false) (decide_eq_false (fun e => h1 (by rw [e]; rfl)))) rfl ?_
      refine wl_val (v_move' (by conv => (lhs; whnf))) rfl ?_
      refine wl_on rfl rfl ?_
      refine wl_val (v_fa TF.f33_0 rfl) rfl ?_
      refine wl_on rfl rfl ?_
      refine wl_val (v_load rfl (by first | exact st.rdp 0 rfl (by exact rfl) TF.t9 (by exact (Ac.g0_1 (by assumption))) | exact st.rdp 1 rfl (by exact rfl) TF.t9 (by exact (Ac.g0_1 (by assumption))) | exact st.rdp 2 rfl (by exact rfl) TF.t9 (by exact (Ac.g0_1 (by assumption))) | exact st.rdp 3 rfl (by exact rfl) TF.t9 (by exact (Ac.g0_1 (by assumption))) | exact st.rdp 4 rfl (by exact rfl) TF.t9 (by exact (Ac.g0_1 (by assumption))) | exact st.rdp 5 rfl (by exact rfl) TF.t9 (by exact (Ac.g0_1 (by assumption))) | exact st.rdp 6 rfl (by exact rfl) TF.t9 (by exact (Ac.g0_1 (by assumption))) | exact st.rdp 7 rfl (by exact rfl) TF.t9 (by exact (Ac.g0_1 (by assumption))))) rfl ?_
      refine wl_on rfl rfl ?_
      refine wl_val (v_to (v' := .int .i64 x.key.length) (v_len_str Try.underlying9 rfl) (by rw [size_strB])) rfl ?_
      refine wl_on rfl rfl ?_
      refine wl_val (wl_valD (v_gtr rfl rfl) (q := false) (decide_eq_false (by omega))) rfl ?_
      refine wl_val (v_pick rfl) rfl ?_
      refine wl_val (v_move' (by conv => (lhs; whnf))) rfl ?_
      refine wl_on rfl rfl ?_
      refine wl_val (v_fa TF.f33_1 rfl) rfl ?_
      refine wl_on rfl rfl ?_
      refine wl_val (v_load rfl (by first | exact st.rdp 0 rfl (by exact rfl) TF.t4 (by exact (Ac.g1_1 (by assumption))) | exact st.rdp 1 rfl (by exact rfl) TF.t4 (by exact (Ac.g1_1 (by assumption))) | exact st.rdp 2 rfl (by exact rfl) TF.t4 (by exact (Ac.g1_1 (by assumption))) | exact st.rdp 3 rfl (by exact rfl) TF.t4 (by exact (Ac.g1_1 (by assumption))) | exact st.rdp 4 rfl (by exact rfl) TF.t4 (by exact (Ac.g1_1 (by assumption))) | exact st.rdp 5 rfl (by exact rfl) TF.t4 (by exact (Ac.g1_1 (by assumption))) | exact st.rdp 6 rfl (by exact rfl) TF.t4 (by exact (Ac.g1_1 (by assumption))) | exact st.rdp 7 rfl (by exact rfl) TF.t4 (by exact (Ac.g1_1 (by assumption))))) rfl ?_
      refine wl_on rfl rfl ?_
      refine wl_val (wl_valD (v_not rfl) (q := true) (by rw [h3]; rfl)) rfl ?_
      refine wl_on rfl rfl ?_
      refine wl_val (v_move' (by conv => (lhs; whnf))) rfl ?_
      refine wl_on rfl rfl ?_
      refine wl_val (v_fa TF.f33_2 rfl) rfl ?_
      refine wl_on rfl rfl ?_
      refine wl_val (v_load rfl (st.reads (v := .slice da x.data.length dc) 0 rfl TF.t31 rfl)) rfl ?_
      refine wl_on rfl rfl ?_
      refine wl_val (v_len_s Try.underlying31 rfl) rfl ?_
      refine wl_on rfl rfl ?_
      refine wl_val (wl_valD (v_gtr rfl rfl) (q := false) (decide_eq_false (by omega))) rfl ?_
      refine wl_on rfl rfl ?_
      refine wl_val (v_pick rfl) rfl ?_
      refine wl_val (v_pick rfl) rfl ?_
      refine wl_val (v_move' (by conv => (lhs; whnf))) rfl ?_
      refine wl_on rfl rfl ?_
      refine wl_val (v_fa TF.f33_2 rfl) rfl ?_
      refine wl_on rfl rfl ?_
      refine wl_val (v_load rfl (st.reads (v := .slice da x.data.length dc) 0 rfl TF.t31 rfl)) rfl ?_
      refine wl_on rfl rfl ?_
      refine wl_val (v_len_s Try.underlying31 rfl) rfl ?_
      refine wl_on rfl rfl ?_
      refine wl_val (v_gtr rfl rfl) rfl ?_
      refine wl_val (v_pick rfl) rfl ?_
      refine wl_val (v_assign' (by conv => (lhs; whnf))) rfl ?_
      refine wl_nil ?_
      refine then_go ?_
      refine wc_cond rfl (fun h12 => ?_) (fun h12 => ?_)
      ·refine wc_seq ?_
       refine wc_region ?_
       refine wl_val (v_assign' (by conv => (lhs; whnf))) rfl ?_
       refine wl_nil ?_
       refine then_go ?_
       refine wc_ret (block_ret (block_ret (then_ret (then_ret (block_ret (then_ret ?_))))))
       exact ret1 rfl ⟨(st.keepOnly (l := []) (List.nil_sublist _)).touch, by have := of_decide_eq_true h12; unfold chkL; rw [if_neg (fun h => by have := ok_at h hiM; rw [hMi] at this; unfold actOk at this; omega)]; rfl⟩
      ·refine wc_seq ?_
       by_cases hi0 : 0 < i
       ·have hip : i - 1 < L.length := by omega
        obtain ⟨lb', lo', da', dc', hla', hd', _, hrK, _⟩ := hL.at hip
        cases hla'
        have hMp : M[i - 1] = L[i - 1].1 := by simp [hM]
        refine wc_draw TF.mixed ?_
        have st := st.pure (touch_drew _)
        refine fl_val 0 rfl (fun _ => (v_move' (by conv => (lhs; whnf)))) rfl (by kernel_rfl) ?_
        refine fl_val 1 rfl (fun _ => (wl_valD (v_gtr rfl rfl) (q := true) (decide_eq_true (by omega)))) rfl (by kernel_rfl) ?_
        refine fl_val 2 rfl (fun _ => (v_move' (by conv => (lhs; whnf)))) rfl (by kernel_rfl) ?_
        refine fl_on 3 rfl rfl rfl rfl (fun _ => (v_move' (by conv => (lhs; whnf)))) rfl (by kernel_rfl) ?_
        refine fl_on 4 rfl rfl rfl rfl (fun _ => (v_move' (by conv => (lhs; whnf)))) rfl (by kernel_rfl) ?_
        refine fl_on 5 rfl rfl rfl rfl (fun _ => (v_sub' (c := ((i - 1 : Nat) : Int)) rfl rfl (by omega) (by omega) (by omega))) rfl (by kernel_rfl) ?_
        refine fl_on 6 rfl rfl rfl rfl (fun _ => (v_ias ((i - 1)) Try.underlying22 TF.t33 rfl rfl (by first | rfl | omega) (by first | omega | (dsimp only at *; omega)))) rfl (by kernel_rfl) ?_
        refine fl_on 7 rfl rfl rfl rfl (fun _ => (v_fa TF.f33_0 rfl)) rfl (by kernel_rfl) ?_
        refine fl_ond 8 rfl rfl rfl rfl (v_load rfl (hrK st.im)) rfl (by kernel_rfl) ?_
        refine fl_on 9 rfl rfl rfl rfl (fun _ => (v_fa TF.f33_0 rfl)) rfl (by kernel_rfl) ?_
        refine fl_ond 10 rfl rfl rfl rfl (v_load rfl (by first | exact st.rdp 0 rfl (by exact rfl) TF.t9 (by exact (Ac.g0_1 (by assumption))) | exact st.rdp 1 rfl (by exact rfl) TF.t9 (by exact (Ac.g0_1 (by assumption))) | exact st.rdp 2 rfl (by exact rfl) TF.t9 (by exact (Ac.g0_1 (by assumption))) | exact st.rdp 3 rfl (by exact rfl) TF.t9 (by exact (Ac.g0_1 (by assumption))) | exact st.rdp 4 rfl (by exact rfl) TF.t9 (by exact (Ac.g0_1 (by assumption))) | exact st.rdp 5 rfl (by exact rfl) TF.t9 (by exact (Ac.g0_1 (by assumption))) | exact st.rdp 6 rfl (by exact rfl) TF.t9 (by exact (Ac.g0_1 (by assumption))) | exact st.rdp 7 rfl (by exact rfl) TF.t9 (by exact (Ac.g0_1 (by assumption))))) rfl (by kernel_rfl) ?_
        refine fl_on 11 rfl rfl rfl rfl (fun _ => (v_geStr rfl rfl)) rfl (by kernel_rfl) ?_
        refine fl_val 12 rfl (fun _ => (v_pick rfl)) rfl (by kernel_rfl) ?_
        refine fl_eff1 13 [11, 9, 7, 6, 5, 4, 3, 1, 0] [10, 8] (by kernel_rfl) ⟨obl_on rfl rfl rfl rfl rfl (v_load rfl (by first | exact st.rdp 0 rfl (by exact rfl) TF.t9 (by exact (Ac.g0_1 (by assumption))) | exact st.rdp 1 rfl (by exact rfl) TF.t9 (by exact (Ac.g0_1 (by assumption))) | exact st.rdp 2 rfl (by exact rfl) TF.t9 (by exact (Ac.g0_1 (by assumption))) | exact st.rdp 3 rfl (by exact rfl) TF.t9 (by exact (Ac.g0_1 (by assumption))) | exact st.rdp 4 rfl (by exact rfl) TF.t9 (by exact (Ac.g0_1 (by assumption))) | exact st.rdp 5 rfl (by exact rfl) TF.t9 (by exact (Ac.g0_1 (by assumption))) | exact st.rdp 6 rfl (by exact rfl) TF.t9 (by exact (Ac.g0_1 (by assumption))) | exact st.rdp 7 rfl (by exact rfl) TF.t9 (by exact (Ac.g0_1 (by assumption))))), obl_on rfl rfl rfl rfl rfl (v_load rfl (hrK st.im)), trivial⟩ rfl ?_
        refine wl_val (v_assign' (by conv => (lhs; whnf))) rfl ?_
        refine wl_nil ⟨rfl, ?_⟩
        refine fl_nil (by kernel_rfl) ⟨obl_on rfl rfl rfl rfl rfl (v_load rfl (by first | exact st.rdp 0 rfl (by exact rfl) TF.t9 (by exact (Ac.g0_1 (by assumption))) | exact st.rdp 1 rfl (by exact rfl) TF.t9 (by exact (Ac.g0_1 (by assumption))) | exact st.rdp 2 rfl (by exact rfl) TF.t9 (by exact (Ac.g0_1 (by assumption))) | exact st.rdp 3 rfl (by exact rfl) TF.t9 (by exact (Ac.g0_1 (by assumption))) | exact st.rdp 4 rfl (by exact rfl) TF.t9 (by exact (Ac.g0_1 (by assumption))) | exact st.rdp 5 rfl (by exact rfl) TF.t9 (by exact (Ac.g0_1 (by assumption))) | exact st.rdp 6 rfl (by exact rfl) TF.t9 (by exact (Ac.g0_1 (by assumption))) | exact st.rdp 7 rfl (by exact rfl) TF.t9 (by exact (Ac.g0_1 (by assumption))))), obl_on rfl rfl rfl rfl rfl (v_load rfl (hrK st.im)), trivial⟩ ?_
        refine then_go ?_
        refine wc_cond rfl (fun h39 => ?_) (fun h39 => ?_)
        ·refine wc_seq ?_
         refine wc_region ?_
         refine wl_val (v_assign' (by conv => (lhs; whnf))) rfl ?_
         refine wl_nil ?_
         refine then_go ?_
         refine wc_ret (block_ret (block_ret (then_ret (then_ret (block_ret (then_ret ?_))))))
         exact ret1 rfl ⟨(st.keepOnly (l := []) (List.nil_sublist _)).touch, by unfold chkL; rw [if_neg (fun h => of_decide_eq_true h39 (by have := ok_lt h hiM hi0; rw [hMi, hMp] at this; exact this))]; rfl⟩
        ·refine wc_skip ?_
         refine block_go (block_go (then_go ?_))
         refine wc_region ?_
         refine wl_val (v_add' (c := ((i + 1 : Nat) : Int)) rfl rfl (by omega) (by omega) (by omega)) rfl ?_
         refine wl_val (v_move' (by conv => (lhs; whnf))) rfl ?_
         refine wl_nil ?_
         refine then_go ?_
         exact ⟨q - 1, by simp; omega, i + 1, by omega, rfl, rfl, rfl, rfl, good_succ hg hiM (by rw [hMi]; have := of_decide_eq_false h12; unfold actOk; refine ⟨by omega, by omega, .inr (by omega), by omega⟩) (fun _ => by have := of_decide_eq_false h39; rw [hMi, hMp]; exact Decidable.not_not.1 this), st.drop 0⟩
       ·refine wc_draw TF.mixed ?_
        have st := st.pure (touch_drew _)
        refine fl_val 0 rfl (fun _ => (v_move' (by conv => (lhs; whnf)))) rfl (by kernel_rfl) ?_
        refine fl_val 1 rfl (fun _ => (wl_valD (v_gtr rfl rfl) (q := false) (decide_eq_false (by omega)))) rfl (by kernel_rfl) ?_
        refine fl_val 2 rfl (fun _ => (v_move' (by conv => (lhs; whnf)))) rfl (by kernel_rfl) ?_
        refine fl_off 3 rfl rfl rfl rfl rfl rfl (by kernel_rfl) ?_
        refine fl_off 4 rfl rfl rfl rfl rfl rfl (by kernel_rfl) ?_
        refine fl_off 5 rfl rfl rfl rfl rfl rfl (by kernel_rfl) ?_
        refine fl_off 6 rfl rfl rfl rfl rfl rfl (by kernel_rfl) ?_
        refine fl_off 7 rfl rfl rfl rfl rfl rfl (by kernel_rfl) ?_
        refine fl_offd 8 rfl rfl rfl rfl rfl rfl (by kernel_rfl) ?_
        refine fl_off 9 rfl rfl rfl rfl rfl rfl (by kernel_rfl) ?_
        refine fl_offd 10 rfl rfl rfl rfl rfl rfl (by kernel_rfl) ?_
        refine fl_off 11 rfl rfl rfl rfl rfl rfl (by kernel_rfl) ?_
        refine fl_val 12 rfl (fun _ => (v_pick rfl)) rfl (by kernel_rfl) ?_
        refine fl_eff1 13 [11, 9, 7, 6, 5, 4, 3, 1, 0] [10, 8] (by kernel_rfl) ⟨obl_off rfl rfl rfl rfl rfl rfl, obl_off rfl rfl rfl rfl rfl rfl, trivial⟩ rfl ?_
        refine wl_val (v_assign' (by conv => (lhs; whnf))) rfl ?_
        refine wl_nil ⟨rfl, ?_⟩
        refine fl_nil (by kernel_rfl) ⟨obl_off rfl rfl rfl rfl rfl rfl, obl_off rfl rfl rfl rfl rfl rfl, trivial⟩ ?_
        refine then_go ?_
        refine wc_false rfl ?_
        refine wc_skip ?_
        refine block_go (block_go (then_go ?_))
        refine wc_region ?_
        refine wl_val (v_add' (c := ((i + 1 : Nat) : Int)) rfl rfl (by omega) (by omega) (by omega)) rfl ?_
        refine wl_val (v_move' (by conv => (lhs; whnf))) rfl ?_
        refine wl_nil ?_
        refine then_go ?_
        exact ⟨q - 1, by simp; omega, i + 1, by omega, rfl, rfl, rfl, rfl, good_succ hg hiM (by rw [hMi]; have := of_decide_eq_false h12; unfold actOk; refine ⟨by omega, by omega, .inr (by omega), by omega⟩) (fun h => (hi0 h).elim), st.drop 0⟩
 ·refine wc_exit (then_exit (then_exit (block_hit ?_)))
  refine then_go ?_
  refine wc_seq ?_
  refine wc_seq ?_
  have hi : i = M.length := by omega
  subst hi
  have hall := good_all hg
  refine wc_region ?_
  refine wl_val (v_move' (by conv => (lhs; whnf))) rfl ?_
  refine wl_val (v_len_s Try.underlying22 rfl) rfl ?_
  refine wl_val (v_gtr rfl rfl) rfl ?_
  refine wl_nil ?_
  refine then_go ?_
  refine wc_cond rfl (fun h56 => ?_) (fun h56 => ?_)
  ·refine wc_seq ?_
   refine wc_region ?_
   refine wl_val (v_assign' (by conv => (lhs; whnf))) rfl ?_
   refine wl_nil ?_
   refine then_go ?_
   refine wc_ret (then_ret ?_)
   exact ret1 rfl ⟨st.touch, by have := of_decide_eq_true h56; unfold chkL; rw [if_neg (fun h => by have := hall.1 h; omega)]; rfl⟩
  ·refine wc_skip ?_
   refine then_go ?_
   refine wc_seq ?_
   refine wc_region ?_
   refine wl_val (v_assign' (by conv => (lhs; whnf))) rfl ?_
   refine wl_nil ?_
   refine then_go ?_
   refine wc_ret ?_
   exact ret1 rfl ⟨st.touch, by have := of_decide_eq_false h56; unfold chkL; rw [if_pos (hall.2 (by omega))]; rfl⟩
end
end Go.Proofs.Ytladpaehbolghaa

namespace Go.Proofs.Ytladpaehbolghaa
open Go Go.RowKit K SH DK JR
theorem halfB0 {b : By} {n : Nat} : halfB b n 0 = (b.drop 0).take (n - 0) := by simp [halfB]
theorem halfB1 {b : By} {n : Nat} : halfB b n 1 = (b.drop n).take (2 * n - n) := by unfold halfB; rw [Nat.one_mul]; congr 1; omega
section
variable {m : Mem} {w : World}
theorem c_pick {v : Value} {b : By} {n : Nat} (him : Im m w) (hb : SlM m v 1 b.length (bs b)) (hl : b.length ≤ 500000000) (hn : 64 ≤ n) (hn2 : 2 * n ≤ b.length) : Ret Try.prog 39 #[v, .int .i64 n] w fun v' w' => Tch w w' [] [] ∧ v' = .tuple #[.int .i64 ((pickF b n).1 : Nat), u64 (pickF b n).2] := by
 have st := St.start him
 obtain ⟨ba, bc, rfl, hbc⟩ := hb.opn
 have h0 := hb.partB 0 n (by omega) (by omega)
 have h1 := hb.partB n (2 * n) (by omega) (by omega)
 have hl0 : ((b.drop 0).take (n - 0)).length = n := by rw [List.length_take, List.length_drop]; omega
 have hl1 : ((b.drop n).take (2 * n - n)).length = n := by rw [List.length_take, List.length_drop]; omega
 refine ret_of Try.call39 Try.func39 rfl Try.ntmps39 Try.results39 rfl ?_
 refine wc_seq ?_
 refine wc_region ?_
 refine wl_val (v_assign' (by conv => (lhs; whnf))) rfl ?_
 refine wl_val (v_assign' (by conv => (lhs; whnf))) rfl ?_
 refine wl_nil ?_
 refine then_go ?_
 refine wc_seq ?_
 refine wc_draw TF.mixed ?_
 have st := st.pure (touch_drew _)
 refine fl_val 0 rfl (fun _ => (v_move' (by conv => (lhs; whnf)))) rfl (by kernel_rfl) ?_
 refine fl_val 1 rfl (fun _ => (v_move' (by conv => (lhs; whnf)))) rfl (by kernel_rfl) ?_
 refine fl_val 2 rfl (fun _ => (v_sls 0 n Try.underlying31 TF.t5 rfl rfl ⟨_, _, rfl, rfl⟩ (by omega) (by omega))) rfl (by kernel_rfl) ?_
 refine fl_val 4 rfl (fun _ => (v_move' (by conv => (lhs; whnf)))) rfl (by kernel_rfl) ?_
 refine fl_val 5 rfl (fun _ => (v_move' (by conv => (lhs; whnf)))) rfl (by kernel_rfl) ?_
 refine fl_val 6 rfl (fun _ => (v_move' (by conv => (lhs; whnf)))) rfl (by kernel_rfl) ?_
 refine fl_val 7 rfl (fun _ => (v_mul' (c := ((2 * n : Nat) : Int)) rfl rfl (by omega) (by omega) (by omega))) rfl (by kernel_rfl) ?_
 refine fl_val 8 rfl (fun _ => (v_sls n (2 * n) Try.underlying31 TF.t5 rfl ⟨_, _, rfl, rfl⟩ ⟨_, _, rfl, rfl⟩ (by omega) (by omega))) rfl (by kernel_rfl) ?_
 refine fl_eff1 3 [8, 7, 6, 5, 4, 1, 0] [] (by kernel_rfl) trivial rfl ?_
 refine wl_call rfl (c_begun st.im h0 (by omega) (by omega)) rfl ?_
 rintro v11 w ⟨t11, rfl⟩
 have st := st.pure t11
 refine wl_nil ⟨rfl, ?_⟩
 refine fl_eff1 9 [7, 6, 5, 4, 1, 0] [] (by kernel_rfl) trivial rfl ?_
 refine wl_call rfl (c_begun st.im h1 (by omega) (by omega)) rfl ?_
 rintro v17 w ⟨t17, rfl⟩
 have st := st.pure t17
 refine wl_nil ⟨rfl, ?_⟩
 refine fl_eff1 10 [7, 6, 5, 4] [] (by kernel_rfl) trivial rfl ?_
 refine wl_val (v_assign' (by conv => (lhs; whnf))) rfl ?_
 refine wl_nil ⟨rfl, ?_⟩
 refine fl_eff1 11 [] [] (by kernel_rfl) trivial rfl ?_
 refine wl_val (v_assign' (by conv => (lhs; whnf))) rfl ?_
 refine wl_nil ⟨rfl, ?_⟩
 refine fl_nil (by kernel_rfl) trivial ?_
 refine then_go ?_
 refine wc_seq ?_
 refine wc_seq ?_
 refine wc_region ?_
 refine wl_val (v_move' (by conv => (lhs; whnf))) rfl ?_
 refine wl_val (v_move' (by conv => (lhs; whnf))) rfl ?_
 refine wl_val (v_gtr64 rfl rfl) rfl ?_
 refine wl_nil ?_
 refine then_go ?_
 refine wc_if rfl (fun h20 => ?_) (fun h20 => ?_)
 ·refine wc_seq ?_
  refine wc_region ?_
  refine wl_val (v_move' (by conv => (lhs; whnf))) rfl ?_
  refine wl_val (v_assign' (by conv => (lhs; whnf))) rfl ?_
  refine wl_val (v_assign' (by conv => (lhs; whnf))) rfl ?_
  refine wl_nil ?_
  refine then_go ?_
  refine wc_ret (then_ret ?_)
  refine ret2 rfl rfl ⟨st.touch, ?_⟩
  unfold pickF
  rw [halfB0, halfB1, if_pos (UInt64.lt_iff_toNat_lt.2 h20)]
  rfl
 ·refine wc_skip ?_
  refine then_go ?_
  refine wc_seq ?_
  refine wc_region ?_
  refine wl_val (v_move' (by conv => (lhs; whnf))) rfl ?_
  refine wl_val (v_assign' (by conv => (lhs; whnf))) rfl ?_
  refine wl_val (v_assign' (by conv => (lhs; whnf))) rfl ?_
  refine wl_nil ?_
  refine then_go ?_
  refine wc_ret ?_
  refine ret2 rfl rfl ⟨st.touch, ?_⟩
  unfold pickF
  rw [halfB0, halfB1, if_neg (fun h => h20 (UInt64.lt_iff_toNat_lt.1 h))]
  rfl
theorem c_jcheck {v : Value} {b : By} (him : Im m w) (hb : SlM m v 1 b.length (bs b)) : Ret Try.prog 27 #[v] w fun v' w' => Tch w w' [] [] ∧ v' = .int .i64 (if 1 ≤ b.length ∧ b.length ≤ 1048576 then 0 else 1) := by
 have st := St.start him
 obtain ⟨ba, bc, rfl, hbc⟩ := hb.opn
 refine ret_of Try.call27 Try.func27 rfl Try.ntmps27 Try.results27 rfl ?_
 refine wc_seq ?_
 refine wc_region ?_
 refine wl_val (v_assign' (by conv => (lhs; whnf))) rfl ?_
 refine wl_nil ?_
 refine then_go ?_
 refine wc_seq ?_
 refine wc_seq ?_
 refine wc_region ?_
 refine wl_val (v_move' (by conv => (lhs; whnf))) rfl ?_
 refine wl_val (v_len_s Try.underlying31 rfl) rfl ?_
 refine wl_val (v_eql rfl rfl) rfl ?_
 refine wl_val (v_move' (by conv => (lhs; whnf))) rfl ?_
 refine wl_valg rfl rfl (fun e => (v_move' (by conv => (lhs; whnf)))) rfl ?_
 refine wl_valg rfl rfl (fun e => (v_len_s Try.underlying31 (by first | rfl | exact gx e rfl))) rfl ?_
 refine wl_valg rfl rfl (fun e => (v_gtr (by first | rfl | exact gx e rfl) (by first | rfl | exact gx e rfl))) rfl ?_
 refine wl_val (v_pickO rfl rfl rfl) rfl ?_
 refine wl_nil ?_
 refine then_go ?_
 refine wc_cond rfl (fun h10 => ?_) (fun h10 => ?_)
 ·refine wc_seq ?_
  refine wc_region ?_
  refine wl_val (v_assign' (by conv => (lhs; whnf))) rfl ?_
  refine wl_nil ?_
  refine then_go ?_
  refine wc_ret (then_ret ?_)
  exact ret1 rfl ⟨st.touch, by rw [if_neg (fun h => by rw [Bool.or_eq_true, decide_eq_true_eq, decide_eq_true_eq] at h10; omega)]; rfl⟩
 ·refine wc_skip ?_
  refine then_go ?_
  refine wc_seq ?_
  refine wc_region ?_
  refine wl_val (v_assign' (by conv => (lhs; whnf))) rfl ?_
  refine wl_nil ?_
  refine then_go ?_
  refine wc_ret ?_
  exact ret1 rfl ⟨st.touch, by rw [if_pos (by rw [Bool.or_eq_false_iff, decide_eq_false_iff_not, decide_eq_false_iff_not] at h10; omega)]; rfl⟩
end
section
variable {m0 m : Mem} {F : List Nat} {w0 w : World} {Es : List Ent}
theorem c_jread {g : UInt64} {v : Value} {half : By} (st : St m0 m F w0 w Es) (hb : SlM m v 1 half.length (bs half)) (h64 : 64 ≤ half.length) (hl : half.length ≤ 500000000) :
  Ret Try.prog 41 #[u64 g, v] w fun v' w' => ∃ m' lv N, St m0 m' F w0 w' (lrE lv N :: Es) ∧ (∀ k o, m k = some o → m' k = some o) ∧ Pcs m' N ∧ N.map (·.1) = recs g half ∧ v' = .tuple #[lv, .int .i64 ((64 + sizeL (recs g half) : Nat) : Int)] := by
 obtain ⟨ba, bc, rfl, hbc⟩ := hb.opn
 refine ret_of Try.call41 Try.func41 rfl Try.ntmps41 Try.results41 rfl ?_
 refine wc_seq ?_
 refine wc_region ?_
 refine wl_val (v_assign' (by conv => (lhs; whnf))) rfl ?_
 refine wl_val (v_assign' (by conv => (lhs; whnf))) rfl ?_
 refine wl_nil ?_
 refine then_go ?_
 refine wc_seq ?_
 refine wc_region ?_
 refine wl_val (v_assign' (by conv => (lhs; whnf))) rfl ?_
 refine wl_nil ?_
 refine then_go ?_
 refine wc_seq ?_
 refine wc_region ?_
 refine wl_val (v_assign' (by conv => (lhs; whnf))) rfl ?_
 refine wl_nil ?_
 refine then_go ?_
 refine wc_block ?_
 have st := nilRow st 31 1
 refine wc_loop (S := Nat) (fun q r w' => ∃ (m' : Mem) (lv : Value) (N : List (By × Value)), (half.drop (64 + sizeL (N.map (·.1)))).length ≤ q ∧ 64 + sizeL (N.map (·.1)) ≤ half.length ∧ N.length * 64 + 64 ≤ half.length ∧ recs g half = N.map (·.1) ++ recsF g q N.length (half.drop (64 + sizeL (N.map (·.1)))) ∧ r 0 = u64 g ∧ r 1 = .slice ba half.length bc ∧ r 6 = lv ∧ r 7 = .int .i64 ((64 + sizeL (N.map (·.1)) : Nat) : Int) ∧ St m0 m' F w0 w' (lrE lv N :: Es) ∧ (∀ k o, m k = some o → m' k = some o) ∧ Pcs m' N) id half.length ⟨m, _, [], by simp, by simpa [sizeL] using h64, by simpa using h64, rfl, rfl, rfl, rfl, rfl, st, fun _ _ h => h, by intro x hx; cases hx⟩ ?_
 clear st
 rintro q r w2 ⟨m', lv, N, hq, hat, hN64, hrec, g0, g1, g6, g7, st, hmm, hN⟩
 refine wc_o 0 g0 (wc_o 1 g1 (wc_o 6 g6 (wc_o 7 g7 ?_)))
 obtain ⟨la, lc, hlv⟩ := row_sl (st.at (i := 0) rfl)
 subst hlv
 obtain ⟨at', hate⟩ : ∃ a, a = 64 + sizeL (N.map (·.1)) := ⟨_, rfl⟩
 rw [← hate] at hq hat hrec ⊢
 have htl := (hb.mono hmm).tailB at' hat
 refine wc_block ?_
 refine wc_seq ?_
 rcases hnx : nextF g (UInt64.ofNat N.length) (half.drop at') with _ | x
 ·refine wc_region ?_
  refine wl_val (v_move' (by conv => (lhs; whnf))) rfl ?_
  refine wl_val (v_move' (by conv => (lhs; whnf))) rfl ?_
  refine wl_val (v_len_s Try.underlying35 rfl) rfl ?_
  refine wl_val (v_convi_64 Try.underlying3 Try.underlying47 rfl) rfl ?_
  refine wl_val (v_move' (by conv => (lhs; whnf))) rfl ?_
  refine wl_val (v_move' (by conv => (lhs; whnf))) rfl ?_
  refine wl_val (v_sls at' half.length Try.underlying31 TF.t5 rfl ⟨_, _, rfl, rfl⟩ rfl hat hbc) rfl ?_
  refine wl_call rfl (c_next st.im htl (by rw [List.length_drop]; omega)) rfl ?_
  rintro v18 w ⟨t18, m2, hg2, hi2, hno⟩
  have st := st.grown hg2 t18 hi2
  have hN := hN.mono hg2.le
  rw [hnx] at hno
  have hmm : ∀ k o, m k = some o → m2 k = some o := fun k o h => hg2.le k o (hmm k o h)
  have hno : v18 = .tuple #[.slice none 0 0, .int .i64 0] := hno
  subst hno
  refine wl_val (v_move' (by conv => (lhs; whnf))) rfl ?_
  refine wl_val (v_extract rfl rfl) rfl ?_
  refine wl_val (v_extract rfl rfl) rfl ?_
  refine wl_val (v_assign' (by conv => (lhs; whnf))) rfl ?_
  refine wl_val (v_assign' (by conv => (lhs; whnf))) rfl ?_
  refine wl_nil ?_
  refine then_go ?_
  refine wc_seq ?_
  refine wc_seq ?_
  refine wc_region ?_
  refine wl_val (v_move' (by conv => (lhs; whnf))) rfl ?_
  refine wl_val (v_eql rfl rfl) rfl ?_
  refine wl_nil ?_
  refine then_go ?_
  refine wc_true rfl ?_
  refine wc_seq ?_
  refine wc_region ?_
  refine wl_val (v_move' (by conv => (lhs; whnf))) rfl ?_
  refine wl_val (v_move' (by conv => (lhs; whnf))) rfl ?_
  refine wl_val (v_assign' (by conv => (lhs; whnf))) rfl ?_
  refine wl_val (v_assign' (by conv => (lhs; whnf))) rfl ?_
  refine wl_nil ?_
  refine then_go ?_
  refine wc_ret (then_ret (block_ret (then_ret (block_ret ?_))))
  rw [recsF_none hnx, List.append_nil] at hrec
  exact ret2 rfl rfl ⟨m2, _, N, st, hmm, hN, hrec.symm, by rw [hrec, ← hate]; rfl⟩
 ·refine wc_region ?_
  refine wl_val (v_move' (by conv => (lhs; whnf))) rfl ?_
  refine wl_val (v_move' (by conv => (lhs; whnf))) rfl ?_
  refine wl_val (v_len_s Try.underlying35 rfl) rfl ?_
  refine wl_val (v_convi_64 Try.underlying3 Try.underlying47 rfl) rfl ?_
  refine wl_val (v_move' (by conv => (lhs; whnf))) rfl ?_
  refine wl_val (v_move' (by conv => (lhs; whnf))) rfl ?_
  refine wl_val (v_sls at' half.length Try.underlying31 TF.t5 rfl ⟨_, _, rfl, rfl⟩ rfl hat hbc) rfl ?_
  refine wl_call rfl (c_next st.im htl (by rw [List.length_drop]; omega)) rfl ?_
  rintro v18 w ⟨t18, m2, hg2, hi2, hno⟩
  have st := st.grown hg2 t18 hi2
  have hN := hN.mono hg2.le
  rw [hnx] at hno
  have hmm : ∀ k o, m k = some o → m2 k = some o := fun k o h => hg2.le k o (hmm k o h)
  obtain ⟨xv, rfl, hxv⟩ := hno
  obtain ⟨k1, k2, k3, k4, k5⟩ := nextF_len hnx
  rw [List.length_drop] at k2 k5
  refine wl_val (v_move' (by conv => (lhs; whnf))) rfl ?_
  refine wl_val (v_extract rfl rfl) rfl ?_
  refine wl_val (v_extract rfl rfl) rfl ?_
  refine wl_val (v_assign' (by conv => (lhs; whnf))) rfl ?_
  refine wl_val (v_assign' (by conv => (lhs; whnf))) rfl ?_
  refine wl_nil ?_
  refine then_go ?_
  refine wc_seq ?_
  refine wc_seq ?_
  refine wc_region ?_
  refine wl_val (v_move' (by conv => (lhs; whnf))) rfl ?_
  refine wl_val (v_eql rfl rfl) rfl ?_
  refine wl_nil ?_
  refine then_go ?_
  refine wc_false (congrArg Value.bool (decide_eq_false (by omega))) ?_
  refine wc_skip ?_
  refine then_go ?_
  refine wc_region ?_
  refine wl_val (v_move' (by conv => (lhs; whnf))) rfl ?_
  refine wl_val (v_move' (by conv => (lhs; whnf))) rfl ?_
  refine wl_svOne (v := xv) Try.underlying35 TF.t31 TF.z31 (SlM.one1 hxv) rfl st rfl ?_
  intro b27 w st
  refine wl_lrApp (x := x) 0 st rfl (SlM.one1 hxv) rfl rfl (by omega) rfl ?_
  intro v28 w st
  refine wl_val (v_move' (by conv => (lhs; whnf))) rfl ?_
  refine wl_val (v_move' (by conv => (lhs; whnf))) rfl ?_
  refine wl_val (v_add' (c := ((at' + recL x.length : Nat) : Int)) rfl rfl (by omega) (by omega) (by omega)) rfl ?_
  refine wl_val (v_assign' (by conv => (lhs; whnf))) rfl ?_
  refine wl_val (v_assign' (by conv => (lhs; whnf))) rfl ?_
  refine wl_nil ?_
  refine block_go (then_go ?_)
  obtain ⟨q, rfl⟩ : ∃ q', q = q' + 1 := ⟨q - 1, by rw [List.length_drop] at hq; omega⟩
  rw [recsF_some hnx, List.drop_drop] at hrec
  have e2 : 64 + sizeL ((N ++ [(x, xv)]).map (·.1)) = at' + recL x.length := by rw [List.map_append, List.map_singleton, sizeL_snoc]; show 64 + (sizeL (N.map (·.1)) + recL x.length) = _; omega
  refine ⟨q, by simp, m2, v28, N ++ [(x, xv)], by rw [e2, List.length_drop]; rw [List.length_drop] at hq; omega, by rw [e2]; omega, ?_, ?_, rfl, rfl, rfl, by rw [e2]; rfl, st, hmm, hN.snoc hxv⟩
  ·rw [List.length_append]
   have := sizeL_ge (l := N.map (·.1))
   rw [List.length_map] at this
   show (N.length + 1) * 64 + 64 ≤ _
   omega
  ·rw [e2, hrec, List.map_append, List.length_append, List.append_assoc]
   rfl
end
end Go.Proofs.Ytladpaehbolghaa

namespace Go.Proofs.Ytladpaehbolghaa
open Go Go.RowKit K SH DK JR
end Go.Proofs.Ytladpaehbolghaa

namespace Go.Proofs.Ytladpaehbolghaa
open Go Go.RowKit K SH DK JR
theorem v_nesJ {P : Program} {r : Fr} {w : World} {ty T U : TypeId} {x y : Operand} {a b : By} (hx : ev r x = .string (strB a)) (hy : ev r y = .string (strB b)) : Val P (.binOp .neq T x y U) ty r w (.bool (decide (¬ a = b))) w := by
 intro _ _ _ _
 simp only [execOp, eqGuard, hx, hy, binOp, Op.stringOp, strB_toList, Sem.run_bind, Sem.run_pure, Result.andThen_ok]
 by_cases h : a = b
 ·subst h; simp
 ·simp [h]
section
variable {m : Mem} {wI : World}
theorem pickF_le {b : By} {n : Nat} : (pickF b n).1 ≤ 1 := by unfold pickF; split; exact Nat.le_refl _; exact Nat.zero_le _
end
end Go.Proofs.Ytladpaehbolghaa

namespace Go.Proofs.Ytladpaehbolghaa
open Go Go.RowKit K SH DK JR
def checkE (b : By) : Nat := if 1 ≤ b.length ∧ b.length ≤ 1048576 then 0 else 1
def appR (L : List By) (b : By) (n : Nat) : Nat := if checkE b ≠ 0 then 1 else if sizeL (L ++ [b]) ≤ n / 2 * 64 - 64 then 0 else 13
def resR (M : List By) (n : Nat) : Nat := if ∃ b ∈ M, checkE b ≠ 0 then 1 else if sizeL M ≤ n / 2 * 64 - 64 then 0 else 13
end Go.Proofs.Ytladpaehbolghaa

namespace Go.Proofs.Ytladpaehbolghaa
open Go Go.RowKit K SH DK JR
namespace JR
def writesD (n : Nat) : DS → Nat → List By → DS × Int
 | d, _, [] => syncD d
 | d, i, c :: cs => if (writeD d n i c).2 ≠ 0 then writeD d n i c else writesD n (writeD d n i c).1 (i + 1) cs
def chunk (b : By) : List By := (List.range (b.length / 64)).map fun j => (b.drop (64 * j)).take 64
def putD (n : Nat) (d : DS) (i : Nat) (b : By) : DS × Int := writesD n d i (chunk b)
structure LG where
 half : Nat
 gen : UInt64
 fin : Nat
def overD (n : Nat) (d : DS) (s : LG) (L : List By) : DS × LG × Int :=
 if n / 2 * 64 - 64 < sizeL L then (d, s, 13) else
 if (putD n d ((1 - s.half) * (n / 2)) (List.replicate (n / 2 * 64) 0)).2 ≠ 0 then ((putD n d ((1 - s.half) * (n / 2)) (List.replicate (n / 2 * 64) 0)).1, s, (putD n d ((1 - s.half) * (n / 2)) (List.replicate (n / 2 * 64) 0)).2) else
 if (putD n (putD n d ((1 - s.half) * (n / 2)) (List.replicate (n / 2 * 64) 0)).1 ((1 - s.half) * (n / 2) + 1) (allB (s.gen + 1) 0 L)).2 ≠ 0 then ((putD n (putD n d ((1 - s.half) * (n / 2)) (List.replicate (n / 2 * 64) 0)).1 ((1 - s.half) * (n / 2) + 1) (allB (s.gen + 1) 0 L)).1, s, (putD n (putD n d ((1 - s.half) * (n / 2)) (List.replicate (n / 2 * 64) 0)).1 ((1 - s.half) * (n / 2) + 1) (allB (s.gen + 1) 0 L)).2) else
 if (putD n (putD n (putD n d ((1 - s.half) * (n / 2)) (List.replicate (n / 2 * 64) 0)).1 ((1 - s.half) * (n / 2) + 1) (allB (s.gen + 1) 0 L)).1 ((1 - s.half) * (n / 2)) (headB (s.gen + 1))).2 ≠ 0 then ((putD n (putD n (putD n d ((1 - s.half) * (n / 2)) (List.replicate (n / 2 * 64) 0)).1 ((1 - s.half) * (n / 2) + 1) (allB (s.gen + 1) 0 L)).1 ((1 - s.half) * (n / 2)) (headB (s.gen + 1))).1, s, (putD n (putD n (putD n d ((1 - s.half) * (n / 2)) (List.replicate (n / 2 * 64) 0)).1 ((1 - s.half) * (n / 2) + 1) (allB (s.gen + 1) 0 L)).1 ((1 - s.half) * (n / 2)) (headB (s.gen + 1))).2) else
 ((putD n (putD n (putD n d ((1 - s.half) * (n / 2)) (List.replicate (n / 2 * 64) 0)).1 ((1 - s.half) * (n / 2) + 1) (allB (s.gen + 1) 0 L)).1 ((1 - s.half) * (n / 2)) (headB (s.gen + 1))).1, ⟨1 - s.half, s.gen + 1, 64 + sizeL L⟩, 0)
def appD (n : Nat) (d : DS) (s : LG) (L : List By) (b : By) : DS × LG × Int :=
 if checkE b ≠ 0 then (d, s, 1) else
 if n / 2 * 64 < s.fin + recL b.length then (d, s, 13) else
 if (putD n d ((s.half * (n / 2 * 64) + s.fin) / 64) (recB s.gen (UInt64.ofNat L.length) b)).2 ≠ 0 then ((putD n d ((s.half * (n / 2 * 64) + s.fin) / 64) (recB s.gen (UInt64.ofNat L.length) b)).1, s, (putD n d ((s.half * (n / 2 * 64) + s.fin) / 64) (recB s.gen (UInt64.ofNat L.length) b)).2) else
 ((putD n d ((s.half * (n / 2 * 64) + s.fin) / 64) (recB s.gen (UInt64.ofNat L.length) b)).1, { s with fin := s.fin + recL b.length }, 0)
theorem chunk_len {b : By} : (chunk b).length = b.length / 64 := by simp [chunk]
theorem chunk_64 {b : By} : ∀ c ∈ chunk b, c.length = 64 := fun c hc => by
 obtain ⟨j, hj, rfl⟩ := List.mem_map.1 hc
 have := List.mem_range.1 hj
 rw [List.length_take, List.length_drop]
 omega
theorem chunk_at {b : By} {j : Nat} (hj : j < (chunk b).length) : (chunk b)[j] = (b.drop (64 * j)).take 64 := by simp [chunk]
theorem chunk_join {b : By} (h : b.length % 64 = 0) : (chunk b).flatten = b := by
 have key : ∀ k, k ≤ b.length / 64 → ((List.range k).map fun j => (b.drop (64 * j)).take 64).flatten = b.take (64 * k) := by
  intro k
  induction k with
  | zero => intro _; simp
  | succ k ih =>
   intro hk
   rw [List.range_succ, List.map_append, List.flatten_append, ih (by omega), Nat.mul_succ, List.take_add]
   simp
 unfold chunk
 rw [key _ (Nat.le_refl _), List.take_of_length_le (by omega)]
def calm (S : By) : DS := ⟨S, [], -1, false⟩
def spl : By → Nat → List By → By
 | S, _, [] => S
 | S, i, c :: cs => spl (splice S (64 * i) c) (i + 1) cs
theorem writes_calm {n : Nat} : ∀ {cs : List By} {S : By} {W : List (Nat × By)} {i : Nat}, (∀ c ∈ cs, c.length = 64) → i + cs.length ≤ n → writesD n ⟨S, W, -1, false⟩ i cs = (calm (spl (dump ⟨S, W, -1, false⟩) i cs), 0)
 | [], S, W, i, _, _ => by simp [writesD, syncD, burn, calm, spl, dump]
 | c :: cs, S, W, i, hc, hn => by
  rw [List.length_cons] at hn
  have h64 := hc c List.mem_cons_self
  have hw : writeD ⟨S, W, -1, false⟩ n i c = (⟨S, W ++ [(i, c)], -1, false⟩, 0) := by
   unfold writeD
   rw [if_neg (by simp), if_neg (by omega), if_neg (by omega)]
   simp [burn]
  rw [writesD, hw, if_neg (by simp)]
  rw [writes_calm (fun x hx => hc x (List.mem_cons_of_mem _ hx)) (by omega)]
  simp [spl, dump]
theorem splice_splice {S a b : By} {o : Nat} (h : o + a.length + b.length ≤ S.length) : splice (splice S o a) (o + a.length) b = splice S o (a ++ b) := by
 have h1 : (S.take o ++ a).length = o + a.length := by simp; omega
 unfold splice
 have e : (S.take o ++ a ++ S.drop (o + a.length)).drop (o + a.length) = S.drop (o + a.length) := List.drop_left' h1
 rw [List.take_left' h1, ← List.drop_drop, e, List.drop_drop, List.length_append]
 simp only [List.append_assoc, Nat.add_assoc]
theorem spl_eq : ∀ {cs : List By} {S : By} {i : Nat}, (∀ c ∈ cs, c.length = 64) → 64 * (i + cs.length) ≤ S.length → spl S i cs = splice S (64 * i) cs.flatten
 | [], S, i, _, _ => by simp [spl, splice_nil]
 | c :: cs, S, i, hc, hn => by
  have h64 := hc c List.mem_cons_self
  have hfl : cs.flatten.length = 64 * cs.length := by
   have : ∀ l : List By, (∀ c ∈ l, c.length = 64) → l.flatten.length = 64 * l.length := by
    intro l
    induction l with
    | nil => intro _; rfl
    | cons x l ih => intro h; rw [List.flatten_cons, List.length_append, ih fun y hy => h y (List.mem_cons_of_mem _ hy), h x List.mem_cons_self, List.length_cons]; omega
   exact this cs fun x hx => hc x (List.mem_cons_of_mem _ hx)
  rw [List.length_cons] at hn
  rw [spl, spl_eq (fun x hx => hc x (List.mem_cons_of_mem _ hx)) (by rw [length_splice (by omega)]; omega), List.flatten_cons]
  have e : 64 * (i + 1) = 64 * i + c.length := by omega
  rw [e, splice_splice (by omega)]
theorem put_calm {n i : Nat} {S b : By} (hS : S.length = 64 * n) (hb : b.length % 64 = 0) (hi : 64 * i + b.length ≤ 64 * n) : putD n (calm S) i b = (calm (splice S (64 * i) b), 0) := by
 have hc := chunk_len (b := b)
 unfold putD calm
 rw [writes_calm chunk_64 (by omega)]
 have : dump ⟨S, [], -1, false⟩ = S := rfl
 rw [this, spl_eq chunk_64 (by omega), chunk_join hb]
 rfl
theorem ok_burn {d : DS} {n : Nat} (h : d.ok n) : (burn d).ok n := ⟨h.pos, h.len, h.le, h.wt⟩
theorem length_foldl_splice : ∀ {W : List (Nat × By)} {S : By} {n : Nat}, S.length = 64 * n → (∀ x ∈ W, x.1 < n ∧ x.2.length = 64) → (W.foldl (fun S x => splice S (64 * x.1) x.2) S).length = 64 * n
 | [], S, n, h, _ => h
 | x :: W, S, n, h, hW => by
  obtain ⟨h1, h2⟩ := hW x List.mem_cons_self
  rw [List.foldl_cons]
  exact length_foldl_splice (by rw [length_splice (by omega)]; exact h) fun y hy => hW y (List.mem_cons_of_mem _ hy)
theorem length_dump {d : DS} {n : Nat} (h : d.ok n) : (dump d).length = 64 * n := length_foldl_splice h.len h.wt
theorem ok_write {d : DS} {n i : Nat} {c : By} (h : d.ok n) : (writeD d n i c).1.ok n := by
 unfold writeD
 split
 ·exact h
 ·split
  ·exact h
  ·split
   ·exact h
   ·rename_i h1 h2 h3
    refine ok_burn ⟨h.pos, h.len, h.le, fun x hx => ?_⟩
    rcases List.mem_append.1 hx with hx | hx
    ·exact h.wt x hx
    ·rw [List.mem_singleton.1 hx]
     exact ⟨by simp; omega, by simpa using h3⟩
theorem ok_sync {d : DS} {n : Nat} (h : d.ok n) : (syncD d).1.ok n := by
 unfold syncD
 split
 ·exact h
 ·split
  ·exact ok_burn h
  ·exact ⟨h.pos, length_dump h, h.le, by intro x hx; cases hx⟩
def Fz (d : DS) : Prop := -1 ≤ d.fuse ∧ d.fuse ≤ 9223372036854775807
theorem fz_burn {d : DS} (h : Fz d) : Fz (burn d) := by
 unfold Fz burn at *
 dsimp only
 split <;> omega
theorem fz_write {d : DS} {n i : Nat} {c : By} (h : Fz d) : Fz (writeD d n i c).1 := by
 unfold writeD
 split
 ·exact h
 ·split
  ·exact h
  ·split
   ·exact h
   ·exact fz_burn (d := { d with wt := d.wt ++ [((i : Int).toNat, c)] }) h
theorem fz_sync {d : DS} (h : Fz d) : Fz (syncD d).1 := by
 unfold syncD
 split
 ·exact h
 ·split
  ·exact fz_burn h
  ·exact fz_burn h
theorem wt_write {d : DS} {n i : Nat} {c : By} : (writeD d n i c).1.wt.length ≤ d.wt.length + 1 := by
 unfold writeD
 split
 ·simp
 ·split
  ·simp
  ·split
   ·simp
   ·simp [burn]
theorem wt_sync {d : DS} : (syncD d).1.wt.length ≤ d.wt.length := by
 unfold syncD
 split
 ·simp
 ·split
  ·simp [burn]
  ·simp
theorem sync_done {d : DS} (h : (syncD d).2 = 0) : (syncD d).1.wt = [] := by
 unfold syncD at *
 split at h
 ·cases h
 ·split at h
  ·cases h
  ·rename_i h1 h2; rw [if_neg h1, if_neg h2]
structure Rdy (n : Nat) (d : DS) (k : Nat) : Prop where
 ok : d.ok n
 fz : Fz d
 few : d.wt.length ≤ k
theorem rdy_writes {n : Nat} : ∀ {cs : List By} {d : DS} {i k : Nat}, Rdy n d k → Rdy n (writesD n d i cs).1 (k + cs.length) ∧ ((writesD n d i cs).2 = 0 → (writesD n d i cs).1.wt = [])
 | [], d, i, k, h => ⟨⟨ok_sync h.ok, fz_sync h.fz, Nat.le_trans wt_sync h.few⟩, sync_done⟩
 | c :: cs, d, i, k, h => by
  have h1 : Rdy n (writeD d n i c).1 (k + 1) := ⟨ok_write h.ok, fz_write h.fz, Nat.le_trans wt_write (by have := h.few; omega)⟩
  rw [writesD]
  split
  ·rename_i hz
   exact ⟨⟨h1.ok, h1.fz, by have := h1.few; rw [List.length_cons]; omega⟩, fun h0 => (hz h0).elim⟩
  ·have := rdy_writes (cs := cs) (i := i + 1) h1
   rw [List.length_cons]
   exact ⟨⟨this.1.ok, this.1.fz, by have := this.1.few; omega⟩, this.2⟩
theorem rdy_put {n : Nat} {d : DS} {i k : Nat} {b : By} (h : Rdy n d k) : Rdy n (putD n d i b).1 (k + b.length / 64) ∧ ((putD n d i b).2 = 0 → (putD n d i b).1.wt = []) := by
 have := rdy_writes (cs := chunk b) (i := i) h
 rwa [chunk_len] at this
end JR
end Go.Proofs.Ytladpaehbolghaa

namespace Go.Proofs.Ytladpaehbolghaa
open Go Go.RowKit K DK
def wtCells (l : List (Nat × By)) : List Value := l.flatMap fun x => Value.int .i64 x.1 :: bs x.2
theorem drop_wtCells {l : List (Nat × By)} (h : ∀ x ∈ l, x.2.length = 64) (i : Nat) : (wtCells l).drop (i * 65) = wtCells (l.drop i) := by
 induction l generalizing i with
 | nil => simp [wtCells]
 | cons x l ih =>
  cases i with
  | zero => simp
  | succ i =>
   have h1 := ih (fun y hy => h y (List.mem_cons_of_mem _ hy)) i
   have h2 := h x List.mem_cons_self
   have e : (i + 1) * 65 = (Value.int .i64 x.1 :: bs x.2).length + i * 65 := by simp [length_bs, h2]; omega
   have e2 : wtCells (x :: l) = (Value.int .i64 x.1 :: bs x.2) ++ wtCells l := by simp [wtCells]
   rw [e, e2, ← List.drop_drop, List.drop_left, List.drop_succ_cons]
   exact h1
theorem wt_elem {l : List (Nat × By)} (h : ∀ x ∈ l, x.2.length = 64) {i : Nat} (hi : i < l.length) : cellsAt (wtCells l) 65 i = Value.int .i64 l[i].1 :: bs l[i].2 := by
 unfold cellsAt
 rw [drop_wtCells h, List.drop_eq_getElem_cons hi]
 have h2 := h l[i] (List.getElem_mem hi)
 simp only [wtCells, List.flatMap_cons]
 have e : (65 : Nat) = (Value.int .i64 l[i].1 :: bs l[i].2).length := by simp [length_bs, h2]
 rw [e, List.take_left]
structure diskM (m : Mem) (b n : Nat) (d : DS) : Prop where
 ok : d.ok n
 mem : ∃ s wv, m b = some (.cells #[.slice (some ⟨s, 0, none⟩) n n, wv, .int .i64 d.fuse, .bool d.down] 67 (0, 0)) ∧ m s = some (.cells (bs d.S).toArray 105 (0, 0)) ∧ SlM m wv 65 d.wt.length (wtCells d.wt)
 few : d.wt.length ≤ 9223372036854775807
theorem bs_append (a b : By) : bs (a ++ b) = bs a ++ bs b := by simp [bs]
theorem secs_split (S : By) (i : Nat) : S.take (64 * i) ++ sec S i ++ S.drop (64 * i + 64) = S := by
 unfold sec
 rw [List.append_assoc, ← List.drop_drop, List.take_append_drop, List.take_append_drop]
theorem c_check {m : Mem} {w : World} {b n : Nat} {d : DS} (i : Int) (him : Im m w) (hd : diskM m b n d) :
  Ret Try.prog 65 #[.pointer (some ⟨b, 0, none⟩), .int .i64 i] w fun v w' => w' = w ∧ v = .int .i64 (if d.down then 14 else if i < 0 ∨ i ≥ n then 2 else 0) := by
 obtain ⟨ok, ⟨s, wv, hb, hs, hw⟩, hf⟩ := hd
 have st := St.start him
 refine ret_of Try.call65 Try.func65 rfl Try.ntmps65 Try.results65 rfl ?_
 refine wc_seq ?_
 refine wc_region ?_
 refine wl_val (v_assign' (by conv => (lhs; whnf))) rfl ?_
 refine wl_nil ?_
 refine then_go ?_
 refine wc_seq ?_
 refine wc_block ?_
 refine wc_seq ?_
 refine wc_region ?_
 refine wl_val (v_move' (by conv => (lhs; whnf))) rfl ?_
 refine wl_val (v_nil rfl) rfl ?_
 refine wl_val (v_fa TF.f67_3 rfl) rfl ?_
 refine wl_val (v_load rfl (st.readm hb TF.t4 rfl)) rfl ?_
 refine wl_val (v_assign' (by conv => (lhs; whnf))) rfl ?_
 refine wl_nil ?_
 refine then_go ?_
 refine wc_cond rfl (fun h5 => ?_) (fun h5 => ?_)
 ·refine wc_seq ?_
  refine wc_region ?_
  refine wl_val (v_assign' (by conv => (lhs; whnf))) rfl ?_
  refine wl_nil ?_
  refine then_go ?_
  refine wc_ret (block_ret (then_ret ?_))
  exact ret1 (v := .int .i64 14) rfl ⟨rfl, by simp [h5]⟩
 ·refine wc_seq ?_
  refine wc_region ?_
  refine wl_val (v_move' (by conv => (lhs; whnf))) rfl ?_
  refine wl_val (v_lss rfl rfl) rfl ?_
  refine wl_val (v_move' (by conv => (lhs; whnf))) rfl ?_
  by_cases hg2 : i < 0
  ·rw [show decide (i < 0) = true from decide_eq_true hg2]
   refine wl_off rfl rfl rfl rfl ?_
   refine wl_off rfl rfl rfl rfl ?_
   refine wl_off rfl rfl rfl rfl ?_
   refine wl_off rfl rfl rfl rfl ?_
   refine wl_off rfl rfl rfl rfl ?_
   refine wl_off rfl rfl rfl rfl ?_
   refine wl_off rfl rfl rfl rfl ?_
   refine wl_val (v_pick rfl) rfl ?_
   refine wl_val (v_assign' (by conv => (lhs; whnf))) rfl ?_
   refine wl_nil ?_
   refine then_go ?_
   refine wc_true rfl ?_
   refine wc_seq ?_
   refine wc_region ?_
   refine wl_val (v_assign' (by conv => (lhs; whnf))) rfl ?_
   refine wl_nil ?_
   refine then_go ?_
   refine wc_ret (block_ret (then_ret ?_))
   exact ret1 (v := .int .i64 2) rfl ⟨rfl, by simp [h5, hg2]⟩
  ·rw [show decide (i < 0) = false from decide_eq_false hg2]
   refine wl_on rfl rfl ?_
   refine wl_val (v_move' (by conv => (lhs; whnf))) rfl ?_
   refine wl_on rfl rfl ?_
   refine wl_val (v_move' (by conv => (lhs; whnf))) rfl ?_
   refine wl_on rfl rfl ?_
   refine wl_val (v_nil rfl) rfl ?_
   refine wl_on rfl rfl ?_
   refine wl_val (v_fa TF.f67_0 rfl) rfl ?_
   refine wl_on rfl rfl ?_
   refine wl_val (v_load rfl (st.readm hb TF.t64 rfl)) rfl ?_
   refine wl_on rfl rfl ?_
   refine wl_val (v_len_s Try.underlying64 rfl) rfl ?_
   refine wl_on rfl rfl ?_
   refine wl_val (v_geq rfl rfl) rfl ?_
   refine wl_val (v_pick rfl) rfl ?_
   refine wl_val (v_assign' (by conv => (lhs; whnf))) rfl ?_
   refine wl_nil ?_
   refine then_go ?_
   refine wc_if rfl (fun h10 => ?_) (fun h10 => ?_)
   ·refine wc_seq ?_
    refine wc_region ?_
    refine wl_val (v_assign' (by conv => (lhs; whnf))) rfl ?_
    refine wl_nil ?_
    refine then_go ?_
    refine wc_ret (block_ret (then_ret ?_))
    exact ret1 (v := .int .i64 2) rfl ⟨rfl, by simp [h5, h10]⟩
   ·refine wc_skip ?_
    refine block_go (then_go ?_)
    refine wc_seq ?_
    refine wc_region ?_
    refine wl_val (v_assign' (by conv => (lhs; whnf))) rfl ?_
    refine wl_nil ?_
    refine then_go ?_
    refine wc_ret ?_
    exact ret1 (v := .int .i64 0) rfl ⟨rfl, by simp [h5, hg2]; omega⟩
theorem c_size {m : Mem} {w : World} {b n : Nat} {d : DS} (him : Im m w) (hd : diskM m b n d) :
  Ret Try.prog 37 #[.pointer (some ⟨b, 0, none⟩)] w fun v w' => w' = w ∧ v = .int .i64 n := by
 obtain ⟨ok, ⟨s, wv, hb, hs, hw⟩, hf⟩ := hd
 have st := St.start him
 refine ret_of Try.call37 Try.func37 rfl Try.ntmps37 Try.results37 rfl ?_
 refine wc_seq ?_
 refine wc_region ?_
 refine wl_val (v_assign' (by conv => (lhs; whnf))) rfl ?_
 refine wl_nil ?_
 refine then_go ?_
 refine wc_seq ?_
 refine wc_region ?_
 refine wl_val (v_move' (by conv => (lhs; whnf))) rfl ?_
 refine wl_val (v_nil rfl) rfl ?_
 refine wl_val (v_fa TF.f67_0 rfl) rfl ?_
 refine wl_val (v_load rfl (st.readm hb TF.t64 rfl)) rfl ?_
 refine wl_val (v_len_s Try.underlying64 rfl) rfl ?_
 refine wl_val (v_assign' (by conv => (lhs; whnf))) rfl ?_
 refine wl_nil ?_
 refine then_go ?_
 refine wc_ret ?_
 exact ret1 rfl ⟨rfl, rfl⟩
end Go.Proofs.Ytladpaehbolghaa

namespace Go.Proofs.Ytladpaehbolghaa
open Go Go.RowKit K DK
def diskL (b s n : Nat) (wv : Value) (d : DS) : List Ent :=
 [blk b #[.slice (some ⟨s, 0, none⟩) n n, wv, .int .i64 d.fuse, .bool d.down] 67, blk s (bs d.S).toArray 105, rowE wv 107 65 d.wt.length (wtCells d.wt)]
def diskO (b s n : Nat) (wv : Value) (d : DS) : Ent := joinE (diskL b s n wv d)
def DiskCall (f : FuncId) (args : List Value) (b s n : Nat) (wv : Value) (d : DS) (w : World) (R : Value → DS → Prop) : Prop :=
 Ret Try.prog f (.pointer (some ⟨b, 0, none⟩) :: args).toArray w fun v w' => ∃ wv' d', Tch w w' (diskO b s n wv d).foot (diskO b s n wv' d').foot ∧ (diskO b s n wv' d').holds w' ∧ R v d'
theorem row_few {w : World} {v : Value} {e size n : Nat} {xs : List Value} (h : (rowE v e size n xs).holds w) : n ≤ 9223372036854775807 := by
 rcases h.2 with ⟨_, rfl⟩ | ⟨g, cap, cur, _, _, _, hc, hm, _⟩
 ·omega
 ·unfold maxLen at hm; omega
theorem disk_snap {m0 m : Mem} {F : List Nat} {w0 w : World} {Es : List Ent} {b s n : Nat} {wv : Value} {d : DS} (st : St m0 m F w0 w (diskL b s n wv d ++ Es)) (ok : d.ok n) : diskM (heapM w) b n d :=
 ⟨ok, ⟨s, wv, st.at (i := 0) rfl, st.at (i := 1) rfl, row_SlM (st.at (i := 2) rfl) fun _ _ _ h => h⟩, row_few (st.at (i := 2) rfl)⟩
section
variable {m : Mem} {w : World} {b s n : Nat} {wv : Value} {d : DS}
theorem c_burns (him : Im m w) (hE : (diskO b s n wv d).holds w) (hm : ∀ k ∈ (diskO b s n wv d).foot, m k = none) (hf : -1 ≤ d.fuse ∧ d.fuse ≤ 9223372036854775807) :
  DiskCall 66 [] b s n wv d w fun v d' => d' = burn d ∧ v = .bool (burn d).down := by
 have st := St.begin him hE hm
 have h1 := hf.1
 have h2 := hf.2
 refine ret_of Try.call66 Try.func66 rfl Try.ntmps66 Try.results66 rfl ?_
 refine wc_seq ?_
 refine wc_region ?_
 refine wl_val (v_assign' (by conv => (lhs; whnf))) rfl ?_
 refine wl_nil ?_
 refine then_go ?_
 refine wc_seq ?_
 refine wc_region ?_
 refine wl_val (v_move' (by conv => (lhs; whnf))) rfl ?_
 refine wl_val (v_move' (by conv => (lhs; whnf))) rfl ?_
 refine wl_val (v_nil rfl) rfl ?_
 refine wl_val (v_fa TF.f67_2 rfl) rfl ?_
 refine wl_val (v_load rfl (by first | exact st.reads 0 rfl TF.t3 rfl | exact st.reads 1 rfl TF.t3 rfl | exact st.reads 2 rfl TF.t3 rfl | exact st.reads 3 rfl TF.t3 rfl | exact st.reads 4 rfl TF.t3 rfl | assumption)) rfl ?_
 refine wl_val (v_eql rfl rfl) rfl ?_
 refine wl_val (v_nil rfl) rfl ?_
 refine wl_val (v_fa TF.f67_3 rfl) rfl ?_
 refine wl_store1 0 st rfl TF.t4 rfl (by conv => (lhs; whnf)) rfl (by first | exact lt_ok rfl | decide | simp) ?_
 intro w st
 have st : St m m _ _ _ (diskL b s n wv { d with down := decide (d.fuse = 0) }) := st
 refine wl_nil ?_
 refine then_go ?_
 refine wc_seq ?_
 refine wc_seq ?_
 refine wc_region ?_
 refine wl_val (v_move' (by conv => (lhs; whnf))) rfl ?_
 refine wl_val (v_nil rfl) rfl ?_
 refine wl_val (v_fa TF.f67_2 rfl) rfl ?_
 refine wl_val (v_load rfl (by first | exact st.reads 0 rfl TF.t3 rfl | exact st.reads 1 rfl TF.t3 rfl | exact st.reads 2 rfl TF.t3 rfl | exact st.reads 3 rfl TF.t3 rfl | exact st.reads 4 rfl TF.t3 rfl | assumption)) rfl ?_
 refine wl_val (v_gtr rfl rfl) rfl ?_
 refine wl_nil ?_
 refine then_go ?_
 refine wc_if rfl (fun h15 => ?_) (fun h15 => ?_)
 ·refine wc_region ?_
  refine wl_val (v_move' (by conv => (lhs; whnf))) rfl ?_
  refine wl_val (v_nil rfl) rfl ?_
  refine wl_val (v_fa TF.f67_2 rfl) rfl ?_
  refine wl_val (v_load rfl (by first | exact st.reads 0 rfl TF.t3 rfl | exact st.reads 1 rfl TF.t3 rfl | exact st.reads 2 rfl TF.t3 rfl | exact st.reads 3 rfl TF.t3 rfl | exact st.reads 4 rfl TF.t3 rfl | assumption)) rfl ?_
  refine wl_val (v_sub' rfl rfl rfl (by first | omega | (dsimp only at *; omega)) (by first | omega | (dsimp only at *; omega))) rfl ?_
  refine wl_val (v_nil rfl) rfl ?_
  refine wl_val (v_fa TF.f67_2 rfl) rfl ?_
  refine wl_store1 0 st rfl TF.t3 rfl (by conv => (lhs; whnf)) rfl (by first | exact lt_ok rfl | decide | simp) ?_
  intro w st
  have st : St m m _ _ _ (diskL b s n wv { d with down := decide (d.fuse = 0), fuse := d.fuse - 1 }) := st
  refine wl_nil ?_
  refine then_go ?_
  refine wc_seq ?_
  refine wc_region ?_
  refine wl_val (v_move' (by conv => (lhs; whnf))) rfl ?_
  refine wl_val (v_nil rfl) rfl ?_
  refine wl_val (v_fa TF.f67_3 rfl) rfl ?_
  refine wl_val (v_load rfl (by first | exact st.reads 0 rfl TF.t4 rfl | exact st.reads 1 rfl TF.t4 rfl | exact st.reads 2 rfl TF.t4 rfl | exact st.reads 3 rfl TF.t4 rfl | exact st.reads 4 rfl TF.t4 rfl | assumption)) rfl ?_
  refine wl_val (v_assign' (by conv => (lhs; whnf))) rfl ?_
  refine wl_nil ?_
  refine then_go ?_
  refine wc_ret ?_
  exact ret1 rfl ⟨wv, { d with down := decide (d.fuse = 0), fuse := d.fuse - 1 }, (St.finish (Es := []) st).1, (St.finish (Es := []) st).2, by simp [burn, h15], rfl⟩
 ·refine wc_skip ?_
  refine then_go ?_
  refine wc_seq ?_
  refine wc_region ?_
  refine wl_val (v_move' (by conv => (lhs; whnf))) rfl ?_
  refine wl_val (v_nil rfl) rfl ?_
  refine wl_val (v_fa TF.f67_3 rfl) rfl ?_
  refine wl_val (v_load rfl (by first | exact st.reads 0 rfl TF.t4 rfl | exact st.reads 1 rfl TF.t4 rfl | exact st.reads 2 rfl TF.t4 rfl | exact st.reads 3 rfl TF.t4 rfl | exact st.reads 4 rfl TF.t4 rfl | assumption)) rfl ?_
  refine wl_val (v_assign' (by conv => (lhs; whnf))) rfl ?_
  refine wl_nil ?_
  refine then_go ?_
  refine wc_ret ?_
  exact ret1 rfl ⟨wv, { d with down := decide (d.fuse = 0) }, (St.finish (Es := []) st).1, (St.finish (Es := []) st).2, by simp [burn, h15], rfl⟩
theorem wtCells_snoc (l : List (Nat × By)) (x : Nat × By) : wtCells (l ++ [x]) = wtCells l ++ (Value.int .i64 x.1 :: bs x.2) := by simp [wtCells]
theorem disk_call {m0 : Mem} {F : List Nat} {w0 : World} {Es : List Ent} {f : FuncId} {args : List Value} {R : Value → DS → Prop} (st : St m0 m F w0 w (diskO b s n wv d :: Es)) (h : DiskCall f args b s n wv d w R) :
  Ret Try.prog f (.pointer (some ⟨b, 0, none⟩) :: args).toArray w fun v w' => ∃ wv' d', St m0 m F w0 w' (diskO b s n wv' d' :: Es) ∧ R v d' :=
 h.mono fun _ _ ⟨wv', d', t, hE, hR⟩ => ⟨wv', d', st.step 0 rfl t hE, hR⟩
theorem c_write {v : Value} {l : By} (i : Int) (him : Im m w) (hE : (diskO b s n wv d).holds w) (hm : ∀ k ∈ (diskO b s n wv d).foot, m k = none) (ok : d.ok n) (hf : -1 ≤ d.fuse ∧ d.fuse ≤ 9223372036854775807) (hfew : d.wt.length ≤ 1000000)
  (hv : SlM m v 1 l.length (bs l)) :
  DiskCall 52 [.int .i64 i, v] b s n wv d w fun v' d' => d' = (writeD d n i l).1 ∧ v' = .int .i64 (writeD d n i l).2 := by
 have hv0 := hv
 obtain ⟨hvl, va, vc, rfl, hv1⟩ := hv
 have st := St.begin him hE hm
 have hlen : (l.length : Int) ≤ 9223372036854775807 ∨ True := .inr trivial
 refine ret_of Try.call52 Try.func52 rfl Try.ntmps52 Try.results52 rfl ?_
 refine wc_seq ?_
 refine wc_region ?_
 refine wl_val (v_assign' (by conv => (lhs; whnf))) rfl ?_
 refine wl_nil ?_
 refine then_go ?_
 refine wc_seq ?_
 refine wc_seq ?_
 refine wc_region ?_
 refine wl_val (v_move' (by conv => (lhs; whnf))) rfl ?_
 refine wl_val (v_move' (by conv => (lhs; whnf))) rfl ?_
 refine wl_call rfl (c_check i (im_heapM w) (disk_snap (Es := []) st ok)) rfl ?_
 rintro v10 w' ⟨rfl, rfl⟩
 refine wl_val (v_assign' (by conv => (lhs; whnf))) rfl ?_
 refine wl_nil ?_
 refine then_go ?_
 refine wc_seq ?_
 refine wc_region ?_
 refine wl_val (v_move' (by conv => (lhs; whnf))) rfl ?_
 refine wl_val (v_neq rfl rfl) rfl ?_
 refine wl_nil ?_
 refine then_go ?_
 refine wc_if rfl (fun h12 => ?_) (fun h12 => ?_)
 ·refine wc_seq ?_
  refine wc_region ?_
  refine wl_val (v_move' (by conv => (lhs; whnf))) rfl ?_
  refine wl_val (v_assign' (by conv => (lhs; whnf))) rfl ?_
  refine wl_nil ?_
  refine then_go ?_
  refine wc_ret (then_ret ?_)
  refine ret1 (v := .int .i64 (if d.down = true then 14 else if i < 0 ∨ i ≥ n then 2 else 0)) rfl ⟨wv, d, (St.finish (Es := []) st).1, (St.finish (Es := []) st).2, ?_, ?_⟩
  ·unfold writeD
   by_cases hd : d.down = true
   ·rw [if_pos hd]
   ·rw [if_neg hd]
    by_cases hr : i < 0 ∨ i ≥ n
    ·rw [if_pos hr]
    ·exact absurd (by rw [if_neg hd, if_neg hr]) h12
  ·unfold writeD
   by_cases hd : d.down = true
   ·rw [if_pos hd]; simp [hd]
   ·rw [if_neg hd]
    by_cases hr : i < 0 ∨ i ≥ n
    ·rw [if_pos hr]; simp [hd, hr]
    ·exact absurd (by rw [if_neg hd, if_neg hr]) h12
 ·refine wc_skip ?_
  refine then_go ?_
  refine wc_seq ?_
  refine wc_seq ?_
  have hd : ¬ d.down = true := fun hd => h12 (by rw [if_pos hd]; decide)
  have hr : ¬ (i < 0 ∨ i ≥ n) := fun hr => h12 (by rw [if_neg hd, if_pos hr]; decide)
  have hun : l.length ≠ 64 → writeD d n i l = (d, 1) := fun h => by unfold writeD; rw [if_neg hd, if_neg hr, if_pos h]
  have hdo : l.length = 64 → writeD d n i l = (burn { d with wt := d.wt ++ [(i.toNat, l)] }, if (burn { d with wt := d.wt ++ [(i.toNat, l)] }).down then 14 else 0) := fun h => by unfold writeD; rw [if_neg hd, if_neg hr, if_neg (by simp [h])]
  refine wc_region ?_
  refine wl_val (v_move' (by conv => (lhs; whnf))) rfl ?_
  refine wl_val (v_len_s Try.underlying31 rfl) rfl ?_
  refine wl_val (v_neq rfl rfl) rfl ?_
  refine wl_nil ?_
  refine then_go ?_
  refine wc_if rfl (fun h16 => ?_) (fun h16 => ?_)
  ·refine wc_seq ?_
   refine wc_region ?_
   refine wl_val (v_assign' (by conv => (lhs; whnf))) rfl ?_
   refine wl_nil ?_
   refine then_go ?_
   refine wc_ret (then_ret ?_)
   exact ret1 (v := .int .i64 1) rfl ⟨wv, d, (St.finish (Es := []) st).1, (St.finish (Es := []) st).2, by rw [hun (by omega)], by rw [hun (by omega)]⟩
  ·refine wc_skip ?_
   refine then_go ?_
   refine wc_seq ?_
   have hl64 : l.length = 64 := by omega
   obtain ⟨vb, vo, vcap, hve, hvk, hrd⟩ := hv0.rd Try.prog (by simp [bs, hl64])
   cases hve
   obtain ⟨k, rfl⟩ : ∃ k : Nat, i = k := ⟨i.toNat, by omega⟩
   refine wc_draw TF.mixed ?_
   have st := st.pure (touch_drew _)
   refine fl_val 0 rfl (fun _ => (v_move' (by conv => (lhs; whnf)))) rfl (by kernel_rfl) ?_
   refine fl_val 1 rfl (fun _ => (v_move' (by conv => (lhs; whnf)))) rfl (by kernel_rfl) ?_
   refine fl_val 2 rfl (fun _ => (v_nil rfl)) rfl (by kernel_rfl) ?_
   refine fl_val 3 rfl (fun _ => (v_fa TF.f67_1 rfl)) rfl (by kernel_rfl) ?_
   refine fl_ld 4 rfl (v_load rfl (by first | exact st.reads 0 rfl TF.t65 rfl | exact st.reads 1 rfl TF.t65 rfl | exact st.reads 2 rfl TF.t65 rfl | exact st.reads 3 rfl TF.t65 rfl | exact st.reads 4 rfl TF.t65 rfl | assumption)) (by kernel_rfl) ?_
   refine fl_val 5 rfl (fun _ => (v_move' (by conv => (lhs; whnf)))) rfl (by kernel_rfl) ?_
   refine fl_val 6 rfl (fun _ => (v_move' (by conv => (lhs; whnf)))) rfl (by kernel_rfl) ?_
   refine fl_val 7 rfl (fun _ => (v_s2a Try.underlying105 rfl (by omega))) rfl (by kernel_rfl) ?_
   refine fl_ld 8 rfl (v_load rfl (show Reads Try.prog _ _ (Addr.mk vb (vo + 0) none) (arr l) from hrd st.im TF.t105 (getV_all (by rw [List.size_toArray, length_bs, hl64])))) (by kernel_rfl) ?_
   refine fl_val 9 rfl (fun _ => (v_build (c' := (Value.int .i64 k :: bs l).toArray) [(0, .int .i64 k), (1, .agg (bs l).toArray)] TF.z107 TF.p107 rfl (fill_one [] [.int .i64 0] (List.replicate 64 (.int .u8 0)) rfl rfl rfl (fill_one [.int .i64 k] (List.replicate 64 (.int .u8 0)) [] rfl rfl (by simp [Value.cells, bs, hl64]) (by simp [FillR, Value.cells]))))) rfl (by kernel_rfl) ?_
   refine fl_eff1 10 [7, 6, 5, 3, 2, 1, 0] [8, 4] (by kernel_rfl) ⟨obl_ld rfl rfl rfl (v_load rfl (show Reads Try.prog _ _ (Addr.mk vb (vo + 0) none) (arr l) from hrd st.im TF.t105 (getV_all (by rw [List.size_toArray, length_bs, hl64])))), obl_ld rfl rfl rfl (v_load rfl (by first | exact st.reads 0 rfl TF.t65 rfl | exact st.reads 1 rfl TF.t65 rfl | exact st.reads 2 rfl TF.t65 rfl | exact st.reads 3 rfl TF.t65 rfl | exact st.reads 4 rfl TF.t65 rfl | assumption)), trivial⟩ rfl ?_
   refine wl_buildSlice (c' := (Value.int .i64 k :: bs l).toArray) [(0, .agg (Value.int .i64 k :: bs l).toArray)] Try.underlying65 TF.t107 TF.z107 (by decide) (by decide) rfl ⟨0, 65, rfl, by simp [Value.cells, bs, hl64], by simp [Value.cells, size_madeCells], setSeg_all (by simp [Value.cells, bs, hl64, size_madeCells])⟩ st rfl ?_
   intro b27 w st
   refine wl_nil ⟨rfl, ?_⟩
   refine fl_eff1 11 [7, 6, 5, 3, 2, 1, 0] [8] (by kernel_rfl) ⟨obl_ld rfl rfl rfl (v_load rfl (show Reads Try.prog _ _ (Addr.mk vb (vo + 0) none) (arr l) from hrd st.im TF.t105 (getV_all (by rw [List.size_toArray, length_bs, hl64])))), obl_ld rfl rfl rfl (v_load rfl (by first | exact st.reads 0 rfl TF.t65 rfl | exact st.reads 1 rfl TF.t65 rfl | exact st.reads 2 rfl TF.t65 rfl | exact st.reads 3 rfl TF.t65 rfl | exact st.reads 4 rfl TF.t65 rfl | assumption)), trivial⟩ rfl ?_
   refine wl_append 3 st rfl Try.underlying65 Try.underlying65 (.inr ⟨_, rfl⟩) TF.t107 TF.z107 (by simp [Value.cells]) rfl rfl (st.srcArr (news := Value.int .i64 k :: bs l) 0 rfl (by simp [bs, hl64]) (fun j u hj => by simpa using hj) (fun u hu => by rcases List.mem_cons.1 hu with rfl | hu; rfl; exact one_bs _ u hu)) (by omega) (by omega) rfl ?_
   intro wv' w _ st
   refine wl_nil ⟨rfl, ?_⟩
   refine fl_val 12 rfl (fun _ => (v_nil rfl)) rfl (by kernel_rfl) ?_
   refine fl_val 13 rfl (fun _ => (v_fa TF.f67_1 rfl)) rfl (by kernel_rfl) ?_
   refine fl_eff1 14 [12] [] (by kernel_rfl) ⟨obl_ld rfl rfl rfl (v_load rfl (show Reads Try.prog _ _ (Addr.mk vb (vo + 0) none) (arr l) from hrd st.im TF.t105 (getV_all (by rw [List.size_toArray, length_bs, hl64])))), trivial⟩ rfl ?_
   refine wl_store1 1 st rfl TF.t65 rfl rfl (row_one (st.at (i := 3) rfl)) (by simp) ?_
   intro w st
   have st := st.drop 0
   have e1 : d.wt.length + 1 = (d.wt ++ [((k : Int).toNat, l)]).length := by simp
   have e2 : wtCells d.wt ++ (Value.int .i64 k :: bs l) = wtCells (d.wt ++ [((k : Int).toNat, l)]) := by rw [wtCells_snoc]; simp
   rw [e1, e2] at st
   have st : St m m (joinE (diskL b s n wv d)).foot _ w (diskL b s n wv' { d with wt := d.wt ++ [((k : Int).toNat, l)] } ++ []) := st
   have st := st.join
   refine wl_nil ⟨rfl, ?_⟩
   refine fl_nil (by kernel_rfl) trivial ?_
   refine then_go ?_
   refine wc_seq ?_
   refine wc_seq ?_
   refine wc_region ?_
   refine wl_val (v_move' (by conv => (lhs; whnf))) rfl ?_
   refine wl_call rfl (disk_call st (c_burns st.im (st.at (i := 0) rfl) (st.none (i := 0) rfl) hf)) rfl ?_
   rintro v32 w ⟨wv3, d3, st, rfl, rfl⟩
   refine wl_nil ?_
   refine then_go ?_
   refine wc_cond rfl (fun h32 => ?_) (fun h32 => ?_)
   ·refine wc_seq ?_
    refine wc_region ?_
    refine wl_val (v_assign' (by conv => (lhs; whnf))) rfl ?_
    refine wl_nil ?_
    refine then_go ?_
    refine wc_ret (then_ret ?_)
    exact ret1 (v := .int .i64 14) rfl ⟨wv3, _, (St.finish (Es := []) st.split).1, (St.finish (Es := []) st.split).2, by rw [hdo hl64], by rw [hdo hl64]; simp only [h32, if_true]⟩
   ·refine wc_skip ?_
    refine then_go ?_
    refine wc_seq ?_
    refine wc_region ?_
    refine wl_val (v_assign' (by conv => (lhs; whnf))) rfl ?_
    refine wl_nil ?_
    refine then_go ?_
    refine wc_ret ?_
    exact ret1 (v := .int .i64 0) rfl ⟨wv3, _, (St.finish (Es := []) st.split).1, (St.finish (Es := []) st.split).2, by rw [hdo hl64], by rw [hdo hl64]; simp only [h32, Bool.false_eq_true, if_false]⟩
theorem setSeg_bs {S l : By} {o : Nat} : setSeg (bs S).toArray o (bs l) = (bs (splice S o l)).toArray := by
 apply Array.ext'
 simp [setSeg, splice, bs, List.map_take, List.map_drop]
theorem st_nil {m0 : Mem} {F : List Nat} {w0 : World} {Es : List Ent} {v : Value} {e size k : Nat} {xs : List Value} (st : St m0 m F w0 w Es) (i : Nat) (hi : Es[i]? = some (rowE v e size k xs)) : St m0 m F w0 w (Es.set i (rowE (.slice none 0 0) e size 0 [])) :=
 st.step i hi ⟨rfl, rfl, rfl, Nat.le_refl _, fun _ _ _ => rfl, by simp [rowE, Value.ownBlock]⟩ ⟨by simp, .inl ⟨rfl, rfl⟩⟩
def dumpK (d : DS) (k : Nat) : By := (d.wt.take k).foldl (fun S x => splice S (64 * x.1) x.2) d.S
theorem dumpK_succ (d : DS) (k : Nat) (h : k < d.wt.length) : dumpK d (k + 1) = splice (dumpK d k) (64 * d.wt[k].1) d.wt[k].2 := by
 unfold dumpK
 rw [List.take_succ_eq_append_getElem h, List.foldl_append]
 rfl
theorem length_dumpK {d : DS} {n : Nat} (ok : d.ok n) : ∀ k, k ≤ d.wt.length → (dumpK d k).length = 64 * n
 | 0, _ => by simp [dumpK, ok.len]
 | k + 1, h => by
  have ih := length_dumpK ok k (by omega)
  have hx := ok.wt d.wt[k] (List.getElem_mem _)
  rw [dumpK_succ d k (by omega), length_splice (by rw [ih, hx.2]; omega), ih]
theorem c_sync (him : Im m w) (hE : (diskO b s n wv d).holds w) (hm : ∀ k ∈ (diskO b s n wv d).foot, m k = none) (ok : d.ok n) (hf : -1 ≤ d.fuse ∧ d.fuse ≤ 9223372036854775807) (hfew : d.wt.length ≤ 1000000) :
  DiskCall 53 [] b s n wv d w fun v' d' => d' = (syncD d).1 ∧ v' = .int .i64 (syncD d).2 := by
 have st := St.begin him hE hm
 have ok' := ok.wt
 refine ret_of Try.call53 Try.func53 rfl Try.ntmps53 Try.results53 rfl ?_
 refine wc_seq ?_
 refine wc_region ?_
 refine wl_val (v_assign' (by conv => (lhs; whnf))) rfl ?_
 refine wl_nil ?_
 refine then_go ?_
 refine wc_seq ?_
 refine wc_seq ?_
 refine wc_region ?_
 refine wl_val (v_move' (by conv => (lhs; whnf))) rfl ?_
 refine wl_val (v_nil rfl) rfl ?_
 refine wl_val (v_fa TF.f67_3 rfl) rfl ?_
 refine wl_val (v_load rfl (by first | exact st.reads 0 rfl TF.t4 rfl | exact st.reads 1 rfl TF.t4 rfl | exact st.reads 2 rfl TF.t4 rfl | exact st.reads 3 rfl TF.t4 rfl | exact st.reads 4 rfl TF.t4 rfl | assumption)) rfl ?_
 refine wl_val (v_move' (by conv => (lhs; whnf))) rfl ?_
 rcases Bool.eq_false_or_eq_true (d.down) with hg4 | hg4
 ·rw [hg4]
  refine wl_off rfl rfl rfl rfl ?_
  refine wl_off rfl rfl rfl rfl ?_
  refine wl_val (v_pick rfl) rfl ?_
  refine wl_nil ?_
  refine then_go ?_
  refine wc_true rfl ?_
  refine wc_seq ?_
  refine wc_region ?_
  refine wl_val (v_assign' (by conv => (lhs; whnf))) rfl ?_
  refine wl_nil ?_
  refine then_go ?_
  refine wc_ret (then_ret ?_)
  exact ret1 (v := .int .i64 14) rfl ⟨wv, d, (St.finish (Es := []) st).1, (St.finish (Es := []) st).2, by simp [syncD, hg4], by simp [syncD, hg4]⟩
 ·rw [hg4]
  refine wl_on rfl rfl ?_
  refine wl_val (v_move' (by conv => (lhs; whnf))) rfl ?_
  refine wl_on rfl rfl ?_
  have st : St m m (joinE (diskL b s n wv d)).foot w w (diskL b s n wv d ++ []) := st
  have st := st.join
  refine wl_call rfl (disk_call st (c_burns st.im (st.at (i := 0) rfl) (st.none (i := 0) rfl) hf)) rfl ?_
  rintro v32 w1 ⟨wv3, d3, st, rfl, rfl⟩
  refine wl_val (v_pick rfl) rfl ?_
  refine wl_nil ?_
  refine then_go ?_
  refine wc_cond rfl (fun h12 => ?_) (fun h12 => ?_)
  ·refine wc_seq ?_
   refine wc_region ?_
   refine wl_val (v_assign' (by conv => (lhs; whnf))) rfl ?_
   refine wl_nil ?_
   refine then_go ?_
   refine wc_ret (then_ret ?_)
   have h12' : d.fuse = 0 := by simpa [burn] using h12
   exact ret1 (v := .int .i64 14) rfl ⟨wv3, _, (St.finish (Es := []) st.split).1, (St.finish (Es := []) st.split).2, by simp [syncD, hg4, h12'], by simp [syncD, hg4, h12']⟩
  ·refine wc_skip ?_
   refine then_go ?_
   refine wc_seq ?_
   refine wc_seq ?_
   have hf0 : ¬ d.fuse = 0 := by
    intro h
    have : (burn d).down = true := by simp [burn, h]
    rw [h12] at this
    cases this
   have st : St m m (joinE (diskL b s n wv d)).foot w w1 (diskL b s n wv3 (burn d)) := by have := st.split; rwa [List.append_nil] at this
   obtain ⟨hnil, wa, wc, hwv, hk3, hn3⟩ : ∃ (_ : True) (wa : Option Addr) (wc : Nat), wv3 = .slice wa d.wt.length wc ∧ d.wt.length ≤ wc ∧ True := by
    obtain ⟨_, a, c, h1, h2, _⟩ := row_SlM (m := heapM w1) (st.at (i := 2) rfl) fun _ _ _ h => h
    exact ⟨trivial, a, c, h1, h2, trivial⟩
   subst hwv
   refine wc_region ?_
   refine wl_val (v_move' (by conv => (lhs; whnf))) rfl ?_
   refine wl_val (v_nil rfl) rfl ?_
   refine wl_val (v_fa TF.f67_1 rfl) rfl ?_
   refine wl_val (v_load rfl (by first | exact st.reads 0 rfl TF.t65 rfl | exact st.reads 1 rfl TF.t65 rfl | exact st.reads 2 rfl TF.t65 rfl | exact st.reads 3 rfl TF.t65 rfl | exact st.reads 4 rfl TF.t65 rfl | assumption)) rfl ?_
   refine wl_val (v_len_s Try.underlying65 rfl) rfl ?_
   refine wl_val (v_move' (by conv => (lhs; whnf))) rfl ?_
   refine wl_nil ?_
   refine then_go ?_
   refine wc_block ?_
   refine wc_loop (S := Nat) (fun k r w' => ∃ j, k + j = d.wt.length ∧ r 0 = .pointer (some ⟨b, 0, none⟩) ∧ r 16 = .slice wa d.wt.length wc ∧ r 17 = .int .i64 d.wt.length ∧ r 18 = .int .i64 j ∧
    St m m (joinE (diskL b s n wv d)).foot w w' (diskL b s n (.slice wa d.wt.length wc) { burn d with S := dumpK d j })) id d.wt.length ⟨0, rfl, rfl, rfl, rfl, rfl, st⟩ ?_
   rintro k r w2 ⟨j, hkj, h0, h16, h17, h18, st⟩
   refine wc_o 0 h0 (wc_o 16 h16 (wc_o 17 h17 (wc_o 18 h18 ?_)))
   refine wc_seq ?_
   refine wc_region ?_
   refine wl_val (v_lss rfl rfl) rfl ?_
   refine wl_nil ?_
   refine then_go ?_
   refine wc_seq ?_
   refine wc_if rfl (fun h19 => ?_) (fun h19 => ?_)
   ·refine wc_skip ?_
    refine then_go ?_
    refine wc_seq ?_
    refine wc_block ?_
    refine wc_seq ?_
    have hj : j < d.wt.length := by omega
    obtain ⟨wb, wo, wcap, hv, _, hrd⟩ := (row_SlM (m := heapM w2) (st.at (i := 2) rfl) fun _ _ _ h => h).elem Try.prog (i := j) hj (by omega)
    cases hv
    have hel := wt_elem (fun x hx => (ok' x hx).2) hj
    have hx := ok' d.wt[j] (List.getElem_mem _)
    refine wc_region ?_
    refine wl_val (v_ias j Try.underlying65 TF.t107 rfl rfl (by first | rfl | omega) (by first | omega | (dsimp only at *; omega))) rfl ?_
    refine wl_val (v_load rfl (hrd (im_heapM _) (off := 0) TF.t107 (getV_all (by show ((cellsAt (wtCells d.wt) 65 j).toArray).size = 65; rw [hel]; simp [bs, hx.2])))) rfl ?_
    refine wl_alloc TF.z107 st rfl ?_
    intro b4 w st
    refine wl_storeW 0 st rfl TF.t107 rfl rfl (by show ((cellsAt (wtCells d.wt) 65 j).toArray).size = 65; rw [hel]; simp [bs, hx.2]) (by simp [Value.cells]) (fun u hu => by
     have hu' : u ∈ cellsAt (wtCells d.wt) 65 j := (by simpa using hu : u ∈ cellsAt (wtCells (burn d).wt) 65 j)
     rw [hel] at hu'
     rcases List.mem_cons.1 hu' with rfl | hu'
     ·rfl
     ·exact one_bs _ u hu') ?_
    intro w st
    have hel' : cellsAt (wtCells (burn d).wt) 65 j = Value.int .i64 d.wt[j].1 :: bs d.wt[j].2 := hel
    change St _ _ _ _ _ (blk b4 (cellsAt (wtCells (burn d).wt) 65 j).toArray 107 :: diskL b s n (.slice (some ⟨wb, wo, none⟩) d.wt.length wc) { burn d with S := dumpK d j }) at st
    rw [hel'] at st
    refine wl_nil ?_
    refine then_go ?_
    refine wc_draw TF.mixed ?_
    have st := st.pure (touch_drew _)
    refine fl_val 0 rfl (fun _ => (v_move' (by conv => (lhs; whnf)))) rfl (by kernel_rfl) ?_
    refine fl_val 1 rfl (fun _ => (v_nil rfl)) rfl (by kernel_rfl) ?_
    refine fl_val 2 rfl (fun _ => (v_fa TF.f67_0 rfl)) rfl (by kernel_rfl) ?_
    refine fl_ld 3 rfl (v_load rfl (by first | exact st.reads 0 rfl TF.t64 rfl | exact st.reads 1 rfl TF.t64 rfl | exact st.reads 2 rfl TF.t64 rfl | exact st.reads 3 rfl TF.t64 rfl | exact st.reads 4 rfl TF.t64 rfl | assumption)) (by kernel_rfl) ?_
    refine fl_val 4 rfl (fun _ => (v_fa TF.f107_0 rfl)) rfl (by kernel_rfl) ?_
    refine fl_ld 5 rfl (v_load rfl (by first | exact st.rdp 0 rfl (by exact rfl) TF.t3 (by exact rfl) | exact st.rdp 1 rfl (by exact rfl) TF.t3 (by exact rfl) | exact st.rdp 2 rfl (by exact rfl) TF.t3 (by exact rfl) | exact st.rdp 3 rfl (by exact rfl) TF.t3 (by exact rfl) | exact st.rdp 4 rfl (by exact rfl) TF.t3 (by exact rfl) | exact st.rdp 5 rfl (by exact rfl) TF.t3 (by exact rfl) | exact st.rdp 6 rfl (by exact rfl) TF.t3 (by exact rfl) | exact st.rdp 7 rfl (by exact rfl) TF.t3 (by exact rfl))) (by kernel_rfl) ?_
    refine fl_val 6 rfl (fun _ => (v_fa TF.f107_1 rfl)) rfl (by kernel_rfl) ?_
    refine fl_ld 7 rfl (v_load rfl (st.reads 0 rfl TF.t105 (getV_tl (by simp [bs, hx.2])))) (by kernel_rfl) ?_
    refine fl_val 8 rfl (fun _ => (v_ias (d.wt[j].1) Try.underlying64 TF.t105 rfl rfl (by first | rfl | omega) hx.1)) rfl (by kernel_rfl) ?_
    refine fl_eff1 9 [] [] (by kernel_rfl) ⟨obl_ld rfl rfl rfl (v_load rfl (st.reads 0 rfl TF.t105 (getV_tl (by simp [bs, hx.2])))), obl_ld rfl rfl rfl (v_load rfl (by first | exact st.rdp 0 rfl (by exact rfl) TF.t3 (by exact rfl) | exact st.rdp 1 rfl (by exact rfl) TF.t3 (by exact rfl) | exact st.rdp 2 rfl (by exact rfl) TF.t3 (by exact rfl) | exact st.rdp 3 rfl (by exact rfl) TF.t3 (by exact rfl) | exact st.rdp 4 rfl (by exact rfl) TF.t3 (by exact rfl) | exact st.rdp 5 rfl (by exact rfl) TF.t3 (by exact rfl) | exact st.rdp 6 rfl (by exact rfl) TF.t3 (by exact rfl) | exact st.rdp 7 rfl (by exact rfl) TF.t3 (by exact rfl))), obl_ld rfl rfl rfl (v_load rfl (by first | exact st.reads 0 rfl TF.t64 rfl | exact st.reads 1 rfl TF.t64 rfl | exact st.reads 2 rfl TF.t64 rfl | exact st.reads 3 rfl TF.t64 rfl | exact st.reads 4 rfl TF.t64 rfl | assumption)), trivial⟩ rfl ?_
    have hlS : (dumpK d j).length = 64 * n := length_dumpK ok j (by omega)
    refine wl_store (v := .agg (bs d.wt[j].2).toArray) 2 st rfl TF.t105 rfl rfl (by simp [Value.cells, bs, hx.2]) (fun u hu => one_bs _ u (by simpa [Value.cells] using hu)) (by simp [bs, hlS]; omega) ?_
    intro w st
    have e : setSeg (bs (dumpK d j)).toArray (0 + d.wt[j].1 * 64) (Value.agg (bs d.wt[j].2).toArray).cells.toList = (bs (dumpK d (j + 1))).toArray := by
     rw [dumpK_succ d j hj, show 0 + d.wt[j].1 * 64 = 64 * d.wt[j].1 by omega]
     exact setSeg_bs
    have st := st.drop 0
    change St _ _ _ _ _ [_, blk s (setSeg (bs (dumpK d j)).toArray (0 + d.wt[j].1 * 64) (Value.agg (bs d.wt[j].2).toArray).cells.toList) _, _] at st
    rw [e] at st
    change St _ _ _ _ _ (diskL b s n (.slice (some ⟨wb, wo, none⟩) d.wt.length wc) { burn d with S := dumpK d (j + 1) }) at st
    refine wl_nil ⟨rfl, ?_⟩
    refine fl_nil (by kernel_rfl) trivial ?_
    refine block_go (then_go ?_)
    refine wc_region ?_
    refine wl_val (v_add' rfl rfl rfl (by first | omega | (dsimp only at *; omega)) (by first | omega | (dsimp only at *; omega))) rfl ?_
    refine wl_val (v_move' (by conv => (lhs; whnf))) rfl ?_
    refine wl_nil ?_
    refine then_go ?_
    exact ⟨k - 1, by simp; omega, j + 1, by omega, rfl, rfl, rfl, rfl, st⟩
   ·refine wc_exit (then_exit (then_exit (block_hit ?_)))
    refine then_go ?_
    refine wc_seq ?_
    refine wc_region ?_
    refine wl_val (v_move' (by conv => (lhs; whnf))) rfl ?_
    refine wl_val (v_nil rfl) rfl ?_
    refine wl_val (v_fa TF.f67_1 rfl) rfl ?_
    refine wl_store1 0 st rfl TF.t65 rfl rfl rfl (by simp) ?_
    intro w st
    have hjl : j = d.wt.length := by omega
    subst hjl
    have st := st_nil st 2 rfl
    have e : dumpK d d.wt.length = dump d := by simp [dumpK, dump]
    change St _ _ _ _ _ (diskL b s n (.slice none 0 0) { burn d with S := dumpK d d.wt.length, wt := [] }) at st
    rw [e] at st
    refine wl_nil ?_
    refine then_go ?_
    refine wc_seq ?_
    refine wc_region ?_
    refine wl_val (v_assign' (by conv => (lhs; whnf))) rfl ?_
    refine wl_nil ?_
    refine then_go ?_
    refine wc_ret ?_
    exact ret1 (v := .int .i64 0) rfl ⟨_, _, (St.finish (Es := []) st).1, (St.finish (Es := []) st).2, by simp [syncD, hg4, hf0], by simp [syncD, hg4, hf0]⟩
end
end Go.Proofs.Ytladpaehbolghaa

namespace Go.Proofs.Ytladpaehbolghaa
open Go Go.RowKit K DK
section
variable {m : Mem} {w : World} {b s n : Nat} {wv : Value} {d : DS}
def NewBytes (w w' : World) (v : Value) (l : By) : Prop := ∃ m1, Fresh m1 w ∧ Im m1 w' ∧ SlM m1 v 1 l.length (bs l)
theorem dumpK_all (d : DS) : dumpK d d.wt.length = dump d := by simp [dumpK, dump]
theorem setSeg_sp {S l : By} {sp : List Value} {o : Nat} (h : o + l.length ≤ S.length) : setSeg (bs S ++ sp).toArray o (bs l) = (bs (splice S o l) ++ sp).toArray := by
 apply Array.ext'
 simp only [setSeg, splice, bs, List.map_append, List.map_take, List.map_drop, List.length_map]
 rw [List.take_append_of_le_length (by simp; omega), List.drop_append_of_le_length (by simp; omega)]
 simp
theorem c_dump {wI : World} (him : Im m wI) (hd : diskM m b n d) :
  Ret Try.prog 38 #[.pointer (some ⟨b, 0, none⟩)] wI fun v w' => Tch wI w' [] [] ∧ NewBytes wI w' v (dump d) := by
 obtain ⟨ok, ⟨s, wv, hb, hs, hw⟩, hf⟩ := hd
 have st := St.start him
 have hw0 := hw
 obtain ⟨hwl, wa, wc, rfl, hw1⟩ := hw
 have ok1 := ok.pos
 have ok2 := ok.le
 have ok3 := ok.len
 have ok' := ok.wt
 refine ret_of Try.call38 Try.func38 rfl Try.ntmps38 Try.results38 rfl ?_
 refine wc_seq ?_
 refine wc_region ?_
 refine wl_val (v_assign' (by conv => (lhs; whnf))) rfl ?_
 refine wl_nil ?_
 refine then_go ?_
 refine wc_seq ?_
 refine wc_region ?_
 refine wl_val (v_move' (by conv => (lhs; whnf))) rfl ?_
 refine wl_val (v_nil rfl) rfl ?_
 refine wl_val (v_fa TF.f67_0 rfl) rfl ?_
 refine wl_val (v_load rfl (st.readm hb TF.t64 rfl)) rfl ?_
 refine wl_val (v_len_s Try.underlying64 rfl) rfl ?_
 refine wl_val (v_mul' rfl rfl rfl (by first | omega | (dsimp only at *; omega)) (by first | omega | (dsimp only at *; omega))) rfl ?_
 refine wl_make (l := 0) (c := n * 64) Try.underlying31 TF.t5 TF.z5 rfl rfl rfl (by simp) (by omega) (by omega) (by omega) (by omega) st rfl ?_
 intro b3 w st
 have st := st.rowShut 0 (k := 0) (cap := n * 64) (size := 1) (xs := []) rfl (by omega) (by simp [size_madeCells]) (by omega) (by simp)
 refine wl_val (v_assign' (by conv => (lhs; whnf))) rfl ?_
 refine wl_nil ?_
 refine then_go ?_
 refine wc_seq ?_
 refine wc_region ?_
 refine wl_val (v_move' (by conv => (lhs; whnf))) rfl ?_
 refine wl_val (v_nil rfl) rfl ?_
 refine wl_val (v_fa TF.f67_0 rfl) rfl ?_
 refine wl_val (v_load rfl (st.readm hb TF.t64 rfl)) rfl ?_
 have st := st.new (E := rowE (.slice none 0 0) 105 64 0 []) ⟨rfl, rfl, rfl, Nat.le_refl _, fun _ _ _ => rfl, by simp [rowE, Value.ownBlock]⟩ ⟨by simp, .inl ⟨rfl, rfl⟩⟩
 refine wl_append 0 st rfl Try.underlying64 Try.underlying64 (.inr ⟨_, rfl⟩) TF.t105 TF.z105 (by simp [Value.cells]) rfl rfl ((SlM.of (o := 0) (k := n) (cap := n) (size := 64) (xs := bs d.S) hs (by simp [bs, ok3]; omega) (Nat.le_refl _) (fun j u hj => by simpa using hj)).src st.im (one_bs _)) (by omega) (by omega) rfl ?_
 intro lv w _ st
 rw [Nat.zero_add, List.nil_append] at st
 obtain ⟨g, cap, sp, rfl, hgc, hsp, hcap, st⟩ := st.rowOpen 0 rfl (by omega)
 change St _ _ _ _ _ [blk g (bs d.S ++ sp).toArray 105, rowE (.slice (some ⟨b3, 0, none⟩) 0 (n * 64)) 5 1 0 []] at st
 refine wl_val (v_assign' (by conv => (lhs; whnf))) rfl ?_
 refine wl_nil ?_
 refine then_go ?_
 refine wc_seq ?_
 refine wc_seq ?_
 refine wc_region ?_
 refine wl_val (v_move' (by conv => (lhs; whnf))) rfl ?_
 refine wl_val (v_nil rfl) rfl ?_
 refine wl_val (v_fa TF.f67_1 rfl) rfl ?_
 refine wl_val (v_load rfl (st.readm hb TF.t65 rfl)) rfl ?_
 refine wl_val (v_len_s Try.underlying65 rfl) rfl ?_
 refine wl_val (v_move' (by conv => (lhs; whnf))) rfl ?_
 refine wl_nil ?_
 refine then_go ?_
 refine wc_block ?_
 refine wc_loop (S := Nat) (fun k r w' => ∃ j, k + j = d.wt.length ∧ r 3 = .slice (some ⟨b3, 0, none⟩) 0 (n * 64) ∧ r 4 = .slice (some ⟨g, 0, none⟩) n cap ∧ r 24 = .slice wa d.wt.length wc ∧ r 25 = .int .i64 d.wt.length ∧ r 26 = .int .i64 j ∧
  St m m [] wI w' [blk g (bs (dumpK d j) ++ sp).toArray 105, rowE (.slice (some ⟨b3, 0, none⟩) 0 (n * 64)) 5 1 0 []]) id d.wt.length ⟨0, rfl, rfl, rfl, rfl, rfl, rfl, st⟩ ?_
 rintro k r w2 ⟨j, hkj, h3, h4, h24, h25, h26, st⟩
 refine wc_o 3 h3 (wc_o 4 h4 (wc_o 24 h24 (wc_o 25 h25 (wc_o 26 h26 ?_))))
 refine wc_seq ?_
 refine wc_region ?_
 refine wl_val (v_lss rfl rfl) rfl ?_
 refine wl_nil ?_
 refine then_go ?_
 refine wc_seq ?_
 refine wc_if rfl (fun h27 => ?_) (fun h27 => ?_)
 ·refine wc_skip ?_
  refine then_go ?_
  refine wc_seq ?_
  refine wc_block ?_
  refine wc_seq ?_
  have hj : j < d.wt.length := by omega
  obtain ⟨wb, wo, wcap, hv, _, hrd⟩ := hw0.elem Try.prog (i := j) hj (by omega)
  cases hv
  have hel : cellsAt (wtCells d.wt) 65 j = Value.int .i64 d.wt[j].1 :: bs d.wt[j].2 := wt_elem (fun x hx => (ok' x hx).2) hj
  have hx := ok' d.wt[j] (List.getElem_mem _)
  refine wc_region ?_
  refine wl_val (v_ias j Try.underlying65 TF.t107 rfl rfl (by first | rfl | omega) (by first | omega | (dsimp only at *; omega))) rfl ?_
  refine wl_val (v_load rfl (hrd st.im (off := 0) TF.t107 (getV_all (by rw [hel]; simp [bs, hx.2])))) rfl ?_
  refine wl_alloc TF.z107 st rfl ?_
  intro b6 w st
  refine wl_storeW 0 st rfl TF.t107 rfl rfl (by rw [hel]; simp [bs, hx.2]) (by simp [Value.cells]) (fun u hu => by
   rw [hel] at hu
   rcases List.mem_cons.1 (List.mem_toArray.1 (by simpa using hu)) with rfl | hu'
   ·rfl
   ·exact one_bs _ u hu') ?_
  intro w st
  rw [hel] at st
  refine wl_nil ?_
  refine then_go ?_
  refine wc_region ?_
  refine wl_val (v_move' (by conv => (lhs; whnf))) rfl ?_
  refine wl_val (v_fa TF.f107_0 rfl) rfl ?_
  refine wl_val (v_load rfl (by first | exact st.rdp 0 rfl (by exact rfl) TF.t3 (by exact rfl) | exact st.rdp 1 rfl (by exact rfl) TF.t3 (by exact rfl) | exact st.rdp 2 rfl (by exact rfl) TF.t3 (by exact rfl) | exact st.rdp 3 rfl (by exact rfl) TF.t3 (by exact rfl) | exact st.rdp 4 rfl (by exact rfl) TF.t3 (by exact rfl) | exact st.rdp 5 rfl (by exact rfl) TF.t3 (by exact rfl) | exact st.rdp 6 rfl (by exact rfl) TF.t3 (by exact rfl) | exact st.rdp 7 rfl (by exact rfl) TF.t3 (by exact rfl))) rfl ?_
  refine wl_val (v_fa TF.f107_1 rfl) rfl ?_
  refine wl_val (v_load rfl (st.reads 0 rfl TF.t105 (getV_tl (by simp [bs, hx.2])))) rfl ?_
  refine wl_val (v_ias (d.wt[j].1) Try.underlying64 TF.t105 rfl rfl (by first | rfl | omega) hx.1) rfl ?_
  have hlS : (dumpK d j).length = 64 * n := length_dumpK ok j (by omega)
  refine wl_store (v := .agg (bs d.wt[j].2).toArray) 1 st rfl TF.t105 rfl rfl (by simp [Value.cells, bs, hx.2]) (fun u hu => one_bs _ u (by simpa [Value.cells] using hu)) (by simp [bs, hlS]; omega) ?_
  intro w st
  have e : setSeg (bs (dumpK d j) ++ sp).toArray (0 + d.wt[j].1 * 64) (Value.agg (bs d.wt[j].2).toArray).cells.toList = (bs (dumpK d (j + 1)) ++ sp).toArray := by
   rw [dumpK_succ d j hj, show 0 + d.wt[j].1 * 64 = 64 * d.wt[j].1 by omega]
   exact setSeg_sp (by rw [hlS, hx.2]; omega)
  rw [e] at st
  have st := st.drop 0
  refine wl_nil ?_
  refine block_go (then_go ?_)
  refine wc_region ?_
  refine wl_val (v_add' rfl rfl rfl (by first | omega | (dsimp only at *; omega)) (by first | omega | (dsimp only at *; omega))) rfl ?_
  refine wl_val (v_move' (by conv => (lhs; whnf))) rfl ?_
  refine wl_nil ?_
  refine then_go ?_
  exact ⟨k - 1, by simp; omega, j + 1, by omega, rfl, rfl, rfl, rfl, rfl, st⟩
 ·refine wc_exit (then_exit (then_exit (block_hit ?_)))
  refine then_go ?_
  refine wc_seq ?_
  refine wc_seq ?_
  have hjl : j = d.wt.length := by omega
  subst hjl
  rw [dumpK_all] at st
  have hD : (dump d).length = 64 * n := by rw [← dumpK_all]; exact length_dumpK ok _ (Nat.le_refl _)
  refine wc_region ?_
  refine wl_val (v_move' (by conv => (lhs; whnf))) rfl ?_
  refine wl_val (v_len_s Try.underlying64 rfl) rfl ?_
  refine wl_val (v_move' (by conv => (lhs; whnf))) rfl ?_
  refine wl_nil ?_
  refine then_go ?_
  refine wc_block ?_
  refine wc_loop (S := Nat) (fun k r w' => ∃ j v, k + j = n ∧ r 3 = v ∧ r 37 = .slice (some ⟨g, 0, none⟩) n cap ∧ r 38 = .int .i64 n ∧ r 39 = .int .i64 j ∧
   St m m [] wI w' [blk g (bs (dump d) ++ sp).toArray 105, rowE v 5 1 (64 * j) (bs ((dump d).take (64 * j)))]) id n ⟨0, _, rfl, rfl, rfl, rfl, rfl, by rw [show bs ((dump d).take (64 * 0)) = [] by simp [bs]]; exact st⟩ ?_
  rintro k r w2 ⟨j, v, hkj, h3, h37, h38, h39, st⟩
  refine wc_o 3 h3 (wc_o 37 h37 (wc_o 38 h38 (wc_o 39 h39 ?_)))
  refine wc_seq ?_
  refine wc_region ?_
  refine wl_val (v_lss rfl rfl) rfl ?_
  refine wl_nil ?_
  refine then_go ?_
  refine wc_seq ?_
  refine wc_if rfl (fun h40 => ?_) (fun h40 => ?_)
  ·refine wc_skip ?_
   refine then_go ?_
   refine wc_seq ?_
   refine wc_block ?_
   refine wc_seq ?_
   have hj : j < n := by omega
   have hsec : (sec (dump d) j).length = 64 := by simp [sec, hD]; omega
   refine wc_region ?_
   refine wl_val (v_ias j Try.underlying64 TF.t105 rfl rfl (by first | rfl | omega) (by first | omega | (dsimp only at *; omega))) rfl ?_
   refine wl_val (v_load rfl (st.reads 0 rfl TF.t105 (getV_seg (a := bs ((dump d).take (64 * j))) (b := bs (sec (dump d) j)) (c := bs ((dump d).drop (64 * j + 64)) ++ sp) (by rw [← List.append_assoc, ← bs_append, ← bs_append, secs_split]) (by simp [bs, hD]; omega) (by simp [bs, hsec])))) rfl ?_
   refine wl_alloc TF.z105 st rfl ?_
   intro b8 w st
   refine wl_storeW 0 st rfl TF.t105 rfl rfl (by simp [bs, hsec]) (by simp [Value.cells]) (fun u hu => one_bs _ u (by simpa using hu)) ?_
   intro w st
   refine wl_nil ?_
   refine then_go ?_
   refine wc_region ?_
   refine wl_val (v_move' (by conv => (lhs; whnf))) rfl ?_
   refine wl_val (v_slice_a (l := 0) (h := 64) Try.underlying105 TF.t5 rfl rfl rfl (by omega) (by omega)) rfl ?_
   refine wl_append 2 st rfl Try.underlying31 Try.underlying31 (.inr ⟨_, rfl⟩) TF.t5 TF.z5 (by simp [Value.cells]) rfl rfl (st.srcArr (off := 0) (news := bs (sec (dump d) j)) 0 rfl (by simp [bs, hsec]) (fun q u hq => by simpa using hq) (one_bs _)) (by omega) (by omega) rfl ?_
   intro ov w _ st
   have e : bs ((dump d).take (64 * j)) ++ bs (sec (dump d) j) = bs ((dump d).take (64 * (j + 1))) := by
    rw [← bs_append]
    congr 1
    unfold sec
    rw [show 64 * (j + 1) = 64 * j + 64 by omega, List.take_add]
   rw [e] at st
   have st := st.drop 0
   refine wl_val (v_assign' (by conv => (lhs; whnf))) rfl ?_
   refine wl_nil ?_
   refine block_go (then_go ?_)
   refine wc_region ?_
   refine wl_val (v_add' rfl rfl rfl (by first | omega | (dsimp only at *; omega)) (by first | omega | (dsimp only at *; omega))) rfl ?_
   refine wl_val (v_move' (by conv => (lhs; whnf))) rfl ?_
   refine wl_nil ?_
   refine then_go ?_
   exact ⟨k - 1, by simp; omega, j + 1, ov, by omega, rfl, rfl, rfl, rfl, st⟩
  ·refine wc_exit (then_exit (then_exit (block_hit ?_)))
   refine then_go ?_
   refine wc_seq ?_
   refine wc_region ?_
   refine wl_val (v_move' (by conv => (lhs; whnf))) rfl ?_
   refine wl_val (v_assign' (by conv => (lhs; whnf))) rfl ?_
   refine wl_nil ?_
   refine then_go ?_
   refine wc_ret ?_
   have hjn : j = n := by omega
   obtain ⟨m1, h1, h2, h3'⟩ := st.freshR (i := 1) rfl
   refine ret1 (v := v) rfl ⟨st.touch, m1, h1, h2, ?_⟩
   rw [hjn] at h3'
   rw [List.take_of_length_le (by omega)] at h3'
   rw [hD]
   exact h3'
end
end Go.Proofs.Ytladpaehbolghaa

namespace Go.Proofs.Ytladpaehbolghaa
open Go Go.RowKit K DK
section
variable {m : Mem}
def NewDisk (w w' : World) (v : Value) (n : Nat) (d : DS) : Prop := ∃ b s wv, v = .pointer (some ⟨b, 0, none⟩) ∧ Tch w w' [] (diskO b s n wv d).foot ∧ (diskO b s n wv d).holds w'
theorem bs_zero (k : Nat) : List.replicate k (Value.int .u8 0) = bs (List.replicate k 0) := by simp [bs, u8]
theorem c_new {wI : World} (i : Int) (him : Im m wI) :
  Ret Try.prog 13 #[.int .i64 i] wI fun v w' =>
   if i < 1 ∨ i > 16384 then Tch wI w' [] [] ∧ v = .tuple #[.pointer none, .int .i64 2]
   else ∃ p, NewDisk wI w' p i.toNat (newD i.toNat) ∧ v = .tuple #[p, .int .i64 0] := by
 have st := St.start him
 refine ret_of Try.call13 Try.func13 rfl Try.ntmps13 Try.results13 rfl ?_
 refine wc_seq ?_
 refine wc_region ?_
 refine wl_val (v_assign' (by conv => (lhs; whnf))) rfl ?_
 refine wl_val (v_assign' (by conv => (lhs; whnf))) rfl ?_
 refine wl_nil ?_
 refine then_go ?_
 refine wc_seq ?_
 refine wc_seq ?_
 refine wc_region ?_
 refine wl_val (v_move' (by conv => (lhs; whnf))) rfl ?_
 refine wl_val (v_lss rfl rfl) rfl ?_
 refine wl_val (v_move' (by conv => (lhs; whnf))) rfl ?_
 by_cases hg2 : i < 1
 ·rw [show decide (i < 1) = true from decide_eq_true hg2]
  refine wl_off rfl rfl rfl rfl ?_
  refine wl_off rfl rfl rfl rfl ?_
  refine wl_val (v_pick rfl) rfl ?_
  refine wl_nil ?_
  refine then_go ?_
  refine wc_true rfl ?_
  refine wc_seq ?_
  refine wc_region ?_
  refine wl_val (v_assign' (by conv => (lhs; whnf))) rfl ?_
  refine wl_val (v_assign' (by conv => (lhs; whnf))) rfl ?_
  refine wl_nil ?_
  refine then_go ?_
  refine wc_ret (then_ret ?_)
  refine ret2 (v := .pointer none) (v' := .int .i64 2) rfl rfl ?_
  rw [if_pos (.inl hg2)]
  exact ⟨st.touch, rfl⟩
 ·rw [show decide (i < 1) = false from decide_eq_false hg2]
  refine wl_on rfl rfl ?_
  refine wl_val (v_move' (by conv => (lhs; whnf))) rfl ?_
  refine wl_on rfl rfl ?_
  refine wl_val (v_gtr rfl rfl) rfl ?_
  refine wl_val (v_pick rfl) rfl ?_
  refine wl_nil ?_
  refine then_go ?_
  refine wc_if rfl (fun h9 => ?_) (fun h9 => ?_)
  ·refine wc_seq ?_
   refine wc_region ?_
   refine wl_val (v_assign' (by conv => (lhs; whnf))) rfl ?_
   refine wl_val (v_assign' (by conv => (lhs; whnf))) rfl ?_
   refine wl_nil ?_
   refine then_go ?_
   refine wc_ret (then_ret ?_)
   refine ret2 (v := .pointer none) (v' := .int .i64 2) rfl rfl ?_
   rw [if_pos (.inr h9)]
   exact ⟨st.touch, rfl⟩
  ·refine wc_skip ?_
   refine then_go ?_
   refine wc_seq ?_
   obtain ⟨n, rfl⟩ : ∃ n : Nat, i = n := ⟨i.toNat, by omega⟩
   refine wc_region ?_
   refine wl_val (v_move' (by conv => (lhs; whnf))) rfl ?_
   refine wl_make (l := n) (c := n) Try.underlying64 TF.t105 TF.z105 rfl rfl rfl rfl (by omega) (by omega) (by omega) (by omega) st rfl ?_
   intro s w st
   have e : madeCells (Value.agg (Array.replicate 64 (Value.int .u8 0))).cells (n * 64) = (bs (List.replicate (64 * n) 0)).toArray := by
    rw [show (Value.agg (Array.replicate 64 (Value.int .u8 0))).cells = Array.replicate (63 + 1) (Value.int .u8 0) from rfl, madeCells_rep, bs_zero, Nat.mul_comm]
   rw [e] at st
   refine wl_val (v_build (c' := #[.slice (some ⟨s, 0, none⟩) n n, .slice none 0 0, .int .i64 (-1), .bool false]) [(0, .slice (some ⟨s, 0, none⟩) n n), (2, .int .i64 (-1))] TF.z67 TF.p67 rfl (fill_one [] [.slice none 0 0] [.slice none 0 0, .int .i64 0, .bool false] rfl rfl rfl (fill_one [.slice (some ⟨s, 0, none⟩) n n, .slice none 0 0] [.int .i64 0] [.bool false] rfl rfl rfl rfl))) rfl ?_
   refine wl_box (v := .agg #[.slice (some ⟨s, 0, none⟩) n n, .slice none 0 0, .int .i64 (-1), .bool false]) rfl st rfl ?_
   intro b w st
   have st := st.new (E := rowE (.slice none 0 0) 107 65 0 []) ⟨rfl, rfl, rfl, Nat.le_refl _, fun _ _ _ => rfl, by simp [rowE, Value.ownBlock]⟩ ⟨by simp, .inl ⟨rfl, rfl⟩⟩
   have st := st.perm (l := diskL b s n (.slice none 0 0) (newD n)) ((List.Perm.swap _ _ _).trans (List.Perm.cons _ (List.Perm.swap _ _ _)))
   refine wl_val (v_assign' (by conv => (lhs; whnf))) rfl ?_
   refine wl_val (v_assign' (by conv => (lhs; whnf))) rfl ?_
   refine wl_nil ?_
   refine then_go ?_
   refine wc_ret ?_
   refine ret2 (v := .pointer (some ⟨b, 0, none⟩)) (v' := .int .i64 0) rfl rfl ?_
   rw [if_neg (by omega)]
   exact ⟨_, ⟨b, s, _, rfl, (St.finish (Es := []) st).1, (St.finish (Es := []) st).2⟩, rfl⟩
end
end Go.Proofs.Ytladpaehbolghaa

namespace Go.Proofs.Ytladpaehbolghaa
open Go Go.RowKit K SH DK JR
def logB (g b : Nat) (s : LG) (lv : Value) : Ent := K.blk g #[.pointer (some ⟨b, 0, none⟩), .int .i64 s.half, u64 s.gen, .int .i64 s.fin, lv] 75
section
variable {m0 m : Mem} {F : List Nat} {w0 w : World} {Es : List Ent}
theorem disk_callI {f : FuncId} {args : List Value} {R : Value → DS → Prop} {b s n : Nat} {wv : Value} {d : DS} (i : Nat) (st : St m0 m F w0 w Es) (hi : Es[i]? = some (diskO b s n wv d)) (h : DiskCall f args b s n wv d w R) :
  Ret Try.prog f (.pointer (some ⟨b, 0, none⟩) :: args).toArray w fun v w' => ∃ wv' d', St m0 m F w0 w' (Es.set i (diskO b s n wv' d')) ∧ R v d' :=
 h.mono fun _ _ ⟨wv', d', t, hE, hR⟩ => ⟨wv', d', st.step i hi t hE, hR⟩
theorem disk_at {b s n : Nat} {wv : Value} {d : DS} (i : Nat) (st : St m0 m F w0 w Es) (hi : Es[i]? = some (diskO b s n wv d)) (ok : d.ok n) : diskM (heapM w) b n d := by
 have h := (st.at hi).1
 exact ⟨ok, ⟨s, wv, h (K.blk b _ _) (List.mem_cons_self), h (K.blk s _ _) (List.mem_cons_of_mem _ List.mem_cons_self), row_SlM (h (rowE wv 107 65 d.wt.length (wtCells d.wt)) (by simp [diskL])) fun _ _ _ h => h⟩, row_few (h (rowE wv 107 65 d.wt.length (wtCells d.wt)) (by simp [diskL]))⟩
theorem c_lsize {g b s n : Nat} {sl : LG} {lv wv : Value} {d : DS} (st : St m0 m F w0 w (logB g b sl lv :: diskO b s n wv d :: Es)) (ok : d.ok n) :
  Ret Try.prog 29 #[.pointer (some ⟨g, 0, none⟩)] w fun v w' => Tch w w' [] [] ∧ v = .int .i64 ((n / 2 * 64 : Nat) : Int) := by
 have hn := ok.le
 refine ret_of Try.call29 Try.func29 rfl Try.ntmps29 Try.results29 rfl ?_
 refine wc_seq ?_
 refine wc_region ?_
 refine wl_val (v_assign' (by conv => (lhs; whnf))) rfl ?_
 refine wl_nil ?_
 refine then_go ?_
 refine wc_seq ?_
 refine wc_region ?_
 refine wl_val (v_move' (by conv => (lhs; whnf))) rfl ?_
 refine wl_val (v_nil rfl) rfl ?_
 refine wl_val (v_fa TF.f75_0 rfl) rfl ?_
 refine wl_val (v_load rfl (st.reads (v := .pointer (some ⟨b, 0, none⟩)) 0 rfl TF.t23 rfl)) rfl ?_
 refine wl_call rfl (c_size (im_heapM _) (disk_at 1 st rfl ok)) rfl ?_
 rintro v7 w ⟨rfl, rfl⟩
 refine wl_val (v_to (v' := .int .i64 ((n / 2 : Nat) : Int)) (v_quo' rfl rfl (by omega) (by omega) rfl (by omega)) (by rw [Int.natCast_ediv]; rfl)) rfl ?_
 refine wl_val (v_mul' (c := ((n / 2 * 64 : Nat) : Int)) rfl rfl (by omega) (by omega) (by omega)) rfl ?_
 refine wl_val (v_assign' (by conv => (lhs; whnf))) rfl ?_
 refine wl_nil ?_
 refine then_go ?_
 refine wc_ret ?_
 exact ret1 rfl ⟨Tch.refl _ _, rfl⟩
theorem c_put {g b s n hf at' : Nat} {sl : LG} {lv wv bv : Value} {d : DS} {x : By} (st : St m0 m F w0 w (logB g b sl lv :: diskO b s n wv d :: Es)) (hr : Rdy n d 100000) (hx : SlM m bv 1 x.length (bs x)) (hx64 : x.length % 64 = 0) (hxl : x.length ≤ 1048576) (hhf : hf ≤ 1) (hat : at' ≤ 1048576) :
  Ret Try.prog 30 #[.pointer (some ⟨g, 0, none⟩), .int .i64 hf, .int .i64 at', bv] w fun v w' => ∃ wv', St m0 m F w0 w' (logB g b sl lv :: diskO b s n wv' (putD n d ((hf * (n / 2 * 64) + at') / 64) x).1 :: Es) ∧ v = .int .i64 (putD n d ((hf * (n / 2 * 64) + at') / 64) x).2 := by
 obtain ⟨ba, bc, rfl, hbc⟩ := hx.opn
 have hn := hr.ok.le
 have hhl : hf * (n / 2 * 64) ≤ n / 2 * 64 := by rcases Nat.le_one_iff_eq_zero_or_eq_one.1 hhf with h | h <;> rw [h] <;> omega
 obtain ⟨fst, hfst⟩ : ∃ fst, fst = (hf * (n / 2 * 64) + at') / 64 := ⟨_, rfl⟩
 rw [← hfst]
 have hcl := chunk_len (b := x)
 refine ret_of Try.call30 Try.func30 rfl Try.ntmps30 Try.results30 rfl ?_
 refine wc_seq ?_
 refine wc_region ?_
 refine wl_val (v_assign' (by conv => (lhs; whnf))) rfl ?_
 refine wl_nil ?_
 refine then_go ?_
 refine wc_seq ?_
 refine wc_region ?_
 refine wl_val (v_move' (by conv => (lhs; whnf))) rfl ?_
 refine wl_val (v_move' (by conv => (lhs; whnf))) rfl ?_
 refine wl_call rfl (c_lsize st hr.ok) rfl ?_
 rintro v15 w ⟨t15, rfl⟩
 have st := st.pure t15
 refine wl_val (v_mul' (c := ((hf * (n / 2 * 64) : Nat) : Int)) rfl rfl (Int.natCast_mul _ _).symm (by omega) (by omega)) rfl ?_
 refine wl_val (v_move' (by conv => (lhs; whnf))) rfl ?_
 refine wl_val (v_add' (c := ((hf * (n / 2 * 64) + at' : Nat) : Int)) rfl rfl (by omega) (by omega) (by omega)) rfl ?_
 refine wl_val (v_to (v' := .int .i64 (fst : Int)) (v_quo' rfl rfl (by omega) (by omega) rfl (by omega)) (by rw [hfst, Int.natCast_ediv]; rfl)) rfl ?_
 refine wl_val (v_assign' (by conv => (lhs; whnf))) rfl ?_
 refine wl_nil ?_
 refine then_go ?_
 refine wc_seq ?_
 refine wc_region ?_
 refine wl_val (v_move' (by conv => (lhs; whnf))) rfl ?_
 refine wl_val (v_nil rfl) rfl ?_
 refine wl_val (v_fa TF.f75_0 rfl) rfl ?_
 refine wl_val (v_load rfl (st.reads (v := .pointer (some ⟨b, 0, none⟩)) 0 rfl TF.t23 rfl)) rfl ?_
 refine wl_val (v_mkfunc rfl rfl) rfl ?_
 refine wl_val (v_assign' (by conv => (lhs; whnf))) rfl ?_
 refine wl_nil ?_
 refine then_go ?_
 refine wc_seq ?_
 refine wc_seq ?_
 refine wc_region ?_
 refine wl_val (v_assign' (by conv => (lhs; whnf))) rfl ?_
 refine wl_nil ?_
 refine then_go ?_
 refine wc_block ?_
 refine wc_loop (S := Nat) (fun q r w' => ∃ (j : Nat) (wv : Value) (dj : DS), q + j = (chunk x).length ∧ r 0 = .pointer (some ⟨g, 0, none⟩) ∧ r 3 = .slice ba x.length bc ∧ r 9 = .int .i64 fst ∧ r 10 = .func (.func 52) #[.pointer (some ⟨b, 0, none⟩)] #[] ∧ r 11 = .int .i64 ((64 * j : Nat) : Int) ∧ putD n d fst x = writesD n dj (fst + j) ((chunk x).drop j) ∧ Rdy n dj (100000 + j) ∧ St m0 m F w0 w' (logB g b sl lv :: diskO b s n wv dj :: Es)) id (chunk x).length ⟨0, wv, d, by omega, rfl, rfl, rfl, rfl, rfl, rfl, hr, st⟩ ?_
 clear st
 rintro q r w2 ⟨j, wv, dj, hqj, g0, g3, g9, g10, g11, hput, hr, st⟩
 refine wc_o 0 g0 (wc_o 3 g3 (wc_o 9 g9 (wc_o 10 g10 (wc_o 11 g11 ?_))))
 refine wc_seq ?_
 refine wc_seq ?_
 refine wc_region ?_
 refine wl_val (v_move' (by conv => (lhs; whnf))) rfl ?_
 refine wl_val (v_move' (by conv => (lhs; whnf))) rfl ?_
 refine wl_val (v_len_s Try.underlying31 rfl) rfl ?_
 refine wl_val (v_lss rfl rfl) rfl ?_
 refine wl_nil ?_
 refine then_go ?_
 refine wc_if rfl (fun h28 => ?_) (fun h28 => ?_)
 ·refine wc_skip ?_
  refine then_go ?_
  refine wc_seq ?_
  refine wc_block ?_
  refine wc_seq ?_
  have hj : j < (chunk x).length := by omega
  have hjx := hx.partB (64 * j) (64 * j + 64) (by omega) (by omega)
  have hce : (x.drop (64 * j)).take (64 * j + 64 - 64 * j) = (chunk x)[j] := by rw [chunk_at hj]; congr 1; omega
  rw [hce] at hjx
  have hc64 := chunk_64 _ (List.getElem_mem hj)
  rw [List.drop_eq_getElem_cons hj, writesD] at hput
  have hwr : Rdy n (writeD dj n ((fst + j : Nat) : Int) (chunk x)[j]).1 (100000 + (j + 1)) := ⟨ok_write hr.ok, fz_write hr.fz, Nat.le_trans wt_write (by have := hr.few; omega)⟩
  refine wc_region ?_
  refine wl_val (v_move' (by conv => (lhs; whnf))) rfl ?_
  refine wl_val (v_move' (by conv => (lhs; whnf))) rfl ?_
  refine wl_val (v_move' (by conv => (lhs; whnf))) rfl ?_
  refine wl_val (v_to (v' := .int .i64 (j : Int)) (v_quo' rfl rfl (by omega) (by omega) rfl (by omega)) (by congr 1; omega)) rfl ?_
  refine wl_val (v_add' (c := ((fst + j : Nat) : Int)) rfl rfl (by omega) (by omega) (by omega)) rfl ?_
  refine wl_val (v_move' (by conv => (lhs; whnf))) rfl ?_
  refine wl_val (v_move' (by conv => (lhs; whnf))) rfl ?_
  refine wl_val (v_move' (by conv => (lhs; whnf))) rfl ?_
  refine wl_val (v_add' (c := ((64 * j + 64 : Nat) : Int)) rfl rfl (by omega) (by omega) (by omega)) rfl ?_
  refine wl_val (v_sls (64 * j) (64 * j + 64) Try.underlying31 TF.t5 rfl ⟨_, _, rfl, rfl⟩ ⟨_, _, rfl, rfl⟩ (by omega) (by omega)) rfl ?_
  refine wl_callv rfl rfl (disk_callI 1 st rfl (c_write ((fst + j : Nat) : Int) st.im (st.at (i := 1) rfl) (st.none (i := 1) rfl) hr.ok hr.fz (by have := hr.few; omega) hjx)) rfl ?_
  rintro v41 w ⟨wv2, d2, st, rfl, rfl⟩
  refine wl_val (v_assign' (by conv => (lhs; whnf))) rfl ?_
  refine wl_nil ?_
  refine then_go ?_
  refine wc_seq ?_
  refine wc_region ?_
  refine wl_val (v_move' (by conv => (lhs; whnf))) rfl ?_
  refine wl_val (v_neq rfl rfl) rfl ?_
  refine wl_nil ?_
  refine then_go ?_
  refine wc_cond rfl (fun h43 => ?_) (fun h43 => ?_)
  ·refine wc_seq ?_
   refine wc_region ?_
   refine wl_val (v_move' (by conv => (lhs; whnf))) rfl ?_
   refine wl_val (v_assign' (by conv => (lhs; whnf))) rfl ?_
   refine wl_nil ?_
   refine then_go ?_
   refine wc_ret (block_ret (then_ret (then_ret (block_ret (then_ret ?_)))))
   have hz : (writeD dj n ((fst + j : Nat) : Int) (chunk x)[j]).2 ≠ 0 := of_decide_eq_true h43
   rw [if_pos hz] at hput
   exact ret1 rfl ⟨wv2, by rw [hput]; exact st, by rw [hput]; rfl⟩
  ·refine wc_skip ?_
   refine block_go (then_go ?_)
   refine wc_region ?_
   refine wl_val (v_move' (by conv => (lhs; whnf))) rfl ?_
   refine wl_val (v_add' (c := ((64 * (j + 1) : Nat) : Int)) rfl rfl (by omega) (by omega) (by omega)) rfl ?_
   refine wl_val (v_assign' (by conv => (lhs; whnf))) rfl ?_
   refine wl_nil ?_
   refine then_go ?_
   have hz : ¬ (writeD dj n ((fst + j : Nat) : Int) (chunk x)[j]).2 ≠ 0 := of_decide_eq_false h43
   rw [if_neg hz] at hput
   exact ⟨q - 1, by simp; omega, j + 1, wv2, _, by omega, rfl, rfl, rfl, rfl, rfl, hput, hwr, st⟩
 ·refine wc_exit (then_exit (then_exit (block_hit ?_)))
  refine then_go ?_
  refine wc_seq ?_
  refine wc_region ?_
  refine wl_val (v_move' (by conv => (lhs; whnf))) rfl ?_
  refine wl_val (v_nil rfl) rfl ?_
  refine wl_val (v_fa TF.f75_0 rfl) rfl ?_
  refine wl_val (v_load rfl (st.reads (v := .pointer (some ⟨b, 0, none⟩)) 0 rfl TF.t23 rfl)) rfl ?_
  have hjc : (chunk x).length ≤ j := by omega
  rw [List.drop_eq_nil_of_le hjc, writesD] at hput
  refine wl_call rfl (disk_callI 1 st rfl (c_sync st.im (st.at (i := 1) rfl) (st.none (i := 1) rfl) hr.ok hr.fz (by have := hr.few; omega))) rfl ?_
  rintro v49 w ⟨wv3, d3, st, rfl, rfl⟩
  refine wl_val (v_assign' (by conv => (lhs; whnf))) rfl ?_
  refine wl_nil ?_
  refine then_go ?_
  refine wc_ret ?_
  exact ret1 rfl ⟨wv3, by rw [hput]; exact st, by rw [hput]; rfl⟩
end
end Go.Proofs.Ytladpaehbolghaa

namespace Go.Proofs.Ytladpaehbolghaa
open Go Go.RowKit K SH DK JR
theorem JR.Rdy.mono {n k k' : Nat} {d : DS} (h : Rdy n d k) (hk : k ≤ k') : Rdy n d k' := ⟨h.ok, h.fz, Nat.le_trans h.few hk⟩
theorem rdy_done {n : Nat} {d : DS} {i k : Nat} {b : By} (h : Rdy n d k) (h0 : (putD n d i b).2 = 0) : Rdy n (putD n d i b).1 0 := by
 have := rdy_put (i := i) (b := b) h
 exact ⟨this.1.ok, this.1.fz, by rw [this.2 h0]; exact Nat.le_refl _⟩
theorem fst0 {hf n : Nat} (h : hf ≤ 1) : (hf * (n / 2 * 64) + 0) / 64 = hf * (n / 2) := by rcases Nat.le_one_iff_eq_zero_or_eq_one.1 h with h | h <;> rw [h] <;> omega
theorem fst1 {hf n : Nat} (h : hf ≤ 1) : (hf * (n / 2 * 64) + 64) / 64 = hf * (n / 2) + 1 := by rcases Nat.le_one_iff_eq_zero_or_eq_one.1 h with h | h <;> rw [h] <;> omega
theorem madeZ (n : Nat) : madeCells (Value.int .u8 0).cells (n * 1) = (bs (List.replicate n 0)).toArray := by
 rw [show (Value.int .u8 0).cells = Array.replicate (0 + 1) (Value.int .u8 0) from rfl, madeCells_rep, Nat.mul_one]
 simp [bs, u8]
section
variable {m0 m : Mem} {F : List Nat} {w0 w : World} {Es : List Ent}
theorem c_bcloneR {v : Value} {l : By} (st : St m0 m F w0 w Es) (hv : SlM m v 1 l.length (bs l)) (hL : l.length ≤ 1099511627776) :
  Ret Try.prog 21 #[v] w fun v' w' => St m0 m F w0 w' (byE v' l :: Es) := by
 obtain ⟨_, a, cap, rfl, _⟩ := id hv
 refine ret_of Try.call21 Try.func21 rfl Try.ntmps21 Try.results21 rfl ?_
 refine wc_seq ?_
 refine wc_region ?_
 refine wl_val (v_assign' (by conv => (lhs; whnf))) rfl ?_
 refine wl_nil ?_
 refine then_go ?_
 refine wc_seq ?_
 refine wc_seq ?_
 refine wc_region ?_
 refine wl_val (v_move' (by conv => (lhs; whnf))) rfl ?_
 refine wl_val (v_eq_nilS Try.underlying31 rfl rfl) rfl ?_
 refine wl_nil ?_
 refine then_go ?_
 refine wc_cond rfl (fun h4 => ?_) (fun h4 => ?_)
 ·refine wc_seq ?_
  refine wc_region ?_
  refine wl_val (v_assign' (by conv => (lhs; whnf))) rfl ?_
  refine wl_nil ?_
  refine then_go ?_
  refine wc_ret (then_ret ?_)
  have hL0 : l = [] := by
   obtain ⟨_, a', c', he, hk, hn, _⟩ := hv
   cases he
   have := hn (by simpa using h4)
   exact List.eq_nil_of_length_eq_zero (by omega)
  subst hL0
  exact ret1 rfl (nilRow st 5 1)
 ·refine wc_skip ?_
  refine then_go ?_
  refine wc_seq ?_
  refine wc_region ?_
  refine wl_buildSlice0 (size := 1) Try.underlying31 TF.t5 st rfl ?_
  intro v5 w st
  have st : St m0 m F w0 w (byE v5 [] :: Es) := st
  refine wl_val (v_move' (by conv => (lhs; whnf))) rfl ?_
  refine wl_appB (l2 := l) st Try.underlying31 Try.underlying31 (.inr ⟨_, rfl⟩) TF.t5 TF.z5 rfl rfl (hv.src st.im (one_bs _)) (by simp; omega) (by simp; omega) rfl ?_
  intro v7 w st hv7
  refine wl_val (v_assign' (by conv => (lhs; whnf))) rfl ?_
  refine wl_nil ?_
  refine then_go ?_
  refine wc_ret ?_
  exact ret1 rfl st
theorem c_bcloneA {v : Value} {l : By} (him : Im m w) (hv : SlM m v 1 l.length (bs l)) (hL : l.length ≤ 1099511627776) :
  Ret Try.prog 21 #[v] w fun v' w' => Out m w w' fun m' => SlM m' v' 1 l.length (bs l) ∧ Apart m m' v' l := by
 refine (c_bcloneR (St.start him) hv hL).mono fun v' w' st => ?_
 obtain ⟨m1, hg1, hm1, st1⟩ := st.freezeR (i := 0) rfl (by simp)
 have hown := st.own (byE v' l) (by simp)
 have hs := row_SlM (m := fun k => if m k = none then m1 k else none) (st.at (i := 0) rfl) (fun k o hk ho => by
  have h1 := (hown k (by rw [← Option.mem_toList] at *; simp [rowE, ← hk])).1
  simp [h1, hm1 k o hk ho])
 exact st1.out ⟨row_SlM (m := m1) (st.at (i := 0) rfl) hm1, _, fun k o hk => by
  by_cases h : m k = none
  ·simp [h] at hk; exact ⟨hk, h⟩
  ·simp [h] at hk, hs⟩
theorem c_jall {gen : UInt64} {nv : Value} {N : List (By × Value)} (st : St m0 m F w0 w Es) (hN : PcsM m nv N) (hNl : ∀ x ∈ N, x.1.length ≤ 1048576) (hNn : N.length ≤ 1048576) :
  Ret Try.prog 59 #[u64 gen, nv] w fun v w' => St m0 m F w0 w' (byE v (allB gen 0 (N.map (·.1))) :: Es) := by
 obtain ⟨na, nc, hlv⟩ : ∃ a c, nv = .slice a N.length c := by obtain ⟨⟨_, a, c, h, _⟩, _⟩ := hN; exact ⟨a, c, h⟩
 subst hlv
 refine ret_of Try.call59 Try.func59 rfl Try.ntmps59 Try.results59 rfl ?_
 refine wc_seq ?_
 refine wc_region ?_
 refine wl_val (v_assign' (by conv => (lhs; whnf))) rfl ?_
 refine wl_nil ?_
 refine then_go ?_
 refine wc_seq ?_
 refine wc_region ?_
 refine wl_val (v_assign' (by conv => (lhs; whnf))) rfl ?_
 refine wl_nil ?_
 refine then_go ?_
 refine wc_seq ?_
 refine wc_seq ?_
 refine wc_region ?_
 refine wl_val (v_move' (by conv => (lhs; whnf))) rfl ?_
 refine wl_val (v_len_s Try.underlying35 rfl) rfl ?_
 refine wl_val (v_move' (by conv => (lhs; whnf))) rfl ?_
 refine wl_nil ?_
 refine then_go ?_
 refine wc_block ?_
 have st := nilRow st 5 1
 have st : St m0 m F w0 w (byE (.slice none 0 0) [] :: Es) := st
 refine wc_loop (S := Nat) (fun q r w' => ∃ (i : Nat) (v : Value), q + i = N.length ∧ r 0 = u64 gen ∧ r 5 = v ∧ r 8 = .slice na N.length nc ∧ r 9 = .int .i64 N.length ∧ r 10 = .int .i64 i ∧ St m0 m F w0 w' (byE v (allB gen 0 ((N.take i).map (·.1))) :: Es)) id N.length ⟨0, _, by omega, rfl, rfl, rfl, rfl, rfl, st⟩ ?_
 clear st
 rintro q r w2 ⟨i, v, hqi, g0, g5, g8, g9, g10, st⟩
 refine wc_o 0 g0 (wc_o 5 g5 (wc_o 8 g8 (wc_o 9 g9 (wc_o 10 g10 ?_))))
 refine wc_seq ?_
 refine wc_region ?_
 refine wl_val (v_lss rfl rfl) rfl ?_
 refine wl_nil ?_
 refine then_go ?_
 refine wc_seq ?_
 refine wc_if rfl (fun h11 => ?_) (fun h11 => ?_)
 ·refine wc_skip ?_
  refine then_go ?_
  refine wc_seq ?_
  refine wc_block ?_
  refine wc_seq ?_
  have hi : i < N.length := by omega
  obtain ⟨nb, no, _, hnv, hsk, hrk⟩ := hN.elem hi
  cases hnv
  have hxl := hNl _ (List.getElem_mem hi)
  have hsz : sizeL ((N.take i).map (·.1)) ≤ 1048576 * 1048700 := by
   have key : ∀ M : List (By × Value), (∀ x ∈ M, x.1.length ≤ 1048576) → sizeL (M.map (·.1)) ≤ M.length * 1048700 := by
    intro M
    induction M with
    | nil => intro _; exact Nat.zero_le _
    | cons y M ih =>
     intro h
     have h1 := h y List.mem_cons_self
     have h2 := ih fun z hz => h z (List.mem_cons_of_mem _ hz)
     rw [List.map_cons, sizeL_cons, List.length_cons]
     unfold recL
     omega
   refine Nat.le_trans (key _ fun x hx => hNl x (List.mem_of_mem_take hx)) (Nat.mul_le_mul_right _ (by rw [List.length_take]; omega))
  refine wc_region ?_
  refine wl_val (v_move' (by conv => (lhs; whnf))) rfl ?_
  refine wl_val (v_ias i Try.underlying35 TF.t31 rfl rfl (by first | rfl | omega) (by first | omega | (dsimp only at *; omega))) rfl ?_
  refine wl_val (v_load rfl (hrk st.im)) rfl ?_
  refine wl_val (v_assign' (by conv => (lhs; whnf))) rfl ?_
  refine wl_val (v_assign' (by conv => (lhs; whnf))) rfl ?_
  refine wl_nil ?_
  refine then_go ?_
  refine wc_region ?_
  refine wl_val (v_move' (by conv => (lhs; whnf))) rfl ?_
  refine wl_val (v_move' (by conv => (lhs; whnf))) rfl ?_
  refine wl_val (v_move' (by conv => (lhs; whnf))) rfl ?_
  refine wl_val (v_convi_64 Try.underlying3 Try.underlying47 rfl) rfl ?_
  refine wl_val (v_move' (by conv => (lhs; whnf))) rfl ?_
  refine wl_call rfl (c_jrecord (s := UInt64.ofNat i) st hsk (by omega)) rfl ?_
  intro v20 w st
  refine wl_appBi (l2 := recB gen (UInt64.ofNat i) N[i].1) 1 st rfl Try.underlying31 Try.underlying31 (.inr ⟨_, rfl⟩) TF.t5 TF.z5 rfl rfl ((byE_SlM st 0 rfl).src (im_heapM _) (one_bs _)) (by rw [length_allB, length_recB]; unfold recL; omega) (by rw [length_allB, length_recB]; unfold recL; omega) rfl ?_
  intro v21 w st hv21
  have st : St m0 m F w0 w (byE v21 (allB gen 0 ((N.take (i + 1)).map (·.1))) :: Es) := by
   have e : allB gen 0 ((N.take (i + 1)).map (·.1)) = allB gen 0 ((N.take i).map (·.1)) ++ recB gen (UInt64.ofNat i) N[i].1 := by
    rw [List.take_succ_eq_append_getElem hi, List.map_append, List.map_singleton, allB_snoc, Nat.zero_add, List.length_map, List.length_take, Nat.min_eq_left (by omega)]
   rw [e]
   exact st.drop 0
  refine wl_val (v_assign' (by conv => (lhs; whnf))) rfl ?_
  refine wl_nil ?_
  refine block_go (then_go ?_)
  refine wc_region ?_
  refine wl_val (v_add' (c := ((i + 1 : Nat) : Int)) rfl rfl (by omega) (by omega) (by omega)) rfl ?_
  refine wl_val (v_move' (by conv => (lhs; whnf))) rfl ?_
  refine wl_nil ?_
  refine then_go ?_
  exact ⟨q - 1, by simp; omega, i + 1, v21, by omega, rfl, rfl, rfl, rfl, rfl, st⟩
 ·refine wc_exit (then_exit (then_exit (block_hit ?_)))
  refine then_go ?_
  refine wc_seq ?_
  refine wc_region ?_
  refine wl_val (v_move' (by conv => (lhs; whnf))) rfl ?_
  refine wl_val (v_assign' (by conv => (lhs; whnf))) rfl ?_
  refine wl_nil ?_
  refine then_go ?_
  refine wc_ret ?_
  have hiN : i = N.length := by omega
  subst hiN
  rw [List.take_length] at st
  exact ret1 rfl st
def OverOut (m0 m : Mem) (w0 w' : World) (Es : List Ent) (g b s n : Nat) (sl : LG) (lv : Value) (d : DS) (L : List By) (v : Value) : Prop :=
 ∃ m' wv', (∀ k o, m k = some o → m' k = some o) ∧ v = .int .i64 (overD n d sl L).2.2 ∧
  ((overD n d sl L).2.2 ≠ 0 → (overD n d sl L).2.1 = sl ∧ St m0 m' [] w0 w' (logB g b sl lv :: diskO b s n wv' (overD n d sl L).1 :: Es)) ∧
  ((overD n d sl L).2.2 = 0 → ∃ lv' N', Pcs m' N' ∧ (∀ y ∈ N', Apart m m' y.2 y.1) ∧ N'.map (·.1) = L ∧ St m0 m' [] w0 w' (logB g b (overD n d sl L).2.1 lv' :: lrE lv' N' :: diskO b s n wv' (overD n d sl L).1 :: Es))
theorem OverOut.bad {m0 m m' : Mem} {w0 w' : World} {Es : List Ent} {g b s n : Nat} {sl : LG} {lv wv' : Value} {d d' : DS} {e : Int} {L : List By} (ho : overD n d sl L = (d', sl, e)) (he : e ≠ 0) (hm : ∀ k o, m k = some o → m' k = some o) (st : St m0 m' [] w0 w' (logB g b sl lv :: diskO b s n wv' d' :: Es)) : OverOut m0 m w0 w' Es g b s n sl lv d L (.int .i64 e) := by
 unfold OverOut
 rw [ho]
 exact ⟨m', wv', hm, rfl, fun _ => ⟨rfl, st⟩, fun h => (he h).elim⟩
theorem c_over {g b s n : Nat} {sl : LG} {lv wv nv : Value} {d : DS} {N : List (By × Value)} (st : St m0 m [] w0 w (logB g b sl lv :: diskO b s n wv d :: Es)) (hr : Rdy n d 100000) (hn8 : 8 ≤ n) (hsl : sl.half ≤ 1) (hN : PcsM m nv N) (hNl : ∀ x ∈ N, x.1.length ≤ 1048576) (hNn : N.length ≤ 1048576) :
  Ret Try.prog 40 #[.pointer (some ⟨g, 0, none⟩), nv] w fun v w' => OverOut m0 m w0 w' Es g b s n sl lv d (N.map (·.1)) v := by
 obtain ⟨na, nc, hlv⟩ : ∃ a c, nv = .slice a N.length c := by obtain ⟨⟨_, a, c, h, _⟩, _⟩ := hN; exact ⟨a, c, h⟩
 subst hlv
 have hn := hr.ok.le
 obtain ⟨hf, hhf⟩ : ∃ hf, hf = 1 - sl.half := ⟨_, rfl⟩
 have hf1 : hf ≤ 1 := by omega
 have hfz : (1 : Int) - (sl.half : Int) = (hf : Int) := by omega
 obtain ⟨L, hL⟩ : ∃ L, L = N.map (·.1) := ⟨_, rfl⟩
 rw [← hL]
 have hmm0 : ∀ k o, m k = some o → m k = some o := fun _ _ h => h
 refine ret_of Try.call40 Try.func40 rfl Try.ntmps40 Try.results40 rfl ?_
 refine wc_seq ?_
 refine wc_region ?_
 refine wl_val (v_assign' (by conv => (lhs; whnf))) rfl ?_
 refine wl_nil ?_
 refine then_go ?_
 refine wc_seq ?_
 refine wc_draw TF.mixed ?_
 have st := st.pure (touch_drew _)
 refine fl_val 0 rfl (fun _ => (v_move' (by conv => (lhs; whnf)))) rfl (by kernel_rfl) ?_
 refine fl_val 1 rfl (fun _ => (v_nil rfl)) rfl (by kernel_rfl) ?_
 refine fl_val 2 rfl (fun _ => (v_fa TF.f75_1 rfl)) rfl (by kernel_rfl) ?_
 refine fl_ld 3 rfl (v_load rfl (st.reads (v := .int .i64 sl.half) 0 rfl TF.t3 rfl)) (by kernel_rfl) ?_
 refine fl_val 4 rfl (fun _ => (v_sub' (c := (hf : Int)) rfl rfl hfz (by omega) (by omega))) rfl (by kernel_rfl) ?_
 refine fl_val 5 rfl (fun _ => (v_move' (by conv => (lhs; whnf)))) rfl (by kernel_rfl) ?_
 refine fl_val 6 rfl (fun _ => (v_nil rfl)) rfl (by kernel_rfl) ?_
 refine fl_val 7 rfl (fun _ => (v_fa TF.f75_2 rfl)) rfl (by kernel_rfl) ?_
 refine fl_ld 8 rfl (v_load rfl (st.reads (v := u64 sl.gen) 0 rfl TF.t47 rfl)) (by kernel_rfl) ?_
 refine fl_val 9 rfl (fun _ => (v_add64 (q := 1) rfl rfl)) rfl (by kernel_rfl) ?_
 refine fl_val 10 rfl (fun _ => (v_move' (by conv => (lhs; whnf)))) rfl (by kernel_rfl) ?_
 refine fl_eff1 11 [7, 6, 5, 4, 2, 1, 0] [8, 3] (by kernel_rfl) ⟨obl_ld rfl rfl rfl (v_load rfl (st.reads (v := u64 sl.gen) 0 rfl TF.t47 rfl)), obl_ld rfl rfl rfl (v_load rfl (st.reads (v := .int .i64 sl.half) 0 rfl TF.t3 rfl)), trivial⟩ rfl ?_
 refine wl_call rfl (c_jall (gen := sl.gen + 1) st hN hNl hNn) rfl ?_
 intro v23 w st
 obtain ⟨B, hB⟩ : ∃ B, B = allB (sl.gen + 1) 0 L := ⟨_, rfl⟩
 have hBl : B.length = sizeL L := by rw [hB, length_allB]
 have st : St m0 m [] w0 w (byE v23 B :: logB g b sl lv :: diskO b s n wv d :: Es) := by rw [hB, hL]; exact st
 have st1 := st
 obtain ⟨m1, hg1, hm1, st⟩ := st.freezeR (i := 0) rfl (by simp)
 have hBm : SlM m1 v23 1 B.length (bs B) := row_SlM (m := m1) (st1.at (i := 0) rfl) hm1
 have st : St m0 m1 [] w0 w (logB g b sl lv :: diskO b s n wv d :: Es) := st
 have hmm1 := hg1.le
 have hN := hN.mono hmm1
 obtain ⟨Ba, Bc, hBv, _⟩ := hBm.opn
 subst hBv
 refine wl_nil ⟨rfl, ?_⟩
 refine fl_eff1 12 [7, 6, 5] [8] (by kernel_rfl) ⟨obl_ld rfl rfl rfl (v_load rfl (st.reads (v := u64 sl.gen) 0 rfl TF.t47 rfl)), obl_ld rfl rfl rfl (v_load rfl (st.reads (v := .int .i64 sl.half) 0 rfl TF.t3 rfl)), trivial⟩ rfl ?_
 refine wl_val (v_assign' (by conv => (lhs; whnf))) rfl ?_
 refine wl_nil ⟨rfl, ?_⟩
 refine fl_eff1 13 [] [] (by kernel_rfl) ⟨obl_ld rfl rfl rfl (v_load rfl (st.reads (v := u64 sl.gen) 0 rfl TF.t47 rfl)), trivial⟩ rfl ?_
 refine wl_val (v_assign' (by conv => (lhs; whnf))) rfl ?_
 refine wl_nil ⟨rfl, ?_⟩
 refine fl_nil (by kernel_rfl) trivial ?_
 refine then_go ?_
 refine wc_seq ?_
 refine wc_seq ?_
 refine wc_region ?_
 refine wl_val (v_move' (by conv => (lhs; whnf))) rfl ?_
 refine wl_val (v_len_s Try.underlying31 rfl) rfl ?_
 refine wl_val (v_move' (by conv => (lhs; whnf))) rfl ?_
 refine wl_call rfl (c_lsize st hr.ok) rfl ?_
 rintro v27 w ⟨t27, rfl⟩
 have st := st.pure t27
 refine wl_val (v_sub' (c := ((n / 2 * 64 - 64 : Nat) : Int)) rfl rfl (by omega) (by omega) (by omega)) rfl ?_
 refine wl_val (v_gtr rfl rfl) rfl ?_
 refine wl_nil ?_
 refine then_go ?_
 refine wc_if rfl (fun h29 => ?_) (fun h29 => ?_)
 ·refine wc_seq ?_
  refine wc_region ?_
  refine wl_val (v_assign' (by conv => (lhs; whnf))) rfl ?_
  refine wl_nil ?_
  refine then_go ?_
  refine wc_ret (then_ret ?_)
  exact ret1 rfl (OverOut.bad (e := 13) (by unfold overD; rw [if_pos (by omega)]) (by decide) hmm1 st)
 ·refine wc_skip ?_
  refine then_go ?_
  refine wc_seq ?_
  refine wc_seq ?_
  refine wc_region ?_
  refine wl_val (v_move' (by conv => (lhs; whnf))) rfl ?_
  refine wl_val (v_move' (by conv => (lhs; whnf))) rfl ?_
  refine wl_val (v_move' (by conv => (lhs; whnf))) rfl ?_
  have hfit : ¬ n / 2 * 64 - 64 < sizeL L := by omega
  refine wl_call rfl (c_lsize st hr.ok) rfl ?_
  rintro v33 w ⟨t33, rfl⟩
  have st := st.pure t33
  refine wl_make (l := n / 2 * 64) (c := n / 2 * 64) Try.underlying31 TF.t5 TF.z5 rfl rfl rfl rfl (by omega) (by omega) (by omega) (by omega) st rfl ?_
  intro b34 w st
  rw [madeZ] at st
  obtain ⟨m2, hg2, hm2, st⟩ := st.freeze (i := 0) rfl (by simp)
  have st : St m0 m2 [] w0 w (logB g b sl lv :: diskO b s n wv d :: Es) := st
  obtain ⟨Z, hZ⟩ : ∃ Z : By, Z = List.replicate (n / 2 * 64) 0 := ⟨_, rfl⟩
  have hZl : Z.length = n / 2 * 64 := by rw [hZ, List.length_replicate]
  rw [← hZ] at hm2
  have hZm : SlM m2 (.slice (some ⟨b34, 0, none⟩) (n / 2 * 64) (n / 2 * 64)) 1 Z.length (bs Z) := by
   have := SlM.ofBlock (o := 0) (cap := Z.length) (l := Z) (pre := []) (post := []) hm2 (by simp) rfl (Nat.le_refl _)
   rw [hZl] at this ⊢
   exact this
  have hBm := hBm.mono hg2.le
  have hN := hN.mono hg2.le
  have hmm2 : ∀ k o, m k = some o → m2 k = some o := fun k o h => hg2.le k o (hmm1 k o h)
  refine wl_call rfl (c_put (hf := hf) (at' := 0) st hr hZm (by omega) (by omega) hf1 (by omega)) rfl ?_
  rintro v35 w ⟨wv1, st, rfl⟩
  rw [fst0 hf1] at st ⊢
  have hr1 := rdy_done (i := hf * (n / 2)) (b := Z) hr
  have hd1 : (putD n d ((1 - sl.half) * (n / 2)) (List.replicate (n / 2 * 64) 0)) = putD n d (hf * (n / 2)) Z := by rw [hhf, hZ]
  obtain ⟨P1, hP1⟩ : ∃ P1, P1 = putD n d (hf * (n / 2)) Z := ⟨_, rfl⟩
  rw [← hP1] at st hr1 hd1 ⊢
  refine wl_val (v_assign' (by conv => (lhs; whnf))) rfl ?_
  refine wl_nil ?_
  refine then_go ?_
  refine wc_seq ?_
  refine wc_region ?_
  refine wl_val (v_move' (by conv => (lhs; whnf))) rfl ?_
  refine wl_val (v_neq rfl rfl) rfl ?_
  refine wl_nil ?_
  refine then_go ?_
  refine wc_cond rfl (fun h37 => ?_) (fun h37 => ?_)
  ·refine wc_seq ?_
   refine wc_region ?_
   refine wl_val (v_move' (by conv => (lhs; whnf))) rfl ?_
   refine wl_val (v_assign' (by conv => (lhs; whnf))) rfl ?_
   refine wl_nil ?_
   refine then_go ?_
   refine wc_ret (then_ret ?_)
   have hz := of_decide_eq_true h37
   exact ret1 rfl (OverOut.bad (by unfold overD; rw [if_neg hfit, hd1, if_pos hz]) hz hmm2 st)
  ·refine wc_skip ?_
   refine then_go ?_
   refine wc_seq ?_
   refine wc_seq ?_
   refine wc_region ?_
   refine wl_val (v_move' (by conv => (lhs; whnf))) rfl ?_
   refine wl_val (v_move' (by conv => (lhs; whnf))) rfl ?_
   refine wl_val (v_move' (by conv => (lhs; whnf))) rfl ?_
   have hz1 := of_decide_eq_false h37
   have hr1 := (hr1 (Decidable.not_not.1 hz1)).mono (k' := 100000) (by omega)
   refine wl_call rfl (c_put (hf := hf) (at' := 64) st hr1 hBm (by rw [hBl]; exact sizeL_mod) (by omega) hf1 (by omega)) rfl ?_
   rintro v42 w ⟨wv2, st, rfl⟩
   rw [fst1 hf1] at st ⊢
   have hr2 := rdy_done (i := hf * (n / 2) + 1) (b := B) hr1
   have hd2 : (putD n P1.1 ((1 - sl.half) * (n / 2) + 1) (allB (sl.gen + 1) 0 L)) = putD n P1.1 (hf * (n / 2) + 1) B := by rw [hhf, hB]
   obtain ⟨P2, hP2⟩ : ∃ P2, P2 = putD n P1.1 (hf * (n / 2) + 1) B := ⟨_, rfl⟩
   rw [← hP2] at st hr2 hd2 ⊢
   refine wl_val (v_assign' (by conv => (lhs; whnf))) rfl ?_
   refine wl_nil ?_
   refine then_go ?_
   refine wc_seq ?_
   refine wc_region ?_
   refine wl_val (v_move' (by conv => (lhs; whnf))) rfl ?_
   refine wl_val (v_neq rfl rfl) rfl ?_
   refine wl_nil ?_
   refine then_go ?_
   refine wc_cond rfl (fun h44 => ?_) (fun h44 => ?_)
   ·refine wc_seq ?_
    refine wc_region ?_
    refine wl_val (v_move' (by conv => (lhs; whnf))) rfl ?_
    refine wl_val (v_assign' (by conv => (lhs; whnf))) rfl ?_
    refine wl_nil ?_
    refine then_go ?_
    refine wc_ret (then_ret ?_)
    have hz := of_decide_eq_true h44
    exact ret1 rfl (OverOut.bad (by unfold overD; rw [if_neg hfit, hd1, if_neg hz1, hd2, if_pos hz]) hz hmm2 st)
   ·refine wc_skip ?_
    refine then_go ?_
    refine wc_seq ?_
    refine wc_seq ?_
    refine wc_region ?_
    refine wl_val (v_move' (by conv => (lhs; whnf))) rfl ?_
    refine wl_val (v_move' (by conv => (lhs; whnf))) rfl ?_
    refine wl_val (v_move' (by conv => (lhs; whnf))) rfl ?_
    refine wl_val (v_nil rfl) rfl ?_
    refine wl_val (v_fa TF.f75_2 rfl) rfl ?_
    refine wl_val (v_load rfl (st.reads (v := u64 sl.gen) 0 rfl TF.t47 rfl)) rfl ?_
    refine wl_val (v_add64 (q := 1) rfl rfl) rfl ?_
    have hz2 := of_decide_eq_false h44
    have hr2 := (hr2 (Decidable.not_not.1 hz2)).mono (k' := 100000) (by omega)
    refine wl_call rfl (c_jhead (g := sl.gen + 1) st) rfl ?_
    intro v53 w st
    have st3 := st
    obtain ⟨m3, hg3, hm3, st⟩ := st.freezeR (i := 0) rfl (by simp)
    have hHm : SlM m3 v53 1 (headB (sl.gen + 1)).length (bs (headB (sl.gen + 1))) := row_SlM (m := m3) (st3.at (i := 0) rfl) hm3
    have st : St m0 m3 [] w0 w (logB g b sl lv :: diskO b s n wv2 P2.1 :: Es) := st
    have hN := hN.mono hg3.le
    have hmm3 : ∀ k o, m k = some o → m3 k = some o := fun k o h => hg3.le k o (hmm2 k o h)
    have hHl := length_headB (sl.gen + 1)
    refine wl_call rfl (c_put (hf := hf) (at' := 0) st hr2 hHm (by omega) (by omega) hf1 (by omega)) rfl ?_
    rintro v54 w ⟨wv3, st, rfl⟩
    rw [fst0 hf1] at st ⊢
    have hd3 : (putD n P2.1 ((1 - sl.half) * (n / 2)) (headB (sl.gen + 1))) = putD n P2.1 (hf * (n / 2)) (headB (sl.gen + 1)) := by rw [hhf]
    obtain ⟨P3, hP3⟩ : ∃ P3, P3 = putD n P2.1 (hf * (n / 2)) (headB (sl.gen + 1)) := ⟨_, rfl⟩
    rw [← hP3] at st hd3 ⊢
    refine wl_val (v_assign' (by conv => (lhs; whnf))) rfl ?_
    refine wl_nil ?_
    refine then_go ?_
    refine wc_seq ?_
    refine wc_region ?_
    refine wl_val (v_move' (by conv => (lhs; whnf))) rfl ?_
    refine wl_val (v_neq rfl rfl) rfl ?_
    refine wl_nil ?_
    refine then_go ?_
    refine wc_cond rfl (fun h56 => ?_) (fun h56 => ?_)
    ·refine wc_seq ?_
     refine wc_region ?_
     refine wl_val (v_move' (by conv => (lhs; whnf))) rfl ?_
     refine wl_val (v_assign' (by conv => (lhs; whnf))) rfl ?_
     refine wl_nil ?_
     refine then_go ?_
     refine wc_ret (then_ret ?_)
     have hz := of_decide_eq_true h56
     exact ret1 rfl (OverOut.bad (by unfold overD; rw [if_neg hfit, hd1, if_neg hz1, hd2, if_neg hz2, hd3, if_pos hz]) hz hmm3 st)
    ·refine wc_skip ?_
     refine then_go ?_
     refine wc_seq ?_
     refine wc_region ?_
     refine wl_val (v_move' (by conv => (lhs; whnf))) rfl ?_
     refine wl_val (v_move' (by conv => (lhs; whnf))) rfl ?_
     refine wl_val (v_move' (by conv => (lhs; whnf))) rfl ?_
     refine wl_val (v_move' (by conv => (lhs; whnf))) rfl ?_
     refine wl_val (v_move' (by conv => (lhs; whnf))) rfl ?_
     refine wl_val (v_nil rfl) rfl ?_
     refine wl_val (v_fa TF.f75_2 rfl) rfl ?_
     refine wl_val (v_load rfl (st.reads (v := u64 sl.gen) 0 rfl TF.t47 rfl)) rfl ?_
     refine wl_val (v_add64 (q := 1) rfl rfl) rfl ?_
     refine wl_val (v_move' (by conv => (lhs; whnf))) rfl ?_
     refine wl_val (v_len_s Try.underlying31 rfl) rfl ?_
     refine wl_val (v_add' (c := ((64 + sizeL L : Nat) : Int)) rfl rfl (by omega) (by omega) (by omega)) rfl ?_
     refine wl_val (v_nil rfl) rfl ?_
     refine wl_val (v_fa TF.f75_1 rfl) rfl ?_
     refine wl_store1 0 st rfl TF.t3 rfl (by conv => (lhs; whnf)) rfl (by first | exact lt_ok rfl | decide | simp) ?_
     intro w st
     refine wl_val (v_nil rfl) rfl ?_
     refine wl_val (v_fa TF.f75_2 rfl) rfl ?_
     refine wl_store1 0 st rfl TF.t47 rfl (by conv => (lhs; whnf)) rfl (by first | exact lt_ok rfl | decide | simp) ?_
     intro w st
     refine wl_val (v_nil rfl) rfl ?_
     refine wl_val (v_fa TF.f75_3 rfl) rfl ?_
     refine wl_store1 0 st rfl TF.t3 rfl (by conv => (lhs; whnf)) rfl (by first | exact lt_ok rfl | decide | simp) ?_
     intro w st
     refine wl_nil ?_
     refine then_go ?_
     refine wc_seq ?_
     refine wc_region ?_
     refine wl_val (v_move' (by conv => (lhs; whnf))) rfl ?_
     refine wl_val (v_nil rfl) rfl ?_
     refine wl_val (v_fa TF.f75_4 rfl) rfl ?_
     refine wl_store1 0 st rfl TF.t35 rfl (by conv => (lhs; whnf)) rfl (by first | exact lt_ok rfl | decide | simp) ?_
     intro w st
     have hz3 := of_decide_eq_false h56
     have hfin : overD n d sl L = (P3.1, ⟨hf, sl.gen + 1, 64 + sizeL L⟩, 0) := by unfold overD; rw [if_neg hfit, hd1, if_neg hz1, hd2, if_neg hz2, hd3, if_neg hz3, ← hhf]
     have st : St m0 m3 [] w0 w (logB g b ⟨hf, sl.gen + 1, 64 + sizeL L⟩ (.slice none 0 0) :: diskO b s n wv3 P3.1 :: Es) := st
     refine wl_nil ?_
     refine then_go ?_
     refine wc_seq ?_
     refine wc_seq ?_
     refine wc_region ?_
     refine wl_val (v_move' (by conv => (lhs; whnf))) rfl ?_
     refine wl_val (v_len_s Try.underlying35 rfl) rfl ?_
     refine wl_val (v_move' (by conv => (lhs; whnf))) rfl ?_
     refine wl_nil ?_
     refine then_go ?_
     refine wc_block ?_
     have st := nilRow st 31 1
     have st : St m0 m3 [] w0 w (logB g b ⟨hf, sl.gen + 1, 64 + sizeL L⟩ (.slice none 0 0) :: lrE (.slice none 0 0) [] :: diskO b s n wv3 P3.1 :: Es) := st.perm (List.Perm.swap _ _ _)
     refine wc_loop (S := Nat) (fun q r w' => ∃ (i : Nat) (m' : Mem) (v : Value) (N' : List (By × Value)), q + i = N.length ∧ r 0 = .pointer (some ⟨g, 0, none⟩) ∧ r 79 = .slice na N.length nc ∧ r 80 = .int .i64 N.length ∧ r 81 = .int .i64 i ∧ (∀ k o, m3 k = some o → m' k = some o) ∧ Pcs m' N' ∧ (∀ y ∈ N', Apart m m' y.2 y.1) ∧ N'.map (·.1) = (N.take i).map (·.1) ∧ St m0 m' [] w0 w' (logB g b ⟨hf, sl.gen + 1, 64 + sizeL L⟩ v :: lrE v N' :: diskO b s n wv3 P3.1 :: Es)) id N.length ⟨0, m3, _, [], by omega, rfl, rfl, rfl, rfl, fun _ _ h => h, (by intro x hx; cases hx), (by intro x hx; cases hx), rfl, st⟩ ?_
     clear st
     rintro q r w2 ⟨i, m', v, N', hqi, g0, g79, g80, g81, hmm', hN', hNa, hNN', st⟩
     refine wc_o 0 g0 (wc_o 79 g79 (wc_o 80 g80 (wc_o 81 g81 ?_)))
     have hN := hN.mono hmm'
     refine wc_seq ?_
     refine wc_region ?_
     refine wl_val (v_lss rfl rfl) rfl ?_
     refine wl_nil ?_
     refine then_go ?_
     refine wc_seq ?_
     refine wc_if rfl (fun h82 => ?_) (fun h82 => ?_)
     ·refine wc_skip ?_
      refine then_go ?_
      refine wc_seq ?_
      refine wc_block ?_
      refine wc_seq ?_
      have hi : i < N.length := by omega
      obtain ⟨nb, no, _, hnv, hsk, hrk⟩ := hN.elem hi
      cases hnv
      have hxl := hNl _ (List.getElem_mem hi)
      have hN'l : N'.length = i := by have := congrArg List.length hNN'; rw [List.length_map, List.length_map, List.length_take] at this; omega
      refine wc_region ?_
      refine wl_val (v_ias i Try.underlying35 TF.t31 rfl rfl (by first | rfl | omega) (by first | omega | (dsimp only at *; omega))) rfl ?_
      refine wl_val (v_load rfl (hrk st.im)) rfl ?_
      refine wl_val (v_assign' (by conv => (lhs; whnf))) rfl ?_
      refine wl_nil ?_
      refine then_go ?_
      refine wc_draw TF.mixed ?_
      have st := st.pure (touch_drew _)
      refine fl_val 0 rfl (fun _ => (v_move' (by conv => (lhs; whnf)))) rfl (by kernel_rfl) ?_
      refine fl_val 1 rfl (fun _ => (v_move' (by conv => (lhs; whnf)))) rfl (by kernel_rfl) ?_
      refine fl_val 2 rfl (fun _ => (v_nil rfl)) rfl (by kernel_rfl) ?_
      refine fl_val 3 rfl (fun _ => (v_fa TF.f75_4 rfl)) rfl (by kernel_rfl) ?_
      refine fl_ld 4 rfl (v_load rfl (by first | exact st.reads (v := v) 0 rfl TF.t35 rfl | exact st.reads (v := v) 1 rfl TF.t35 rfl)) (by kernel_rfl) ?_
      refine fl_val 5 rfl (fun _ => (v_move' (by conv => (lhs; whnf)))) rfl (by kernel_rfl) ?_
      refine fl_eff1 6 [3, 2, 1, 0] [4] (by kernel_rfl) ⟨obl_ld rfl rfl rfl (v_load rfl (by first | exact st.reads (v := v) 0 rfl TF.t35 rfl | exact st.reads (v := v) 1 rfl TF.t35 rfl)), trivial⟩ rfl ?_
      refine wl_call rfl (c_bcloneA st.im hsk (by omega)) rfl ?_
      rintro v91 w ⟨t91, m4, hg4, hi4, hxv, hap⟩
      have hap : Apart m m4 v91 N[i].1 := hap.mono (fun k o h => hmm' k o (hmm3 k o h)) fun _ _ h => h
      have hNa : ∀ y ∈ N', Apart m m4 y.2 y.1 := fun y hy => (hNa y hy).mono (fun _ _ h => h) hg4.le
      have st := st.grown hg4 t91 hi4
      have hN' := hN'.mono hg4.le
      have hmm' : ∀ k o, m3 k = some o → m4 k = some o := fun k o h => hg4.le k o (hmm' k o h)
      refine wl_nil ⟨rfl, ?_⟩
      refine fl_eff1 7 [3, 2, 1, 0] [4] (by kernel_rfl) ⟨obl_ld rfl rfl rfl (v_load rfl (by first | exact st.reads (v := v) 0 rfl TF.t35 rfl | exact st.reads (v := v) 1 rfl TF.t35 rfl)), trivial⟩ rfl ?_
      refine wl_svOne (v := v91) Try.underlying35 TF.t31 TF.z31 (SlM.one1 hxv) rfl st rfl ?_
      intro b92 w st
      refine wl_nil ⟨rfl, ?_⟩
      refine fl_eff1 8 [3, 2, 1, 0] [] (by kernel_rfl) ⟨obl_ld rfl rfl rfl (v_load rfl (by first | exact st.reads (v := v) 0 rfl TF.t35 rfl | exact st.reads (v := v) 1 rfl TF.t35 rfl)), trivial⟩ rfl ?_
      refine wl_lrApp (x := N[i].1) 1 st rfl (SlM.one1 hxv) rfl rfl (by omega) rfl ?_
      intro v93 w st
      have st : St m0 m4 [] w0 w (logB g b ⟨hf, sl.gen + 1, 64 + sizeL L⟩ v :: lrE v93 (N' ++ [(N[i].1, v91)]) :: diskO b s n wv3 P3.1 :: Es) := st
      refine wl_nil ⟨rfl, ?_⟩
      refine fl_val 9 rfl (fun _ => (v_nil rfl)) rfl (by kernel_rfl) ?_
      refine fl_val 10 rfl (fun _ => (v_fa TF.f75_4 rfl)) rfl (by kernel_rfl) ?_
      refine fl_eff1 11 [9] [] (by kernel_rfl) trivial rfl ?_
      refine wl_store1 (v := v93) 0 st rfl TF.t35 rfl rfl (row_one (st.at (i := 1) rfl)) (lt_ok rfl) ?_
      intro w st
      have st : St m0 m4 [] w0 w (logB g b ⟨hf, sl.gen + 1, 64 + sizeL L⟩ v93 :: lrE v93 (N' ++ [(N[i].1, v91)]) :: diskO b s n wv3 P3.1 :: Es) := st
      refine wl_nil ⟨rfl, ?_⟩
      refine fl_nil (by kernel_rfl) trivial ?_
      refine block_go (then_go ?_)
      refine wc_region ?_
      refine wl_val (v_add' (c := ((i + 1 : Nat) : Int)) rfl rfl (by omega) (by omega) (by omega)) rfl ?_
      refine wl_val (v_move' (by conv => (lhs; whnf))) rfl ?_
      refine wl_nil ?_
      refine then_go ?_
      refine ⟨q - 1, by simp; omega, i + 1, m4, v93, N' ++ [(N[i].1, v91)], by omega, rfl, rfl, rfl, rfl, hmm', hN'.snoc hxv, fun y hy => (List.mem_append.1 hy).elim (hNa y) fun hy => by rw [List.mem_singleton.1 hy]; exact hap, ?_, st⟩
      rw [List.map_append, hNN', List.take_succ_eq_append_getElem hi, List.map_append]
      rfl
     ·refine wc_exit (then_exit (then_exit (block_hit ?_)))
      refine then_go ?_
      refine wc_seq ?_
      refine wc_region ?_
      refine wl_val (v_assign' (by conv => (lhs; whnf))) rfl ?_
      refine wl_nil ?_
      refine then_go ?_
      refine wc_ret ?_
      have hiN : i = N.length := by omega
      subst hiN
      rw [List.take_length, ← hL] at hNN'
      refine ret1 (v := .int .i64 0) rfl ⟨m', wv3, fun k o h => hmm' k o (hmm3 k o h), by rw [hfin], fun h => (h (by rw [hfin])).elim, fun _ => ⟨v, N', hN', hNa, hNN', by rw [hfin]; exact st⟩⟩
end
end Go.Proofs.Ytladpaehbolghaa

namespace Go.Proofs.Ytladpaehbolghaa
open Go Go.RowKit K SH GC JR OS
namespace OS
def actK (L : List (By × By)) (a : Ac) : List (By × By) := if a.set then insKV a.key a.data L else delKV a.key L
def doneK (L : List (By × By)) (A : List Ac) : List (By × By) := A.foldl actK L
abbrev DV := By × Value
abbrev kvs (L : List (By × DV)) : List (By × By) := L.map fun x => (x.1, x.2.1)
theorem kvs_ins {k d : By} {v : Value} : ∀ {L : List (By × DV)}, kvs (insKV k (d, v) L) = insKV k d (kvs L)
 | [] => rfl
 | x :: L => by
  have ih := kvs_ins (k := k) (d := d) (v := v) (L := L)
  unfold kvs at ih ⊢
  rw [insKV, List.map_cons, insKV]
  by_cases h : x.1 = k
  ·rw [if_pos h, if_pos h]; rfl
  ·rw [if_neg h, if_neg h, List.map_cons, ih]
theorem kvs_del {k : By} {L : List (By × DV)} : kvs (delKV k L) = delKV k (kvs L) := by
 unfold kvs delKV
 rw [List.filter_map]
 rfl
theorem kvs_get {k : By} : ∀ {L : List (By × DV)}, getKV k (kvs L) = (getKV k L).map (·.1)
 | [] => rfl
 | x :: L => by
  have ih := kvs_get (k := k) (L := L)
  unfold kvs at ih ⊢
  rw [List.map_cons, getKV, getKV]
  split
  ·rfl
  ·exact ih
def KvOk (m : Mem) (L : List (By × DV)) : Prop := ∀ x ∈ L, x.1.length ≤ 64 ∧ x.2.1.length ≤ 1048576 ∧ SlM m x.2.2 1 x.2.1.length (bs x.2.1)
theorem KvOk.mono {m m' : Mem} {L : List (By × DV)} (h : KvOk m L) (hm : ∀ k o, m k = some o → m' k = some o) : KvOk m' L := fun x hx => ⟨(h x hx).1, (h x hx).2.1, (h x hx).2.2.mono hm⟩
theorem KvOk.ins {m : Mem} {L : List (By × DV)} {k d : By} {v : Value} (h : KvOk m L) (hk : k.length ≤ 64) (hd : d.length ≤ 1048576) (hv : SlM m v 1 d.length (bs d)) : KvOk m (insKV k (d, v) L) := fun x hx => (mem_insKV hx).elim (fun e => by rw [e]; exact ⟨hk, hd, hv⟩) (h x)
theorem KvOk.del {m : Mem} {L : List (By × DV)} {k : By} (h : KvOk m L) : KvOk m (delKV k L) := fun x hx => h x (List.mem_filter.1 hx).1
def KvN (m m' : Mem) (L L' : List (By × DV)) : Prop := ∀ x ∈ L', x ∈ L ∨ Apart m m' x.2.2 x.2.1
theorem KvN.refl {m m' : Mem} {L : List (By × DV)} : KvN m m' L L := fun _ h => .inl h
theorem KvN.ext {m m' m'' : Mem} {L L' : List (By × DV)} (h : KvN m m' L L') (hm : ∀ k o, m' k = some o → m'' k = some o) : KvN m m'' L L' := fun x hx => (h x hx).imp id fun h => h.mono (fun _ _ h => h) hm
end OS
abbrev kmE (mb : Nat) (L : List (By × DV)) : Ent := mapE strV (fun x : DV => x.2) mb L
theorem kt_str : KeyT Try.prog 9 strV fun s => s.length ≤ 9223372036854775807 := str_keyT Try.underlying9
theorem OS.KvOk.keys {m : Mem} {L : List (By × DV)} (h : KvOk m L) : ∀ x ∈ L, x.1.length ≤ 9223372036854775807 := fun x hx => by have := (h x hx).1; omega
section
open OS
variable {m0 m : Mem} {w0 w : World} {Es : List Ent}
theorem c_done {mb : Nat} {v : Value} {A : List AcT} {L : List (By × DV)} (st : St m0 m [] w0 w (kmE mb L :: Es)) (hA : AcsM m v A) (hAo : ∀ a ∈ A, actOk a.1) (hL : KvOk m L) (hAl : A.length ≤ 1099511627776) :
  Ret Try.prog 19 #[.map (some mb), v] w fun _ w' => ∃ m' L', (∀ k o, m k = some o → m' k = some o) ∧ KvOk m' L' ∧ KvN m m' L L' ∧ kvs L' = doneK (kvs L) (A.map (·.1)) ∧ St m0 m' [] w0 w' (kmE mb L' :: Es) := by
 obtain ⟨la, lc, rfl⟩ := hA.1.sl
 refine ret_of Try.call19 Try.func19 rfl Try.ntmps19 Try.results19 rfl ?_
 refine wc_seq ?_
 refine wc_region ?_
 refine wl_val (v_move' (by conv => (lhs; whnf))) rfl ?_
 refine wl_val (v_len_s Try.underlying22 rfl) rfl ?_
 refine wl_val (v_move' (by conv => (lhs; whnf))) rfl ?_
 refine wl_nil ?_
 refine then_go ?_
 refine wc_block ?_
 refine wc_loop (S := Nat) (fun q r w' => ∃ i m' L', q + i = A.length ∧ r 0 = .map (some mb) ∧ r 6 = .slice la A.length lc ∧ r 7 = .int .i64 A.length ∧ r 8 = .int .i64 i ∧ (∀ k o, m k = some o → m' k = some o) ∧ KvOk m' L' ∧ KvN m m' L L' ∧ kvs L' = doneK (kvs L) ((A.take i).map (·.1)) ∧ St m0 m' [] w0 w' (kmE mb L' :: Es)) id A.length ⟨0, m, L, by omega, rfl, rfl, rfl, rfl, fun _ _ h => h, hL, KvN.refl, rfl, st⟩ ?_
 clear st
 rintro q r w2 ⟨i, m', L', hqi, g0, g6, g7, g8, hmm, hL', hN, hK, st⟩
 refine wc_o 0 g0 (wc_o 6 g6 (wc_o 7 g7 (wc_o 8 g8 ?_)))
 have hA := hA.mono hmm
 refine wc_seq ?_
 refine wc_region ?_
 refine wl_val (v_lss rfl rfl) rfl ?_
 refine wl_nil ?_
 refine then_go ?_
 refine wc_seq ?_
 refine wc_if rfl (fun h9 => ?_) (fun h9 => ?_)
 ·refine wc_skip ?_
  refine then_go ?_
  refine wc_seq ?_
  refine wc_block ?_
  refine wc_seq ?_
  have hi : i < A.length := by omega
  obtain ⟨lb, lo, da, dc, hla, hd, hrL, _⟩ := hA.at hi
  subst hla
  have hok : AcOk m' A[i].1 A[i].2 := hA.2 _ (List.getElem_mem hi)
  have hao := hAo _ (List.getElem_mem hi)
  have htk : doneK (kvs L) ((A.take (i + 1)).map (·.1)) = actK (doneK (kvs L) ((A.take i).map (·.1))) A[i].1 := by
   unfold doneK
   rw [List.take_succ_eq_append_getElem hi, List.map_append, List.foldl_append]
   rfl
  rw [← hK] at htk
  obtain ⟨x, hx⟩ : ∃ x, x = A[i].1 := ⟨_, rfl⟩
  rw [← hx] at hd hok hao htk
  rw [hd] at hok
  unfold actOk at hao
  have hrX : ∀ {w' : World}, Im m' w' → Reads Try.prog w' 33 ⟨lb, lo + i * 3, none⟩ (.agg (acC x (.slice da x.data.length dc)).toArray) := by rw [← hd, hx]; exact hrL
  refine wc_region ?_
  refine wl_val (v_ias i Try.underlying22 TF.t33 rfl rfl (by first | rfl | omega) (by first | omega | (dsimp only at *; omega))) rfl ?_
  refine wl_val (v_load rfl (hrX st.im)) rfl ?_
  refine wl_alloc TF.z33 st rfl ?_
  intro b5 w st
  refine wl_storeW (cs := (acC x (.slice da x.data.length dc)).toArray) 0 st rfl TF.t33 rfl rfl (by exact Ac.len hok) rfl (by exact Ac.one hok) ?_
  intro w st
  refine wl_nil ?_
  refine then_go ?_
  refine wc_seq ?_
  refine wc_region ?_
  refine wl_val (v_fa TF.f33_1 rfl) rfl ?_
  refine wl_val (v_load rfl (st.reads (v := .bool x.set) 0 rfl TF.t4 (Ac.g1_1 hok))) rfl ?_
  refine wl_nil ?_
  refine then_go ?_
  refine wc_cond rfl (fun h13 => ?_) (fun h13 => ?_)
  ·refine wc_draw TF.mixed ?_
   have st := st.pure (touch_drew _)
   refine fl_val 0 rfl (fun _ => (v_move' (by conv => (lhs; whnf)))) rfl (by kernel_rfl) ?_
   refine fl_val 1 rfl (fun _ => (v_fa TF.f33_0 rfl)) rfl (by kernel_rfl) ?_
   refine fl_ld 2 rfl (v_load rfl (st.reads (v := .string (strB x.key)) 0 rfl TF.t9 (Ac.g0_1 hok))) (by kernel_rfl) ?_
   refine fl_val 3 rfl (fun _ => (v_fa TF.f33_2 rfl)) rfl (by kernel_rfl) ?_
   refine fl_ld 4 rfl (v_load rfl (st.reads (v := .slice da x.data.length dc) 0 rfl TF.t31 (Ac.g2_1 hok))) (by kernel_rfl) ?_
   refine fl_eff1 5 [3, 1, 0] [2] (by kernel_rfl) ⟨obl_ld rfl rfl rfl (v_load rfl (st.reads (v := .slice da x.data.length dc) 0 rfl TF.t31 (Ac.g2_1 hok))), obl_ld rfl rfl rfl (v_load rfl (st.reads (v := .string (strB x.key)) 0 rfl TF.t9 (Ac.g0_1 hok))), trivial⟩ rfl ?_
   refine wl_call rfl (c_bcloneA st.im hok.data (by omega)) rfl ?_
   rintro v19 w ⟨t19, m1, hg1, hi1, h19, hap⟩
   have st := st.grown hg1 t19 hi1
   have hap : Apart m m1 v19 x.data := hap.mono hmm fun _ _ h => h
   refine wl_nil ⟨rfl, ?_⟩
   refine fl_eff1 6 [] [] (by kernel_rfl) ⟨obl_ld rfl rfl rfl (v_load rfl (st.reads (v := .string (strB x.key)) 0 rfl TF.t9 (Ac.g0_1 hok))), trivial⟩ rfl ?_
   refine wl_mapPut (v := (x.data, v19)) 1 st rfl kt_str Try.underlying52 hL'.keys (by omega) rfl rfl rfl ?_
   intro w st
   have st : St m0 m1 [] w0 w (kmE mb (insKV x.key (x.data, v19) L') :: Es) := st.drop 0
   refine wl_nil ⟨rfl, ?_⟩
   refine fl_nil (by kernel_rfl) trivial ?_
   refine block_go (then_go ?_)
   refine wc_region ?_
   refine wl_val (v_add' (c := ((i + 1 : Nat) : Int)) rfl rfl (by omega) (by omega) (by omega)) rfl ?_
   refine wl_val (v_move' (by conv => (lhs; whnf))) rfl ?_
   refine wl_nil ?_
   refine then_go ?_
   refine ⟨q - 1, by simp; omega, i + 1, m1, _, by omega, rfl, rfl, rfl, rfl, fun k o h => hg1.le k o (hmm k o h), (hL'.mono hg1.le).ins (by omega) (by omega) h19, fun y hy => (mem_insKV hy).elim (fun e => .inr (by rw [e]; exact hap)) fun hy => (hN.ext hg1.le) y hy, ?_, st⟩
   rw [kvs_ins, htk, actK, if_pos h13]
  ·refine wc_region ?_
   refine wl_val (v_move' (by conv => (lhs; whnf))) rfl ?_
   refine wl_val (v_fa TF.f33_0 rfl) rfl ?_
   refine wl_val (v_load rfl (st.reads (v := .string (strB x.key)) 0 rfl TF.t9 (Ac.g0_1 hok))) rfl ?_
   refine wl_mapDel 1 st rfl kt_str Try.underlying52 hL'.keys (kk := x.key) (by omega) rfl rfl ?_
   intro w st
   have st : St m0 m' [] w0 w (kmE mb (delKV x.key L') :: Es) := st.drop 0
   refine wl_nil ?_
   refine block_go (then_go ?_)
   refine wc_region ?_
   refine wl_val (v_add' (c := ((i + 1 : Nat) : Int)) rfl rfl (by omega) (by omega) (by omega)) rfl ?_
   refine wl_val (v_move' (by conv => (lhs; whnf))) rfl ?_
   refine wl_nil ?_
   refine then_go ?_
   refine ⟨q - 1, by simp; omega, i + 1, m', _, by omega, rfl, rfl, rfl, rfl, hmm, hL'.del, fun y hy => hN y (List.mem_filter.1 hy).1, ?_, st⟩
   rw [kvs_del, htk, actK, if_neg (by rw [h13]; decide)]
 ·refine wc_exit (then_exit (then_exit (block_hit ?_)))
  have hiA : i = A.length := by omega
  subst hiA
  rw [List.take_length] at hK
  exact end0 ⟨m', L', hmm, hL', hN, hK, st⟩
end
end Go.Proofs.Ytladpaehbolghaa

namespace Go.Proofs.Ytladpaehbolghaa
open Go Go.RowKit K SH GC JR OS
namespace OS
def actB (a : Ac) : By := txtB a.key ++ (if a.set then 1 :: txtB a.data else [0])
def batB (L : List Ac) : By := numB L.length ++ L.flatMap actB
theorem txtB_len {t : By} (h : t.length ≤ 1099511627776) : (txtB t).length ≤ t.length + 10 := by
 unfold txtB
 rw [List.length_append]
 have := numB_len10 (n := t.length) (by omega)
 omega
theorem actB_len {a : Ac} {B : Nat} (h : a.key.length + a.data.length ≤ B) (hB : B ≤ 1099511627776) : (actB a).length ≤ B + 30 := by
 unfold actB
 have h1 := txtB_len (t := a.key) (by omega)
 have h2 := txtB_len (t := a.data) (by omega)
 rw [List.length_append]
 split
 ·rw [List.length_cons]; omega
 ·simp; omega
def bulkA (L : List Ac) : Nat := (L.map fun a => a.key.length + a.data.length).sum
theorem bulk_cons {a : Ac} {L : List Ac} : bulkA (a :: L) = a.key.length + a.data.length + bulkA L := by simp [bulkA]
theorem flat_lenA : ∀ {L : List Ac}, bulkA L ≤ 1099511627776 → (L.flatMap actB).length ≤ bulkA L + 30 * L.length
 | [], _ => by simp
 | a :: L, h => by
  rw [bulk_cons] at h ⊢
  have h1 := actB_len (a := a) (Nat.le_refl _) (by omega)
  have h2 := flat_lenA (L := L) (by omega)
  rw [List.flatMap_cons, List.length_append, List.length_cons]
  omega
theorem bulk_take {L : List Ac} (i : Nat) : bulkA (L.take i) ≤ bulkA L := by
 induction L generalizing i with
 | nil => simp
 | cons a L ih =>
  cases i with
  | zero => simp [bulkA]
  | succ i => rw [List.take_succ_cons, bulk_cons, bulk_cons]; have := ih i; omega
theorem bulk_mem : ∀ {L : List Ac} {a : Ac}, a ∈ L → a.key.length + a.data.length ≤ bulkA L
 | b :: L, a, h => by
  rw [bulk_cons]
  rcases List.mem_cons.1 h with h | h
  ·subst h; omega
  ·have := bulk_mem h; omega
end OS
section
open OS
variable {m0 m : Mem} {F : List Nat} {w0 w : World} {Es : List Ent}
theorem c_batch {v : Value} {L : List AcT} (st : St m0 m [] w0 w Es) (hL : AcsM m v L) (hLl : L.length ≤ 1000000000) (hb : bulkA (L.map (·.1)) ≤ 10000000000) :
  Ret Try.prog 17 #[v] w fun v' w' => ∃ m', (∀ k o, m k = some o → m' k = some o) ∧ St m0 m' [] w0 w' (byE v' (batB (L.map (·.1))) :: Es) := by
 obtain ⟨la, lc, rfl⟩ := hL.1.sl
 obtain ⟨M, hM⟩ : ∃ M, M = L.map (·.1) := ⟨_, rfl⟩
 have hMl : M.length = L.length := by rw [hM, List.length_map]
 rw [← hM] at hb ⊢
 have h10 := numB_len10 (n := L.length) (by omega)
 refine ret_of Try.call17 Try.func17 rfl Try.ntmps17 Try.results17 rfl ?_
 refine wc_seq ?_
 refine wc_region ?_
 refine wl_val (v_assign' (by conv => (lhs; whnf))) rfl ?_
 refine wl_nil ?_
 refine then_go ?_
 refine wc_seq ?_
 have st := nilRow st 5 1
 have st : St m0 m [] w0 w (byE (.slice none 0 0) [] :: Es) := st
 refine wc_region ?_
 refine wl_val (v_move' (by conv => (lhs; whnf))) rfl ?_
 refine wl_val (v_len_s Try.underlying22 rfl) rfl ?_
 refine wl_val (v_convi_64 Try.underlying3 Try.underlying47 rfl) rfl ?_
 refine wl_call rfl (c_cnum (n := UInt64.ofNat L.length) st (by simp)) rfl ?_
 intro v9 w st
 rw [UInt64.toNat_ofNat', Nat.mod_eq_of_lt (by omega), List.nil_append] at st
 refine wl_val (v_assign' (by conv => (lhs; whnf))) rfl ?_
 refine wl_nil ?_
 refine then_go ?_
 refine wc_seq ?_
 refine wc_seq ?_
 refine wc_region ?_
 refine wl_val (v_move' (by conv => (lhs; whnf))) rfl ?_
 refine wl_val (v_len_s Try.underlying22 rfl) rfl ?_
 refine wl_val (v_move' (by conv => (lhs; whnf))) rfl ?_
 refine wl_nil ?_
 refine then_go ?_
 refine wc_block ?_
 refine wc_loop (S := Nat) (fun q r w' => ∃ i v m', q + i = L.length ∧ r 3 = v ∧ r 10 = .slice la L.length lc ∧ r 11 = .int .i64 L.length ∧ r 12 = .int .i64 i ∧ (∀ k o, m k = some o → m' k = some o) ∧ St m0 m' [] w0 w' (byE v (numB L.length ++ (M.take i).flatMap actB) :: Es)) id L.length ⟨0, v9, m, by omega, rfl, rfl, rfl, rfl, fun _ _ h => h, by simpa using st⟩ ?_
 clear st
 rintro q r w2 ⟨i, v, m', hqi, g3, g10, g11, g12, hmm, st⟩
 refine wc_o 3 g3 (wc_o 10 g10 (wc_o 11 g11 (wc_o 12 g12 ?_)))
 have hL := hL.mono hmm
 refine wc_seq ?_
 refine wc_region ?_
 refine wl_val (v_lss rfl rfl) rfl ?_
 refine wl_nil ?_
 refine then_go ?_
 refine wc_seq ?_
 refine wc_if rfl (fun h13 => ?_) (fun h13 => ?_)
 ·refine wc_skip ?_
  refine then_go ?_
  refine wc_seq ?_
  refine wc_block ?_
  refine wc_seq ?_
  have hi : i < L.length := by omega
  have hiM : i < M.length := by omega
  obtain ⟨lb, lo, da, dc, hla, hd, hrL, _⟩ := hL.at hi
  subst hla
  have hok : AcOk m' L[i].1 L[i].2 := hL.2 _ (List.getElem_mem hi)
  have hMi : M[i] = L[i].1 := by simp [hM]
  have hbi := bulk_mem (List.getElem_mem hiM)
  have hft := flat_lenA (L := M.take i) (Nat.le_trans (bulk_take i) (by omega))
  have hbt := bulk_take (L := M) i
  have hlt : (M.take i).length ≤ L.length := by simp; omega
  obtain ⟨x, hx⟩ : ∃ x, x = L[i].1 := ⟨_, rfl⟩
  rw [hMi] at hbi
  have htk : (M.take (i + 1)).flatMap actB = (M.take i).flatMap actB ++ actB x := by rw [List.take_succ_eq_append_getElem hiM, List.flatMap_append, hMi, ← hx]; simp
  rw [← hx] at hd hok hMi hbi
  rw [hd] at hok
  have hrX : ∀ {w' : World}, Im m' w' → Reads Try.prog w' 33 ⟨lb, lo + i * 3, none⟩ (.agg (acC x (.slice da x.data.length dc)).toArray) := by rw [← hd, hx]; exact hrL
  have htl := txtB_len (t := x.key) (by omega)
  have htd := txtB_len (t := x.data) (by omega)
  refine wc_region ?_
  refine wl_val (v_ias i Try.underlying22 TF.t33 rfl rfl (by first | rfl | omega) (by first | omega | (dsimp only at *; omega))) rfl ?_
  refine wl_val (v_load rfl (hrX st.im)) rfl ?_
  refine wl_alloc TF.z33 st rfl ?_
  intro b5 w st
  refine wl_storeW (cs := (acC x (.slice da x.data.length dc)).toArray) 0 st rfl TF.t33 rfl rfl (by exact Ac.len hok) rfl (by exact Ac.one hok) ?_
  intro w st
  refine wl_nil ?_
  refine then_go ?_
  refine wc_seq ?_
  refine wc_region ?_
  refine wl_val (v_move' (by conv => (lhs; whnf))) rfl ?_
  refine wl_val (v_fa TF.f33_0 rfl) rfl ?_
  refine wl_val (v_load rfl (by first | exact st.rdp 0 rfl (by exact rfl) TF.t9 (by exact (Ac.g0_1 (by assumption))) | exact st.rdp 1 rfl (by exact rfl) TF.t9 (by exact (Ac.g0_1 (by assumption))) | exact st.rdp 2 rfl (by exact rfl) TF.t9 (by exact (Ac.g0_1 (by assumption))) | exact st.rdp 3 rfl (by exact rfl) TF.t9 (by exact (Ac.g0_1 (by assumption))) | exact st.rdp 4 rfl (by exact rfl) TF.t9 (by exact (Ac.g0_1 (by assumption))) | exact st.rdp 5 rfl (by exact rfl) TF.t9 (by exact (Ac.g0_1 (by assumption))) | exact st.rdp 6 rfl (by exact rfl) TF.t9 (by exact (Ac.g0_1 (by assumption))) | exact st.rdp 7 rfl (by exact rfl) TF.t9 (by exact (Ac.g0_1 (by assumption))))) rfl ?_
  refine wl_s2b Try.underlying9 Try.underlying31 Try.underlying5 rfl st rfl ?_
  intro v19 m1 w hg1 hk1 _ st
  have hok := hok.mono hg1.le
  have hmm1 : ∀ k o, m k = some o → m1 k = some o := fun k o h => hg1.le k o (hmm k o h)
  have st : St m0 m1 [] w0 w (byE v (numB L.length ++ (M.take i).flatMap actB) :: K.blk b5 (acC x (.slice da x.data.length dc)).toArray 33 :: Es) := st.perm (List.Perm.swap _ _ _)
  refine wl_call rfl (c_ctext st (by rw [List.length_append]; omega) (by omega) hk1) rfl ?_
  intro v20 w st
  refine wl_val (v_assign' (by conv => (lhs; whnf))) rfl ?_
  refine wl_nil ?_
  refine then_go ?_
  refine wc_seq ?_
  refine wc_region ?_
  refine wl_val (v_fa TF.f33_1 rfl) rfl ?_
  refine wl_val (v_load rfl (st.reads (v := .bool x.set) 1 rfl TF.t4 (Ac.g1_1 hok))) rfl ?_
  refine wl_nil ?_
  refine then_go ?_
  refine wc_cond rfl (fun h22 => ?_) (fun h22 => ?_)
  ·refine wc_draw TF.mixed ?_
   have st := st.pure (touch_drew _)
   refine fl_val 0 rfl (fun _ => (v_move' (by conv => (lhs; whnf)))) rfl (by kernel_rfl) ?_
   refine fl_val 2 rfl (fun _ => (v_fa TF.f33_2 rfl)) rfl (by kernel_rfl) ?_
   refine fl_ld 3 rfl (v_load rfl (st.reads (v := .slice da x.data.length dc) 1 rfl TF.t31 (Ac.g2_1 hok))) (by kernel_rfl) ?_
   refine fl_eff1 1 [2] [3] (by kernel_rfl) ⟨obl_ld rfl rfl rfl (v_load rfl (st.reads (v := .slice da x.data.length dc) 1 rfl TF.t31 (Ac.g2_1 hok))), trivial⟩ rfl ?_
   refine wl_call rfl (c_cnum (n := 1) st (by rw [List.length_append, List.length_append]; omega)) rfl ?_
   intro v24 w st
   refine wl_nil ⟨rfl, ?_⟩
   refine fl_eff1 4 [2] [] (by kernel_rfl) ⟨obl_ld rfl rfl rfl (v_load rfl (st.reads (v := .slice da x.data.length dc) 1 rfl TF.t31 (Ac.g2_1 hok))), trivial⟩ rfl ?_
   have e1 : (numB (1 : UInt64).toNat) = [1] := by rw [show (1 : UInt64).toNat = 1 from rfl, numB_small (by decide)]; rfl
   rw [e1] at st
   refine wl_call rfl (c_ctext st (by simp only [List.length_append, List.length_cons, List.length_nil]; omega) (by omega) hok.data) rfl ?_
   intro v27 w st
   refine wl_nil ⟨rfl, ?_⟩
   refine fl_eff1 5 [] [] (by kernel_rfl) trivial rfl ?_
   refine wl_val (v_assign' (by conv => (lhs; whnf))) rfl ?_
   refine wl_nil ⟨rfl, ?_⟩
   refine fl_nil (by kernel_rfl) trivial ?_
   refine block_go (then_go ?_)
   refine wc_region ?_
   refine wl_val (v_add' (c := ((i + 1 : Nat) : Int)) rfl rfl (by omega) (by omega) (by omega)) rfl ?_
   refine wl_val (v_move' (by conv => (lhs; whnf))) rfl ?_
   refine wl_nil ?_
   refine then_go ?_
   refine ⟨q - 1, by simp; omega, i + 1, _, m1, by omega, rfl, rfl, rfl, rfl, hmm1, ?_⟩
   have e : numB L.length ++ (M.take (i + 1)).flatMap actB = numB L.length ++ (M.take i).flatMap actB ++ txtB x.key ++ [1] ++ txtB x.data := by rw [htk, actB, h22]; simp
   rw [e]
   exact st.drop 1
  ·refine wc_region ?_
   refine wl_val (v_move' (by conv => (lhs; whnf))) rfl ?_
   refine wl_call rfl (c_cnum (n := 0) st (by rw [List.length_append, List.length_append]; omega)) rfl ?_
   intro v29 w st
   refine wl_val (v_assign' (by conv => (lhs; whnf))) rfl ?_
   refine wl_nil ?_
   refine block_go (then_go ?_)
   refine wc_region ?_
   refine wl_val (v_add' (c := ((i + 1 : Nat) : Int)) rfl rfl (by omega) (by omega) (by omega)) rfl ?_
   refine wl_val (v_move' (by conv => (lhs; whnf))) rfl ?_
   refine wl_nil ?_
   refine then_go ?_
   refine ⟨q - 1, by simp; omega, i + 1, _, m1, by omega, rfl, rfl, rfl, rfl, hmm1, ?_⟩
   have e0 : (numB (0 : UInt64).toNat) = [0] := by rw [show (0 : UInt64).toNat = 0 from rfl, numB_small (by decide)]; rfl
   rw [e0] at st
   have e : numB L.length ++ (M.take (i + 1)).flatMap actB = numB L.length ++ (M.take i).flatMap actB ++ txtB x.key ++ [0] := by rw [htk, actB, h22]; simp
   rw [e]
   exact st.drop 1
 ·refine wc_exit (then_exit (then_exit (block_hit ?_)))
  refine then_go ?_
  refine wc_seq ?_
  refine wc_region ?_
  refine wl_val (v_move' (by conv => (lhs; whnf))) rfl ?_
  refine wl_val (v_assign' (by conv => (lhs; whnf))) rfl ?_
  refine wl_nil ?_
  refine then_go ?_
  refine wc_ret ?_
  have hiL : i = M.length := by omega
  subst hiL
  rw [List.take_length] at st
  exact ret1 rfl ⟨m', hmm, by unfold batB; rw [hMl]; exact st⟩
end
end Go.Proofs.Ytladpaehbolghaa

namespace Go.Proofs.Ytladpaehbolghaa
open Go Go.RowKit K SH GC JR
theorem cntR_none {most : Nat} {b : List UInt8} (h : numR 0 b = none) : cntR most b = none := by unfold cntR; rw [h]
theorem cntR_some {most n : Nat} {b r : List UInt8} (h : numR 0 b = some (n, r)) : cntR most b = if most < n then none else some (n, r) := by unfold cntR; rw [h]
section
variable {m0 m : Mem} {F : List Nat} {w0 w : World} {Es : List Ent}
theorem c_rdcount {rb i most : Nat} {bv : Value} {b : List UInt8} (st : St m0 m F w0 w (rdE rb bv i :: Es)) (hb : SlM m bv 1 b.length (bs b)) (hl : b.length ≤ 1099511627776) (hi : i ≤ b.length) (hm : most ≤ 1099511627776) :
  RetP Try.prog 44 #[rdP rb, .int .i64 most] w faultV (fun v w' => ∃ n j, i < j ∧ j ≤ b.length ∧ n ≤ most ∧ cntR most (b.drop i) = some (n, b.drop j) ∧ v = .int .i64 n ∧ St m0 m F w0 w' (rdE rb bv j :: Es)) (fun w' => cntR most (b.drop i) = none ∧ ∃ j, j ≤ b.length ∧ St m0 m F w0 w' (rdE rb bv j :: Es)) := by
 refine ret_ofP Try.call44 Try.func44 rfl Try.ntmps44 Try.results44 rfl ?_
 refine wc_seq ?_
 refine wc_region ?_
 refine wl_val (v_assign' (by conv => (lhs; whnf))) rfl ?_
 refine wl_nil ?_
 refine then_go ?_
 refine wc_seq ?_
 refine wc_region ?_
 refine wl_val (v_move' (by conv => (lhs; whnf))) rfl ?_
 refine wl_callP rfl (c_rdnum st hb hl hi) rfl (fun w' h => ⟨rfl, cntR_none h.1, h.2⟩) ?_
 rintro v7 w ⟨n, j, hij, hj, hn, rfl, st⟩
 have hc := cntR_some (most := most) hn
 have hn64 := (numR_lt (by omega) hn).1
 have hn64 : n < 18446744073709551616 := hn64
 refine wl_val (v_assign' (by conv => (lhs; whnf))) rfl ?_
 refine wl_nil ?_
 refine then_go ?_
 refine wc_seq ?_
 refine wc_seq ?_
 refine wc_region ?_
 refine wl_val (v_move' (by conv => (lhs; whnf))) rfl ?_
 refine wl_val (wl_valD (v_lss rfl rfl) (q := false) (decide_eq_false (by omega))) rfl ?_
 refine wl_val (v_move' (by conv => (lhs; whnf))) rfl ?_
 refine wl_on rfl rfl ?_
 refine wl_val (v_move' (by conv => (lhs; whnf))) rfl ?_
 refine wl_on rfl rfl ?_
 refine wl_val (v_move' (by conv => (lhs; whnf))) rfl ?_
 refine wl_on rfl rfl ?_
 refine wl_val (v_convi_64 Try.underlying3 Try.underlying47 rfl) rfl ?_
 refine wl_on rfl rfl ?_
 refine wl_val (wl_valD (v_gtr (a := ((UInt64.ofNat n).toNat : Int)) (b := ((UInt64.ofNat most).toNat : Int)) rfl rfl) (q := decide (most < n)) (by rw [UInt64.toNat_ofNat', UInt64.toNat_ofNat', Nat.mod_eq_of_lt hn64, Nat.mod_eq_of_lt (by omega)]; simp)) rfl ?_
 refine wl_val (v_pick rfl) rfl ?_
 refine wl_nil ?_
 refine then_go ?_
 refine wc_cond rfl (fun h15 => ?_) (fun h15 => ?_)
 ·refine wc_region ?_
  refine wl_val (v_move' (by conv => (lhs; whnf))) rfl ?_
  exact wl_callP rfl c_fail rfl (fun w' h => by subst h; exact ⟨rfl, by rw [hc, if_pos (of_decide_eq_true h15)], j, hj, st⟩) (fun _ _ h => h.elim)
 ·refine wc_skip ?_
  refine then_go ?_
  refine wc_seq ?_
  have hnm : n ≤ most := by have := of_decide_eq_false h15; omega
  rw [if_neg (by omega)] at hc
  refine wc_region ?_
  refine wl_val (v_move' (by conv => (lhs; whnf))) rfl ?_
  refine wl_val (v_to (v' := .int .i64 (n : Int)) (v_conv64i Try.underlying47 Try.underlying3 rfl (by rw [UInt64.toNat_ofNat', Nat.mod_eq_of_lt hn64]; omega)) (by rw [UInt64.toNat_ofNat', Nat.mod_eq_of_lt hn64])) rfl ?_
  refine wl_val (v_assign' (by conv => (lhs; whnf))) rfl ?_
  refine wl_nil ?_
  refine then_go ?_
  refine wc_ret ?_
  exact toP (ret1 rfl ⟨n, j, hij, hj, hnm, hc, rfl, st⟩)
theorem c_rdtext {rb i : Nat} {bv : Value} {b : List UInt8} (st : St m0 m [] w0 w (rdE rb bv i :: Es)) (hb : SlM m bv 1 b.length (bs b)) (hl : b.length ≤ 1099511627776) (hi : i ≤ b.length) :
  RetP Try.prog 45 #[rdP rb] w faultV (fun v w' => ∃ m' t j, (∀ k o, m k = some o → m' k = some o) ∧ i < j ∧ j ≤ b.length ∧ txtR (b.drop i) = some (t, b.drop j) ∧ SlM m' v 1 t.length (bs t) ∧ St m0 m' [] w0 w' (rdE rb bv j :: Es)) (fun w' => txtR (b.drop i) = none ∧ ∃ j, j ≤ b.length ∧ St m0 m [] w0 w' (rdE rb bv j :: Es)) := by
 obtain ⟨ba, bc, rfl, hbc⟩ := hb.opn
 refine ret_ofP Try.call45 Try.func45 rfl Try.ntmps45 Try.results45 rfl ?_
 refine wc_seq ?_
 refine wc_region ?_
 refine wl_val (v_assign' (by conv => (lhs; whnf))) rfl ?_
 refine wl_nil ?_
 refine then_go ?_
 refine wc_seq ?_
 refine wc_region ?_
 refine wl_val (v_move' (by conv => (lhs; whnf))) rfl ?_
 refine wl_callP rfl (c_rdcount (most := 1048576) st hb hl hi (by decide)) rfl (fun w' h => ⟨rfl, by unfold txtR; rw [h.1], h.2⟩) ?_
 rintro v5 w ⟨n, j, hij, hj, hnm, hc, rfl, st⟩
 have hT : txtR (b.drop i) = takeR n (b.drop j) := by unfold txtR; rw [hc]
 refine wl_val (v_assign' (by conv => (lhs; whnf))) rfl ?_
 refine wl_nil ?_
 refine then_go ?_
 refine wc_seq ?_
 refine wc_seq ?_
 refine wc_draw TF.mixed ?_
 have st := st.pure (touch_drew _)
 refine fl_val 0 rfl (fun _ => (v_move' (by conv => (lhs; whnf)))) rfl (by kernel_rfl) ?_
 refine fl_val 1 rfl (fun _ => (v_move' (by conv => (lhs; whnf)))) rfl (by kernel_rfl) ?_
 refine fl_val 2 rfl (fun _ => (v_nil rfl)) rfl (by kernel_rfl) ?_
 refine fl_val 3 rfl (fun _ => (v_fa TF.f115_0 rfl)) rfl (by kernel_rfl) ?_
 refine fl_ld 4 rfl (v_load rfl (st.reads (v := .slice ba b.length bc) 0 rfl TF.t31 rfl)) (by kernel_rfl) ?_
 refine fl_val 5 rfl (fun _ => (v_len_s Try.underlying31 rfl)) rfl (by kernel_rfl) ?_
 refine fl_val 6 rfl (fun _ => (v_move' (by conv => (lhs; whnf)))) rfl (by kernel_rfl) ?_
 refine fl_val 7 rfl (fun _ => (v_nil rfl)) rfl (by kernel_rfl) ?_
 refine fl_val 8 rfl (fun _ => (v_fa TF.f115_1 rfl)) rfl (by kernel_rfl) ?_
 refine fl_ld 9 rfl (v_load rfl (st.reads (v := .int .i64 (j : Int)) 0 rfl TF.t3 rfl)) (by kernel_rfl) ?_
 refine fl_val 10 rfl (fun _ => (v_sub' (c := ((b.length - j : Nat) : Int)) rfl rfl (by omega) (by omega) (by omega))) rfl (by kernel_rfl) ?_
 refine fl_val 11 rfl (fun _ => (v_gtr rfl rfl)) rfl (by kernel_rfl) ?_
 refine fl_nil (by kernel_rfl) ⟨obl_ld rfl rfl rfl (v_load rfl (st.reads (v := .int .i64 (j : Int)) 0 rfl TF.t3 rfl)), obl_ld rfl rfl rfl (v_load rfl (st.reads (v := .slice ba b.length bc) 0 rfl TF.t31 rfl)), trivial⟩ ?_
 refine then_go ?_
 refine wc_cond rfl (fun h17 => ?_) (fun h17 => ?_)
 ·refine wc_region ?_
  refine wl_val (v_move' (by conv => (lhs; whnf))) rfl ?_
  exact wl_callP rfl c_fail rfl (fun w' h => by subst h; exact ⟨rfl, by rw [hT]; unfold takeR; rw [if_pos (by have := of_decide_eq_true h17; rw [List.length_drop]; omega)], j, hj, st⟩) (fun _ _ h => h.elim)
 ·refine wc_skip ?_
  refine then_go ?_
  refine wc_seq ?_
  have hnl : j + n ≤ b.length := by have := of_decide_eq_false h17; omega
  have hT : txtR (b.drop i) = some ((b.drop j).take n, b.drop (j + n)) := by rw [hT]; unfold takeR; rw [if_neg (by rw [List.length_drop]; omega), List.drop_drop]
  refine wc_region ?_
  refine wl_val (v_move' (by conv => (lhs; whnf))) rfl ?_
  refine wl_val (v_nil rfl) rfl ?_
  refine wl_val (v_fa TF.f115_1 rfl) rfl ?_
  refine wl_val (v_load rfl (st.reads (v := .int .i64 (j : Int)) 0 rfl TF.t3 rfl)) rfl ?_
  refine wl_val (v_move' (by conv => (lhs; whnf))) rfl ?_
  refine wl_val (v_add' (c := ((j + n : Nat) : Int)) rfl rfl (by omega) (by omega) (by omega)) rfl ?_
  refine wl_val (v_nil rfl) rfl ?_
  refine wl_val (v_fa TF.f115_1 rfl) rfl ?_
  refine wl_store1 (v := .int .i64 ((j + n : Nat) : Int)) 0 st rfl TF.t3 rfl rfl rfl (lt_ok rfl) ?_
  intro w st
  have st : St m0 m [] w0 w (rdE rb (.slice ba b.length bc) (j + n) :: Es) := st
  refine wl_nil ?_
  refine then_go ?_
  refine wc_seq ?_
  have st := nilRow st 5 1
  have st : St m0 m [] w0 w (byE (.slice none 0 0) [] :: rdE rb (.slice ba b.length bc) (j + n) :: Es) := st
  have hpart := hb.partB j (j + n) (by omega) hnl
  have hpe : (b.drop j).take (j + n - j) = (b.drop j).take n := by rw [Nat.add_sub_cancel_left]
  rw [hpe] at hpart
  have htl : ((b.drop j).take n).length = n := by rw [List.length_take, List.length_drop]; omega
  refine wc_draw TF.mixed ?_
  have st := st.pure (touch_drew _)
  refine fl_val 0 rfl (fun _ => (v_move' (by conv => (lhs; whnf)))) rfl (by kernel_rfl) ?_
  refine fl_val 1 rfl (fun _ => (v_nil rfl)) rfl (by kernel_rfl) ?_
  refine fl_val 2 rfl (fun _ => (v_fa TF.f115_0 rfl)) rfl (by kernel_rfl) ?_
  refine fl_ld 3 rfl (v_load rfl (st.reads (v := .slice ba b.length bc) 1 rfl TF.t31 rfl)) (by kernel_rfl) ?_
  refine fl_val 4 rfl (fun _ => (v_move' (by conv => (lhs; whnf)))) rfl (by kernel_rfl) ?_
  refine fl_val 5 rfl (fun _ => (v_nil rfl)) rfl (by kernel_rfl) ?_
  refine fl_val 6 rfl (fun _ => (v_fa TF.f115_1 rfl)) rfl (by kernel_rfl) ?_
  refine fl_ld 7 rfl (v_load rfl (st.reads (v := .int .i64 ((j + n : Nat) : Int)) 1 rfl TF.t3 rfl)) (by kernel_rfl) ?_
  refine fl_val 8 rfl (fun _ => (v_move' (by conv => (lhs; whnf)))) rfl (by kernel_rfl) ?_
  refine fl_val 9 rfl (fun _ => (v_sub' (c := (j : Int)) rfl rfl (by omega) (by omega) (by omega))) rfl (by kernel_rfl) ?_
  refine fl_val 10 rfl (fun _ => (v_move' (by conv => (lhs; whnf)))) rfl (by kernel_rfl) ?_
  refine fl_val 11 rfl (fun _ => (v_nil rfl)) rfl (by kernel_rfl) ?_
  refine fl_val 12 rfl (fun _ => (v_fa TF.f115_1 rfl)) rfl (by kernel_rfl) ?_
  refine fl_ld 13 rfl (v_load rfl (st.reads (v := .int .i64 ((j + n : Nat) : Int)) 1 rfl TF.t3 rfl)) (by kernel_rfl) ?_
  refine fl_val 14 rfl (fun _ => (v_sls j (j + n) Try.underlying31 TF.t5 rfl ⟨_, _, rfl, rfl⟩ ⟨_, _, rfl, rfl⟩ (by omega) (by omega))) rfl (by kernel_rfl) ?_
  refine fl_eff1 15 [12, 11, 10, 9, 8, 6, 5, 4, 2, 1, 0] [13, 7, 3] (by kernel_rfl) ⟨obl_ld rfl rfl rfl (v_load rfl (st.reads (v := .int .i64 ((j + n : Nat) : Int)) 1 rfl TF.t3 rfl)), obl_ld rfl rfl rfl (v_load rfl (st.reads (v := .int .i64 ((j + n : Nat) : Int)) 1 rfl TF.t3 rfl)), obl_ld rfl rfl rfl (v_load rfl (st.reads (v := .slice ba b.length bc) 1 rfl TF.t31 rfl)), trivial⟩ rfl ?_
  refine wl_appB (l2 := (b.drop j).take n) st Try.underlying31 Try.underlying31 (.inr ⟨_, rfl⟩) TF.t5 TF.z5 rfl rfl (hpart.src st.im (one_bs _)) (by simp; omega) (by simp; omega) rfl ?_
  intro v43 w st hv43
  refine wl_nil ⟨rfl, ?_⟩
  refine fl_eff1 16 [] [] (by kernel_rfl) ⟨obl_ld rfl rfl rfl (v_load rfl (st.reads (v := .int .i64 ((j + n : Nat) : Int)) 1 rfl TF.t3 rfl)), obl_ld rfl rfl rfl (v_load rfl (st.reads (v := .int .i64 ((j + n : Nat) : Int)) 1 rfl TF.t3 rfl)), obl_ld rfl rfl rfl (v_load rfl (st.reads (v := .slice ba b.length bc) 1 rfl TF.t31 rfl)), trivial⟩ rfl ?_
  refine wl_val (v_assign' (by conv => (lhs; whnf))) rfl ?_
  refine wl_nil ⟨rfl, ?_⟩
  refine fl_nil (by kernel_rfl) trivial ?_
  refine then_go ?_
  refine wc_ret ?_
  have st0 := st
  obtain ⟨m1, hg1, hm1, st⟩ := st.freezeR (i := 0) rfl (by simp)
  exact toP (ret1 rfl ⟨m1, (b.drop j).take n, j + n, hg1.le, by omega, hnl, hT, row_SlM (m := m1) (st0.at (i := 0) rfl) hm1, st⟩)
end
end Go.Proofs.Ytladpaehbolghaa

namespace Go.Proofs.Ytladpaehbolghaa
open Go Go.RowKit K SH GC JR
abbrev errE (eb : Nat) (z : Nat) : Ent := K.blk eb #[.int .i64 z] 28
section
variable {m0 m : Mem} {F : List Nat} {w0 w : World} {Es : List Ent}
theorem ifc20 : Try.prog.underlying 20 = some (.interface (Try.prog.methodsAt 20)) := by kernel_rfl
theorem c_catch {eb z : Nat} (st : St m0 m F w0 w (errE eb z :: Es)) : CallsD Try.prog 62 #[.pointer (some ⟨eb, 0, none⟩)] (.panicking (thrown faultV)) w fun e u' w' => e = .returned (.tuple #[]) ∧ u' = .panicking [{ v := faultV, recovered := true }] ∧ St m0 m F w0 w' (errE eb 3 :: Es) := by
 refine callsD_of_wpS Try.func62 rfl fun c₀ cs hu => ?_
 rw [Try.ntmps62]
 have ha := (has_args (args := [.pointer (some ⟨eb, 0, none⟩)]) (n := 10) rfl).put (d := 4) rfl faultV
 refine wpS_seq (wpS_recover (v := faultV) (cs' := { c₀ with mode := .panicking [{ v := faultV, recovered := true }] } :: cs) (by simp [recoverD, hu]) (wpS_of_wp (Code.wp_mono ?_ ((?_ : WC Try.prog 10 (fun e _ w' => e = .normal ∧ St m0 m F w0 w' (errE eb 3 :: Es)) _ _ w) [] _ ha))))
 ·rintro e a' w' ⟨r', ha', rfl, st⟩
  exact ⟨ha'.defers, _, rfl, _, results_of (vs := []) ha' Try.results62 trivial, rfl, rfl, st⟩
 ·refine wc_block ?_
  refine wc_seq ?_
  refine wc_region ?_
  refine wl_val (v_eqIH ifc20 rfl rfl) rfl ?_
  refine wl_nil ?_
  refine then_go ?_
  refine wc_false rfl ?_
  refine wc_seq ?_
  refine wc_region ?_
  refine wl_val (v_tassert Try.underlying113 trivial rfl) rfl ?_
  refine wl_val (v_extract rfl rfl) rfl ?_
  refine wl_val (v_extract rfl rfl) rfl ?_
  refine wl_nil ?_
  refine then_go ?_
  refine wc_true rfl ?_
  refine wc_seq ?_
  refine wc_region ?_
  refine wl_alloc TF.z113 st rfl ?_
  intro b2 w st
  refine wl_storeW (cs := #[]) 0 st rfl TF.t113 rfl rfl rfl rfl (by intro u hu; cases hu) ?_
  intro w st
  refine wl_nil ?_
  refine then_go ?_
  refine wc_region ?_
  refine wl_store1 (v := .int .i64 (3 : Nat)) 1 st rfl TF.t28 rfl rfl rfl (lt_ok rfl) ?_
  intro w st
  refine wl_nil ?_
  refine block_go ?_
  exact ⟨rfl, st.drop 0⟩
theorem c_idle {eb z : Nat} (st : St m0 m F w0 w (errE eb z :: Es)) : CallsD Try.prog 62 #[.pointer (some ⟨eb, 0, none⟩)] .returning w fun e u' w' => e = .returned (.tuple #[]) ∧ u' = .returning ∧ St m0 m F w0 w' (errE eb z :: Es) := by
 refine callsD_of_wpS Try.func62 rfl fun c₀ cs hu => ?_
 rw [Try.ntmps62]
 have ha := (has_args (args := [.pointer (some ⟨eb, 0, none⟩)]) (n := 10) rfl).put (d := 4) rfl .nilIface
 refine wpS_seq (wpS_idle (by simp [recoverD, hu]) (wpS_of_wp (Code.wp_mono ?_ ((?_ : WC Try.prog 10 (fun e _ w' => e = .normal ∧ St m0 m F w0 w' (errE eb z :: Es)) _ _ w) [] _ ha))))
 ·rintro e a' w' ⟨r', ha', rfl, st⟩
  exact ⟨ha'.defers, .returning, by rw [← hu], _, results_of (vs := []) ha' Try.results62 trivial, rfl, rfl, st⟩
 ·refine wc_block ?_
  refine wc_seq ?_
  refine wc_region ?_
  refine wl_val (v_eqIN ifc20 rfl) rfl ?_
  refine wl_nil ?_
  refine then_go ?_
  refine wc_true rfl ?_
  refine wc_region ?_
  refine wl_val (v_assign' (by conv => (lhs; whnf))) rfl ?_
  refine wl_nil ?_
  refine block_go ?_
  exact ⟨rfl, st⟩
abbrev catchD (eb : Nat) : Deferred := { target := .fn (.func 62) #[.pointer (some ⟨eb, 0, none⟩)], args := #[] }
theorem leaves_catch {n eb z' : Nat} {a : Act} {r : Fr} {R : Ending → World → Prop} {u u' : FrameMode} (ha : Has n [catchD eb] a r) (g4 : r 4 = .pointer (some ⟨eb, 0, none⟩)) (hu : u ≠ .run) (hs : settle u' = .returning)
  (hc : CallsD Try.prog 62 #[.pointer (some ⟨eb, 0, none⟩)] u w fun e v w' => e = .returned (.tuple #[]) ∧ v = u' ∧ St m0 m F w0 w' (errE eb z' :: Es)) (hR : ∀ w', St m0 m F w0 w' Es → R (.returned (.int .i64 (z' : Nat))) w') :
  Leaves Try.prog Try.f42 a.tmps R [catchD eb] u w := by
 refine leaves_cons hu (f := 62) (args := #[.pointer (some ⟨eb, 0, none⟩)]) (by simp [invoke, Try.call62]) (hc.mono ?_)
 rintro e v w' ⟨rfl, rfl, st⟩
 show Leaves _ _ _ _ [] (settle _) _
 rw [hs]
 exact ⟨_, results_of (vs := [.int .i64 (z' : Nat)]) ha Try.results42 ⟨⟨_, g4, st.reads 0 rfl TF.t28 rfl⟩, trivial⟩, hR w' (st.drop 0)⟩
theorem c_cread {bv : Value} {b : List UInt8} {gf : FuncId} {cap : List Value} {RR : Mem → Nat → List Ent → Prop} {XX : Mem → List Ent → Prop} (st : St m0 m F w0 w Es) (hb : SlM m bv 1 b.length (bs b))
  (hf : ∀ rb eb w1, St m0 m F w0 w1 (rdE rb bv 0 :: errE eb 0 :: Es) → RetP Try.prog gf (rdP rb :: cap).toArray w1 faultV (fun _ w2 => ∃ m2 j Es2, RR m2 j Es2 ∧ St m0 m2 F w0 w2 (rdE rb bv j :: errE eb 0 :: Es2)) (fun w2 => ∃ m2 Es2, XX m2 Es2 ∧ St m0 m2 F w0 w2 (errE eb 0 :: Es2))) :
  Ret Try.prog 42 #[bv, .func (.func gf) #[] cap.toArray] w fun v w' => (∃ m2 j Es2, RR m2 j Es2 ∧ v = .int .i64 (if j = b.length then 0 else 3 : Nat) ∧ St m0 m2 F w0 w' Es2) ∨ (∃ m2 Es2, XX m2 Es2 ∧ v = .int .i64 (3 : Nat) ∧ St m0 m2 F w0 w' Es2) := by
 obtain ⟨_, ba, bc, rfl, _⟩ := id hb
 refine ⟨Try.call42, calls_ofD Try.func42 rfl Try.ntmps42 rfl (args := [.slice ba b.length bc, .func (.func gf) #[] cap.toArray]) ?_⟩
 refine wd_seqc ?_
 refine wc_region ?_
 refine wl_alloc TF.z28 st rfl ?_
 intro eb w st
 have st : St m0 m F w0 w (errE eb 0 :: Es) := st
 refine wl_nil ?_
 refine then_go ?_
 refine wd_seqd (wd_defer rfl ?_)
 refine wd_of_wc ?_
 refine wc_seq ?_
 refine wc_region ?_
 refine wl_val (v_move' (by conv => (lhs; whnf))) rfl ?_
 refine wl_val (v_build (c' := #[.slice ba b.length bc, .int .i64 0]) [(0, .slice ba b.length bc)] TF.z115 TF.p115 rfl ⟨0, 1, rfl, rfl, by decide, rfl⟩) rfl ?_
 refine wl_box rfl st rfl ?_
 intro rb w st
 have st : St m0 m F w0 w (rdE rb (.slice ba b.length bc) 0 :: errE eb 0 :: Es) := st
 refine wl_val (v_assign' (by conv => (lhs; whnf))) rfl ?_
 refine wl_nil ?_
 refine then_go ?_
 refine wc_seq ?_
 refine wc_region ?_
 refine wl_val (v_move' (by conv => (lhs; whnf))) rfl ?_
 refine wl_val (v_move' (by conv => (lhs; whnf))) rfl ?_
 refine wl_callvP rfl (by simp; rfl) (hf rb eb w st) rfl ?_ ?_
 ·rintro w' ⟨m2, Es2, hX, st⟩
  intro a ha
  exact leaves_catch ha rfl (by simp) rfl (c_catch st) fun w' st => ⟨_, rfl, .inr ⟨m2, Es2, hX, rfl, st⟩⟩
 rintro v12 w ⟨m2, j, Es2, hR, st⟩
 refine wl_nil ?_
 refine then_go ?_
 refine wc_seq ?_
 refine wc_seq ?_
 refine wc_draw TF.mixed ?_
 have st := st.pure (touch_drew _)
 refine fl_val 0 rfl (fun _ => (v_move' (by conv => (lhs; whnf)))) rfl (by kernel_rfl) ?_
 refine fl_val 1 rfl (fun _ => (v_nil rfl)) rfl (by kernel_rfl) ?_
 refine fl_val 2 rfl (fun _ => (v_fa TF.f115_1 rfl)) rfl (by kernel_rfl) ?_
 refine fl_ld 3 rfl (v_load rfl (st.reads (v := .int .i64 (j : Int)) 0 rfl TF.t3 rfl)) (by kernel_rfl) ?_
 refine fl_val 4 rfl (fun _ => (v_move' (by conv => (lhs; whnf)))) rfl (by kernel_rfl) ?_
 refine fl_val 5 rfl (fun _ => (v_nil rfl)) rfl (by kernel_rfl) ?_
 refine fl_val 6 rfl (fun _ => (v_fa TF.f115_0 rfl)) rfl (by kernel_rfl) ?_
 refine fl_ld 7 rfl (v_load rfl (st.reads (v := .slice ba b.length bc) 0 rfl TF.t31 rfl)) (by kernel_rfl) ?_
 refine fl_val 8 rfl (fun _ => (v_len_s Try.underlying31 rfl)) rfl (by kernel_rfl) ?_
 refine fl_val 9 rfl (fun _ => (v_neq rfl rfl)) rfl (by kernel_rfl) ?_
 refine fl_nil (by kernel_rfl) ⟨obl_ld rfl rfl rfl (v_load rfl (st.reads (v := .slice ba b.length bc) 0 rfl TF.t31 rfl)), obl_ld rfl rfl rfl (v_load rfl (st.reads (v := .int .i64 (j : Int)) 0 rfl TF.t3 rfl)), trivial⟩ ?_
 refine then_go ?_
 refine wc_cond rfl (fun h22 => ?_) (fun h22 => ?_)
 ·refine wc_region ?_
  refine wl_val (v_build (c' := #[]) [] TF.z113 TF.p113 rfl rfl) rfl ?_
  refine wl_val (v_mkiface Try.underlying113 trivial rfl) rfl ?_
  refine wl_panic rfl ?_
  have hj : ¬ j = b.length := by have := of_decide_eq_true h22; omega
  intro a ha
  exact leaves_catch ha rfl (by simp) rfl (c_catch (st.drop 0)) fun w' st => ⟨_, rfl, .inl ⟨m2, j, Es2, hR, by rw [if_neg hj], st⟩⟩
 ·refine wc_skip ?_
  refine then_go ?_
  refine wc_seq ?_
  refine wc_region ?_
  refine wl_store1 (v := .int .i64 (0 : Nat)) 1 st rfl TF.t28 rfl rfl rfl (lt_ok rfl) ?_
  intro w st
  refine wl_nil ?_
  refine then_go ?_
  refine wc_ret ?_
  have hj : j = b.length := by have := of_decide_eq_false h22; omega
  intro a ha
  exact leaves_catch ha rfl (by simp) rfl (c_idle (z := 0) (st.drop 0)) fun w' st => ⟨_, rfl, .inl ⟨m2, j, Es2, hR, by rw [if_pos hj], st⟩⟩
end
end Go.Proofs.Ytladpaehbolghaa
