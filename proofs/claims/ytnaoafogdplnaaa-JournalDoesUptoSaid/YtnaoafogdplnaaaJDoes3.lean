/-
  Several texts as one: Je Jf Jg Jh Da Db Dc Dd Ji Jj Jk Jl Jm.
-/
import Derived.Test.YtnaoafogdplnaaaJDoes2

namespace Go.Proofs.Ytnaoafogdplnaaa
open Go Go.RowKit K SH DK JR
section
variable {P : Program} {n : Nat} {ops : Array Oper} {Q : Po} {rest : List Oper} {r : Fr} {w : World} {d : Nat} {ty : TypeId} {pos : String} {after : Array Edge} {m0 m : Mem} {w0 : World} {Es : List Ent}
theorem wl_byteF {x : Operand} (c : UInt8) (hx : ev r x = u8 c) (st : St m0 m [] w0 w Es) (hd : Nat.blt d n = true)
  (k : ∀ m' v' w', (∀ k o, m k = some o → m' k = some o) → St m0 m' [] w0 w' Es → SlM m' v' 1 [c].length (bs [c]) → WL Try.prog n ops Q rest (upd d v' r) w') :
  WL Try.prog n ops Q (⟨some d, .buildSlice 30 1 #[(0, x)], ty, pos, after, none⟩ :: rest) r w := by
 refine wl_byteR c Try.underlying30 TF.t5 TF.z5 hx st hd fun b w' st' => ?_
 obtain ⟨m1, hg1, hm1, st1⟩ := st'.freezeR (i := 0) rfl (by simp)
 exact k m1 _ w' hg1.le st1 (row_SlM (m := m1) (st'.at (i := 0) rfl) hm1)
end
section
variable {m : Mem} {wI : World}
theorem c_padded {v : Value} {l : By} (him : Im m wI) (hb : SlM m v 1 l.length (bs l)) (hl : l.length ≤ 1099511627776) : Ret Try.prog 59 #[v] wI fun v' w' => Out m wI w' fun m' => SlM m' v' 1 (pad64 l).length (bs (pad64 l)) := by
 have st := St.start him
 obtain ⟨ba, bc, rfl, hbc⟩ := hb.opn
 have hpl := length_pad64 l
 refine ret_of Try.call59 Try.func59 rfl Try.ntmps59 Try.results59 rfl ?_
 refine wc_seq ?_
 refine wc_region ?_
 refine wl_val (v_assign' (by conv => (lhs; whnf))) rfl ?_
 refine wl_nil ?_
 refine then_go ?_
 refine wc_seq ?_
 refine wc_region ?_
 refine wl_val (v_move' (by conv => (lhs; whnf))) rfl ?_
 refine wl_val (v_len_s Try.underlying30 rfl) rfl ?_
 refine wl_val (v_add' (c := ((l.length + 63 : Nat) : Int)) rfl rfl (by omega) (by omega) (by omega)) rfl ?_
 refine wl_val (v_to (v' := .int .i64 (((l.length + 63) / 64 : Nat) : Int)) (v_quo' rfl rfl (by omega) (by omega) rfl (by omega)) (by rw [Int.natCast_ediv]; rfl)) rfl ?_
 refine wl_val (v_mul' (c := (((l.length + 63) / 64 * 64 : Nat) : Int)) rfl rfl (by omega) (by omega) (by omega)) rfl ?_
 refine wl_val (v_assign' (by conv => (lhs; whnf))) rfl ?_
 refine wl_nil ?_
 refine then_go ?_
 refine wc_seq ?_
 refine wc_region ?_
 refine wl_val (v_move' (by conv => (lhs; whnf))) rfl ?_
 refine wl_make (l := (l.length + 63) / 64 * 64) (c := (l.length + 63) / 64 * 64) Try.underlying30 TF.t5 TF.z5 rfl rfl rfl rfl (by omega) (by omega) (by omega) (by omega) st rfl ?_
 intro b11 w st
 have st : St m m [] wI w [K.blk b11 (bs (List.replicate ((l.length + 63) / 64 * 64) 0)).toArray 5] := by
  have e : madeCells (Value.int .u8 0).cells ((l.length + 63) / 64 * 64 * 1) = (bs (List.replicate ((l.length + 63) / 64 * 64) 0)).toArray := by
   rw [show (Value.int .u8 0).cells = Array.replicate (0 + 1) (Value.int .u8 0) from rfl, madeCells_rep, Nat.mul_one]
   simp [bs, u8]
  rw [e] at st
  exact st
 refine wl_val (v_assign' (by conv => (lhs; whnf))) rfl ?_
 refine wl_nil ?_
 refine then_go ?_
 refine wc_seq ?_
 refine wc_region ?_
 refine wl_val (v_move' (by conv => (lhs; whnf))) rfl ?_
 refine wl_val (v_move' (by conv => (lhs; whnf))) rfl ?_
 refine wl_copy (news := bs l) (j := l.length) 0 st rfl Try.underlying30 TF.t5 rfl rfl (hb.src st.im (one_bs _)) (by simp [length_bs]; omega) rfl ?_
 intro w st
 have e : setSeg (bs (List.replicate ((l.length + 63) / 64 * 64) 0)).toArray 0 ((bs l).take (min l.length ((l.length + 63) / 64 * 64) * 1)) = (bs (pad64 l)).toArray := by
  rw [List.take_of_length_le (by rw [length_bs]; omega)]
  unfold setSeg
  apply congrArg List.toArray
  simp only [List.take_zero, List.nil_append, Nat.zero_add, length_bs, pad64]
  rw [bs, bs, bs, List.map_append, ← List.map_drop, List.drop_replicate]
  congr 3
  omega
 have st : St m m [] wI w [K.blk b11 (bs (pad64 l)).toArray 5] := by rw [← e]; exact st
 obtain ⟨m1, hg1, hm1, st⟩ := st.freeze (i := 0) rfl (by simp)
 have hs : SlM m1 (.slice (some ⟨b11, 0, none⟩) ((l.length + 63) / 64 * 64) ((l.length + 63) / 64 * 64)) 1 (pad64 l).length (bs (pad64 l)) := by
  have := SlM.ofBlock (o := 0) (cap := (pad64 l).length) (l := pad64 l) (pre := []) (post := []) hm1 (by simp) rfl (Nat.le_refl _)
  rw [hpl] at this ⊢
  exact this
 refine wl_nil ?_
 refine then_go ?_
 refine wc_seq ?_
 refine wc_region ?_
 refine wl_val (v_move' (by conv => (lhs; whnf))) rfl ?_
 refine wl_val (v_assign' (by conv => (lhs; whnf))) rfl ?_
 refine wl_nil ?_
 refine then_go ?_
 refine wc_ret ?_
 exact ret1 rfl (st.out hs)
theorem dig_slM {m1 : Mem} {b : Nat} {t : TypeId} {fr : Nat × Nat} {l : By} (h : m1 b = some (.cells (bs l).toArray t fr)) (hl : l.length = 32) : SlM m1 (.slice (some ⟨b, 0 + 0 * 1, none⟩) (32 - 0) (32 - 0)) 1 l.length (bs l) := by
 have := SlM.ofBlock (o := 0) (cap := 32) (l := l) (pre := []) (post := []) h (by simp) rfl (by omega)
 rw [hl] at this ⊢
 exact this
theorem c_rtext {g s : UInt64} {v : Value} {b : By} (him : Im m wI) (hb : SlM m v 1 b.length (bs b)) (hl : b.length ≤ 1000000000) : Ret Try.prog 33 #[u64 g, u64 s, v] wI fun v' w' => Out m wI w' fun m' => SlM m' v' 1 (textB g s b).length (bs (textB g s b)) := by
 have st := St.start him
 have h8 := length_num8 g
 have h9 := length_num8 s
 refine ret_of Try.call33 Try.func33 rfl Try.ntmps33 Try.results33 rfl ?_
 refine wc_seq ?_
 refine wc_region ?_
 refine wl_val (v_assign' (by conv => (lhs; whnf))) rfl ?_
 refine wl_nil ?_
 refine then_go ?_
 refine wc_seq ?_
 refine wc_region ?_
 refine wl_byteF 74 rfl st rfl ?_
 intro m1 v7 w hg1 st hp1
 have hb := hb.mono hg1
 refine wl_val (v_move' (by conv => (lhs; whnf))) rfl ?_
 refine wl_call rfl (c_rnumber st.im) rfl ?_
 rintro v9 w ⟨t9, mm9, gr9, im9, hp2⟩
 have st := st.grown gr9 t9 im9
 have hb := hb.mono gr9.le
 have hp1 := hp1.mono gr9.le
 refine wl_val (v_move' (by conv => (lhs; whnf))) rfl ?_
 refine wl_call rfl (c_rnumber st.im) rfl ?_
 rintro v11 w ⟨t11, mm11, gr11, im11, hp3⟩
 have st := st.grown gr11 t11 im11
 have hb := hb.mono gr11.le
 have hp1 := hp1.mono gr11.le
 have hp2 := hp2.mono gr11.le
 refine wl_val (v_move' (by conv => (lhs; whnf))) rfl ?_
 refine wl_pcsN [([74], v7), (num8 g, v9), (num8 s, v11), (b, v)] st rfl (by decide) (by decide) rfl (by simp only [List.mem_cons, List.not_mem_nil, or_false]; rintro z (rfl | rfl | rfl | rfl) <;> first | exact hp1 | exact hp2 | exact hp3 | exact hb) rfl ?_
 intro m3 v13 w hle3 st hpc
 have hj : joinB [([74], v7), (num8 g, v9), (num8 s, v11), (b, v)] = textB g s b := by simp [joinB, textB]
 refine wl_call rfl (c_join st.im hpc (by rw [hj, length_textB]; omega) (by simp)) rfl ?_
 rintro v14 w ⟨t14, m4, hg4, hi4, hs4⟩
 have st := st.grown hg4 t14 hi4
 rw [hj] at hs4
 refine wl_val (v_assign' (by conv => (lhs; whnf))) rfl ?_
 refine wl_nil ?_
 refine then_go ?_
 refine wc_ret ?_
 exact ret1 rfl (st.out hs4)
theorem c_rhead {g : UInt64} (him : Im m wI) : Ret Try.prog 29 #[u64 g] wI fun v' w' => Out m wI w' fun m' => SlM m' v' 1 (headB g).length (bs (headB g)) := by
 have st := St.start him
 have h8 := length_num8 g
 refine ret_of Try.call29 Try.func29 rfl Try.ntmps29 Try.results29 rfl ?_
 refine wc_seq ?_
 refine wc_region ?_
 refine wl_val (v_assign' (by conv => (lhs; whnf))) rfl ?_
 refine wl_nil ?_
 refine then_go ?_
 refine wc_seq ?_
 refine wc_region ?_
 refine wl_byteF 72 rfl st rfl ?_
 intro m1 v5 w hg1 st hp1
 refine wl_val (v_move' (by conv => (lhs; whnf))) rfl ?_
 refine wl_call rfl (c_rnumber st.im) rfl ?_
 rintro v7 w ⟨t7, mm7, gr7, im7, hp2⟩
 have st := st.grown gr7 t7 im7
 have hp1 := hp1.mono gr7.le
 refine wl_pcsN [([72], v5), (num8 g, v7)] st rfl (by decide) (by decide) rfl (by simp only [List.mem_cons, List.not_mem_nil, or_false]; rintro z (rfl | rfl) <;> first | exact hp1 | exact hp2) rfl ?_
 intro m3 v8 w hle3 st hpc
 have hj : joinB [([72], v5), (num8 g, v7)] = 72 :: num8 g := by simp [joinB]
 refine wl_call rfl (c_join st.im hpc (by rw [hj]; simp; omega) (by simp)) rfl ?_
 rintro v9 w ⟨t9, m4, hg4, hi4, hs4⟩
 have st := st.grown hg4 t9 hi4
 rw [hj] at hs4
 refine wl_val (v_assign' (by conv => (lhs; whnf))) rfl ?_
 refine wl_nil ?_
 refine then_go ?_
 refine wc_seq ?_
 refine wc_region ?_
 refine wl_val (v_move' (by conv => (lhs; whnf))) rfl ?_
 refine wl_call rfl (c_ref3of st.im hs4 (by simp; omega)) rfl ?_
 rintro v11 w ⟨t11, rfl⟩
 have st := st.pure t11
 refine wl_alloc TF.z87 st rfl ?_
 intro b4 w st
 refine wl_storeW (cs := (bs (sum (72 :: num8 g))).toArray) 0 st rfl TF.t87 rfl rfl (by rw [List.size_toArray, length_bs, length_sum]) rfl (one_bs _) ?_
 intro w st
 obtain ⟨m5, hg5, hm5, st⟩ := st.freeze (i := 0) rfl (by simp)
 have hs4 := hs4.mono hg5.le
 have hd5 := dig_slM hm5 (length_sum _)
 refine wl_nil ?_
 refine then_go ?_
 refine wc_seq ?_
 refine wc_region ?_
 refine wl_val (v_move' (by conv => (lhs; whnf))) rfl ?_
 refine wl_val (v_sla 0 32 Try.underlying87 TF.t5 rfl rfl rfl (by omega) (by omega) (by omega)) rfl ?_
 refine wl_pcsN [(72 :: num8 g, v9), (sum (72 :: num8 g), _)] st rfl (by decide) (by decide) rfl (by simp only [List.mem_cons, List.not_mem_nil, or_false]; rintro z (rfl | rfl) <;> first | exact hs4 | exact hd5) rfl ?_
 intro m6 v14 w hle6 st hpc2
 have hj2 : ∀ a b, joinB [(72 :: num8 g, a), (sum (72 :: num8 g), b)] = 72 :: (num8 g ++ sum (72 :: num8 g)) := by simp [joinB]
 refine wl_call rfl (c_join st.im hpc2 (by rw [hj2]; simp [length_sum]; omega) (by simp)) rfl ?_
 rintro v15 w ⟨t15, m7, hg7, hi7, hs7⟩
 have st := st.grown hg7 t15 hi7
 rw [hj2] at hs7
 refine wl_call rfl (c_padded st.im hs7 (by simp [length_sum]; omega)) rfl ?_
 rintro v16 w ⟨t16, mm16, gr16, im16, hs8⟩
 have st := st.grown gr16 t16 im16
 refine wl_val (v_assign' (by conv => (lhs; whnf))) rfl ?_
 refine wl_nil ?_
 refine then_go ?_
 refine wc_ret ?_
 exact ret1 rfl (st.out hs8)
theorem c_rrecord {g s : UInt64} {v : Value} {b : By} (him : Im m wI) (hb : SlM m v 1 b.length (bs b)) (hl : b.length ≤ 1000000000) : Ret Try.prog 31 #[u64 g, u64 s, v] wI fun v' w' => Out m wI w' fun m' => SlM m' v' 1 (recB g s b).length (bs (recB g s b)) := by
 have st := St.start him
 have h8 := length_num8 g
 have h9 := length_num8 s
 obtain ⟨ba, bc, rfl, hbc⟩ := hb.opn
 refine ret_of Try.call31 Try.func31 rfl Try.ntmps31 Try.results31 rfl ?_
 refine wc_seq ?_
 refine wc_region ?_
 refine wl_val (v_assign' (by conv => (lhs; whnf))) rfl ?_
 refine wl_nil ?_
 refine then_go ?_
 refine wc_seq ?_
 refine wc_region ?_
 refine wl_val (v_move' (by conv => (lhs; whnf))) rfl ?_
 refine wl_val (v_move' (by conv => (lhs; whnf))) rfl ?_
 refine wl_val (v_move' (by conv => (lhs; whnf))) rfl ?_
 refine wl_call rfl (c_rtext st.im hb hl) rfl ?_
 rintro v11 w ⟨t11, mm11, gr11, im11, hp0⟩
 have st := st.grown gr11 t11 im11
 have hb := hb.mono gr11.le
 refine wl_call rfl (c_ref3of st.im hp0 (by rw [length_textB]; omega)) rfl ?_
 rintro v12 w ⟨t12, rfl⟩
 have st := st.pure t12
 refine wl_alloc TF.z87 st rfl ?_
 intro b7 w st
 refine wl_storeW (cs := (bs (sum (textB g s b))).toArray) 0 st rfl TF.t87 rfl rfl (by rw [List.size_toArray, length_bs, length_sum]) rfl (one_bs _) ?_
 intro w st
 obtain ⟨m5, hg5, hm5, st⟩ := st.freeze (i := 0) rfl (by simp)
 have hb := hb.mono hg5.le
 have hd5 := dig_slM hm5 (length_sum _)
 refine wl_nil ?_
 refine then_go ?_
 refine wc_seq ?_
 refine wc_draw TF.mixed ?_
 have st := st.pure (touch_drew _)
 refine fl_val 1 rfl (fun _ => (v_move' (by conv => (lhs; whnf)))) rfl (by kernel_rfl) ?_
 refine fl_val 3 rfl (fun _ => (v_move' (by conv => (lhs; whnf)))) rfl (by kernel_rfl) ?_
 refine fl_val 5 rfl (fun _ => (v_sla 0 32 Try.underlying87 TF.t5 rfl rfl rfl (by omega) (by omega) (by omega))) rfl (by kernel_rfl) ?_
 refine fl_val 6 rfl (fun _ => (v_move' (by conv => (lhs; whnf)))) rfl (by kernel_rfl) ?_
 refine fl_val 7 rfl (fun _ => (v_len_s Try.underlying30 rfl)) rfl (by kernel_rfl) ?_
 refine fl_val 8 rfl (fun _ => (v_convi_64 Try.underlying3 Try.underlying42 rfl)) rfl (by kernel_rfl) ?_
 refine fl_val 10 rfl (fun _ => (v_move' (by conv => (lhs; whnf)))) rfl (by kernel_rfl) ?_
 refine fl_effs [0, 2] (by kernel_rfl) trivial (all2 ?_ ?_)
 ·refine stepE 0 (pure' := [10, 8, 7, 6, 5, 3, 1]) (lds' := []) rfl (by kernel_rfl) (by kernel_rfl) ?_
  refine wl_byteF 74 rfl st rfl ?_
  intro m1 v13 w hg1 st hp1
  have hb := hb.mono hg1
  have hd5 := hd5.mono hg1
  refine wl_nil ⟨rfl, ?_⟩
  refine fl_eff1 2 [10, 8, 7, 6, 5, 3] [] (by kernel_rfl) trivial rfl ?_
  refine wl_call rfl (c_rnumber st.im) rfl ?_
  rintro v15 w ⟨t15, mm15, gr15, im15, hp2⟩
  have st := st.grown gr15 t15 im15
  have hb := hb.mono gr15.le
  have hd5 := hd5.mono gr15.le
  have hp1 := hp1.mono gr15.le
  refine wl_nil ⟨rfl, ?_⟩
  refine fl_eff1 4 [10, 8, 7, 6, 5] [] (by kernel_rfl) trivial rfl ?_
  refine wl_call rfl (c_rnumber st.im) rfl ?_
  rintro v17 w ⟨t17, mm17, gr17, im17, hp3⟩
  have st := st.grown gr17 t17 im17
  have hb := hb.mono gr17.le
  have hd5 := hd5.mono gr17.le
  have hp1 := hp1.mono gr17.le
  have hp2 := hp2.mono gr17.le
  refine wl_nil ⟨rfl, ?_⟩
  refine fl_eff1 9 [10, 7, 6, 5] [] (by kernel_rfl) trivial rfl ?_
  refine wl_call rfl (c_rnumber st.im) rfl ?_
  rintro v22 w ⟨t22, mm22, gr22, im22, hp4⟩
  have st := st.grown gr22 t22 im22
  have hb := hb.mono gr22.le
  have hd5 := hd5.mono gr22.le
  have hp1 := hp1.mono gr22.le
  have hp2 := hp2.mono gr22.le
  have hp3 := hp3.mono gr22.le
  refine wl_nil ⟨rfl, ?_⟩
  refine fl_eff1 11 [7, 6] [] (by kernel_rfl) trivial rfl ?_
  refine wl_pcsN [([74], v13), (num8 g, v15), (num8 s, v17), (sum (textB g s b), _), (num8 (UInt64.ofNat b.length), v22), (b, _)] st rfl (by decide) (by decide) rfl (by simp only [List.mem_cons, List.not_mem_nil, or_false]; rintro z (rfl | rfl | rfl | rfl | rfl | rfl) <;> first | exact hp1 | exact hp2 | exact hp3 | exact hd5 | exact hp4 | exact hb) rfl ?_
  intro m3 v24 w hle3 st hpc
  refine wl_nil ⟨rfl, ?_⟩
  refine fl_eff1 12 [7, 6] [] (by kernel_rfl) trivial rfl ?_
  have h10 := length_num8 (UInt64.ofNat b.length)
  have hsl := length_sum (textB g s b)
  have hj : ∀ a c, joinB [([74], v13), (num8 g, v15), (num8 s, v17), (sum (textB g s b), a), (num8 (UInt64.ofNat b.length), v22), (b, c)] = 74 :: (num8 g ++ (num8 s ++ (sum (textB g s b) ++ (num8 (UInt64.ofNat b.length) ++ b)))) := by simp [joinB]
  refine wl_call rfl (c_join st.im hpc (by rw [hj]; simp; omega) (by simp)) rfl ?_
  rintro v25 w ⟨t25, m4, hg4, hi4, hs4⟩
  have st := st.grown hg4 t25 hi4
  rw [hj] at hs4
  refine wl_nil ⟨rfl, ?_⟩
  refine fl_eff1 13 [7, 6] [] (by kernel_rfl) trivial rfl ?_
  refine wl_call rfl (c_padded st.im hs4 (by simp; omega)) rfl ?_
  rintro v26 w ⟨t26, mm26, gr26, im26, hs8⟩
  have st := st.grown gr26 t26 im26
  refine wl_nil ⟨rfl, ?_⟩
  refine fl_eff1 14 [] [] (by kernel_rfl) trivial rfl ?_
  refine wl_val (v_assign' (by conv => (lhs; whnf))) rfl ?_
  refine wl_nil ⟨rfl, ?_⟩
  refine fl_nil (by kernel_rfl) trivial ?_
  refine then_go ?_
  refine wc_ret ?_
  exact ret1 rfl (st.out hs8)
 ·refine stepE 2 (pure' := [10, 8, 7, 6, 5, 3]) (lds' := []) rfl (by kernel_rfl) (by kernel_rfl) ?_
  refine wl_call rfl (c_rnumber st.im) rfl ?_
  rintro v15 w ⟨t15, mm15, gr15, im15, hp2⟩
  have st := st.grown gr15 t15 im15
  have hb := hb.mono gr15.le
  have hd5 := hd5.mono gr15.le
  refine wl_nil ⟨rfl, ?_⟩
  refine fl_effs [0, 4] (by kernel_rfl) trivial (all2 ?_ ?_)
  ·refine stepE 0 (pure' := [10, 8, 7, 6, 5, 3]) (lds' := []) rfl (by kernel_rfl) (by kernel_rfl) ?_
   refine wl_byteF 74 rfl st rfl ?_
   intro m1 v13 w hg1 st hp1
   have hb := hb.mono hg1
   have hd5 := hd5.mono hg1
   have hp2 := hp2.mono hg1
   refine wl_nil ⟨rfl, ?_⟩
   refine fl_eff1 4 [10, 8, 7, 6, 5] [] (by kernel_rfl) trivial rfl ?_
   refine wl_call rfl (c_rnumber st.im) rfl ?_
   rintro v17 w ⟨t17, mm17, gr17, im17, hp3⟩
   have st := st.grown gr17 t17 im17
   have hb := hb.mono gr17.le
   have hd5 := hd5.mono gr17.le
   have hp2 := hp2.mono gr17.le
   have hp1 := hp1.mono gr17.le
   refine wl_nil ⟨rfl, ?_⟩
   refine fl_eff1 9 [10, 7, 6, 5] [] (by kernel_rfl) trivial rfl ?_
   refine wl_call rfl (c_rnumber st.im) rfl ?_
   rintro v22 w ⟨t22, mm22, gr22, im22, hp4⟩
   have st := st.grown gr22 t22 im22
   have hb := hb.mono gr22.le
   have hd5 := hd5.mono gr22.le
   have hp2 := hp2.mono gr22.le
   have hp1 := hp1.mono gr22.le
   have hp3 := hp3.mono gr22.le
   refine wl_nil ⟨rfl, ?_⟩
   refine fl_eff1 11 [7, 6] [] (by kernel_rfl) trivial rfl ?_
   refine wl_pcsN [([74], v13), (num8 g, v15), (num8 s, v17), (sum (textB g s b), _), (num8 (UInt64.ofNat b.length), v22), (b, _)] st rfl (by decide) (by decide) rfl (by simp only [List.mem_cons, List.not_mem_nil, or_false]; rintro z (rfl | rfl | rfl | rfl | rfl | rfl) <;> first | exact hp1 | exact hp2 | exact hp3 | exact hd5 | exact hp4 | exact hb) rfl ?_
   intro m3 v24 w hle3 st hpc
   refine wl_nil ⟨rfl, ?_⟩
   refine fl_eff1 12 [7, 6] [] (by kernel_rfl) trivial rfl ?_
   have h10 := length_num8 (UInt64.ofNat b.length)
   have hsl := length_sum (textB g s b)
   have hj : ∀ a c, joinB [([74], v13), (num8 g, v15), (num8 s, v17), (sum (textB g s b), a), (num8 (UInt64.ofNat b.length), v22), (b, c)] = 74 :: (num8 g ++ (num8 s ++ (sum (textB g s b) ++ (num8 (UInt64.ofNat b.length) ++ b)))) := by simp [joinB]
   refine wl_call rfl (c_join st.im hpc (by rw [hj]; simp; omega) (by simp)) rfl ?_
   rintro v25 w ⟨t25, m4, hg4, hi4, hs4⟩
   have st := st.grown hg4 t25 hi4
   rw [hj] at hs4
   refine wl_nil ⟨rfl, ?_⟩
   refine fl_eff1 13 [7, 6] [] (by kernel_rfl) trivial rfl ?_
   refine wl_call rfl (c_padded st.im hs4 (by simp; omega)) rfl ?_
   rintro v26 w ⟨t26, mm26, gr26, im26, hs8⟩
   have st := st.grown gr26 t26 im26
   refine wl_nil ⟨rfl, ?_⟩
   refine fl_eff1 14 [] [] (by kernel_rfl) trivial rfl ?_
   refine wl_val (v_assign' (by conv => (lhs; whnf))) rfl ?_
   refine wl_nil ⟨rfl, ?_⟩
   refine fl_nil (by kernel_rfl) trivial ?_
   refine then_go ?_
   refine wc_ret ?_
   exact ret1 rfl (st.out hs8)
  ·refine stepE 4 (pure' := [10, 8, 7, 6, 5]) (lds' := []) rfl (by kernel_rfl) (by kernel_rfl) ?_
   refine wl_call rfl (c_rnumber st.im) rfl ?_
   rintro v17 w ⟨t17, mm17, gr17, im17, hp3⟩
   have st := st.grown gr17 t17 im17
   have hb := hb.mono gr17.le
   have hd5 := hd5.mono gr17.le
   have hp2 := hp2.mono gr17.le
   refine wl_nil ⟨rfl, ?_⟩
   refine fl_effs [0, 9] (by kernel_rfl) trivial (all2 ?_ ?_)
   ·refine stepE 0 (pure' := [10, 8, 7, 6, 5]) (lds' := []) rfl (by kernel_rfl) (by kernel_rfl) ?_
    refine wl_byteF 74 rfl st rfl ?_
    intro m1 v13 w hg1 st hp1
    have hb := hb.mono hg1
    have hd5 := hd5.mono hg1
    have hp2 := hp2.mono hg1
    have hp3 := hp3.mono hg1
    refine wl_nil ⟨rfl, ?_⟩
    refine fl_eff1 9 [10, 7, 6, 5] [] (by kernel_rfl) trivial rfl ?_
    refine wl_call rfl (c_rnumber st.im) rfl ?_
    rintro v22 w ⟨t22, mm22, gr22, im22, hp4⟩
    have st := st.grown gr22 t22 im22
    have hb := hb.mono gr22.le
    have hd5 := hd5.mono gr22.le
    have hp2 := hp2.mono gr22.le
    have hp3 := hp3.mono gr22.le
    have hp1 := hp1.mono gr22.le
    refine wl_nil ⟨rfl, ?_⟩
    refine fl_eff1 11 [7, 6] [] (by kernel_rfl) trivial rfl ?_
    refine wl_pcsN [([74], v13), (num8 g, v15), (num8 s, v17), (sum (textB g s b), _), (num8 (UInt64.ofNat b.length), v22), (b, _)] st rfl (by decide) (by decide) rfl (by simp only [List.mem_cons, List.not_mem_nil, or_false]; rintro z (rfl | rfl | rfl | rfl | rfl | rfl) <;> first | exact hp1 | exact hp2 | exact hp3 | exact hd5 | exact hp4 | exact hb) rfl ?_
    intro m3 v24 w hle3 st hpc
    refine wl_nil ⟨rfl, ?_⟩
    refine fl_eff1 12 [7, 6] [] (by kernel_rfl) trivial rfl ?_
    have h10 := length_num8 (UInt64.ofNat b.length)
    have hsl := length_sum (textB g s b)
    have hj : ∀ a c, joinB [([74], v13), (num8 g, v15), (num8 s, v17), (sum (textB g s b), a), (num8 (UInt64.ofNat b.length), v22), (b, c)] = 74 :: (num8 g ++ (num8 s ++ (sum (textB g s b) ++ (num8 (UInt64.ofNat b.length) ++ b)))) := by simp [joinB]
    refine wl_call rfl (c_join st.im hpc (by rw [hj]; simp; omega) (by simp)) rfl ?_
    rintro v25 w ⟨t25, m4, hg4, hi4, hs4⟩
    have st := st.grown hg4 t25 hi4
    rw [hj] at hs4
    refine wl_nil ⟨rfl, ?_⟩
    refine fl_eff1 13 [7, 6] [] (by kernel_rfl) trivial rfl ?_
    refine wl_call rfl (c_padded st.im hs4 (by simp; omega)) rfl ?_
    rintro v26 w ⟨t26, mm26, gr26, im26, hs8⟩
    have st := st.grown gr26 t26 im26
    refine wl_nil ⟨rfl, ?_⟩
    refine fl_eff1 14 [] [] (by kernel_rfl) trivial rfl ?_
    refine wl_val (v_assign' (by conv => (lhs; whnf))) rfl ?_
    refine wl_nil ⟨rfl, ?_⟩
    refine fl_nil (by kernel_rfl) trivial ?_
    refine then_go ?_
    refine wc_ret ?_
    exact ret1 rfl (st.out hs8)
   ·refine stepE 9 (pure' := [10, 7, 6, 5]) (lds' := []) rfl (by kernel_rfl) (by kernel_rfl) ?_
    refine wl_call rfl (c_rnumber st.im) rfl ?_
    rintro v22 w ⟨t22, mm22, gr22, im22, hp4⟩
    have st := st.grown gr22 t22 im22
    have hb := hb.mono gr22.le
    have hd5 := hd5.mono gr22.le
    have hp2 := hp2.mono gr22.le
    have hp3 := hp3.mono gr22.le
    refine wl_nil ⟨rfl, ?_⟩
    refine fl_eff1 0 [10, 7, 6, 5] [] (by kernel_rfl) trivial rfl ?_
    refine wl_byteF 74 rfl st rfl ?_
    intro m1 v13 w hg1 st hp1
    have hb := hb.mono hg1
    have hd5 := hd5.mono hg1
    have hp2 := hp2.mono hg1
    have hp3 := hp3.mono hg1
    have hp4 := hp4.mono hg1
    refine wl_nil ⟨rfl, ?_⟩
    refine fl_eff1 11 [7, 6] [] (by kernel_rfl) trivial rfl ?_
    refine wl_pcsN [([74], v13), (num8 g, v15), (num8 s, v17), (sum (textB g s b), _), (num8 (UInt64.ofNat b.length), v22), (b, _)] st rfl (by decide) (by decide) rfl (by simp only [List.mem_cons, List.not_mem_nil, or_false]; rintro z (rfl | rfl | rfl | rfl | rfl | rfl) <;> first | exact hp1 | exact hp2 | exact hp3 | exact hd5 | exact hp4 | exact hb) rfl ?_
    intro m3 v24 w hle3 st hpc
    refine wl_nil ⟨rfl, ?_⟩
    refine fl_eff1 12 [7, 6] [] (by kernel_rfl) trivial rfl ?_
    have h10 := length_num8 (UInt64.ofNat b.length)
    have hsl := length_sum (textB g s b)
    have hj : ∀ a c, joinB [([74], v13), (num8 g, v15), (num8 s, v17), (sum (textB g s b), a), (num8 (UInt64.ofNat b.length), v22), (b, c)] = 74 :: (num8 g ++ (num8 s ++ (sum (textB g s b) ++ (num8 (UInt64.ofNat b.length) ++ b)))) := by simp [joinB]
    refine wl_call rfl (c_join st.im hpc (by rw [hj]; simp; omega) (by simp)) rfl ?_
    rintro v25 w ⟨t25, m4, hg4, hi4, hs4⟩
    have st := st.grown hg4 t25 hi4
    rw [hj] at hs4
    refine wl_nil ⟨rfl, ?_⟩
    refine fl_eff1 13 [7, 6] [] (by kernel_rfl) trivial rfl ?_
    refine wl_call rfl (c_padded st.im hs4 (by simp; omega)) rfl ?_
    rintro v26 w ⟨t26, mm26, gr26, im26, hs8⟩
    have st := st.grown gr26 t26 im26
    refine wl_nil ⟨rfl, ?_⟩
    refine fl_eff1 14 [] [] (by kernel_rfl) trivial rfl ?_
    refine wl_val (v_assign' (by conv => (lhs; whnf))) rfl ?_
    refine wl_nil ⟨rfl, ?_⟩
    refine fl_nil (by kernel_rfl) trivial ?_
    refine then_go ?_
    refine wc_ret ?_
    exact ret1 rfl (st.out hs8)
theorem c_r14number {v : Value} {b : By} (him : Im m wI) (hb : SlM m v 1 b.length (bs b)) (hl : 8 ≤ b.length) : Ret Try.prog 66 #[v] wI fun v' w' => Tch wI w' [] [] ∧ v' = u64 (rd8 b) := by
 have st := St.start him
 obtain ⟨b0, o0, cap, rfl, hcap⟩ := hb.ptr1 (by omega) (by decide)
 refine ret_of Try.call66 Try.func66 rfl Try.ntmps66 Try.results66 rfl ?_
 refine wc_seq ?_
 refine wc_region ?_
 refine wl_val (v_assign' (by conv => (lhs; whnf))) rfl ?_
 refine wl_nil ?_
 refine then_go ?_
 refine wc_seq ?_
 refine wc_region ?_
 refine wl_val (v_assign' (by conv => (lhs; whnf))) rfl ?_
 refine wl_nil ?_
 refine then_go ?_
 refine wc_seq ?_
 refine wc_seq ?_
 refine wc_region ?_
 refine wl_val (v_assign' (by conv => (lhs; whnf))) rfl ?_
 refine wl_nil ?_
 refine then_go ?_
 refine wc_block ?_
 refine wc_loop (S := Nat) (fun q r w' => ∃ i, q + i = 8 ∧ r 0 = .slice (some ⟨b0, o0, none⟩) b.length cap ∧ r 3 = u64 ((b.take i).foldl (fun n c => n * 256 + UInt64.ofNat c.toNat) 0) ∧ r 4 = .int .i64 i ∧ St m m [] wI w' []) id 8 ⟨0, rfl, rfl, rfl, rfl, st⟩ ?_
 clear st
 rintro q r w2 ⟨i, hqi, h0, h3, h4, st⟩
 refine wc_o 0 h0 (wc_o 3 h3 (wc_o 4 h4 ?_))
 refine wc_seq ?_
 refine wc_seq ?_
 refine wc_region ?_
 refine wl_val (v_move' (by conv => (lhs; whnf))) rfl ?_
 refine wl_val (v_lss rfl rfl) rfl ?_
 refine wl_nil ?_
 refine then_go ?_
 refine wc_if rfl (fun h6 => ?_) (fun h6 => ?_)
 ·refine wc_skip ?_
  refine then_go ?_
  refine wc_seq ?_
  refine wc_block ?_
  have hi : i < b.length := by omega
  refine wc_region ?_
  refine wl_val (v_move' (by conv => (lhs; whnf))) rfl ?_
  refine wl_val (v_mul64 (p := (b.take i).foldl (fun n c => n * 256 + UInt64.ofNat c.toNat) 0) (q := 256) rfl rfl) rfl ?_
  refine wl_val (v_move' (by conv => (lhs; whnf))) rfl ?_
  refine wl_val (v_move' (by conv => (lhs; whnf))) rfl ?_
  refine wl_val (v_ias i Try.underlying30 TF.t5 rfl rfl (by first | rfl | omega) (by first | omega | (dsimp only at *; omega))) rfl ?_
  refine wl_val (v_load rfl (SlM.rdB TF.t5 i hb hi st.im)) rfl ?_
  refine wl_val (v_convi_64 (n := b[i].toNat) Try.underlying5 Try.underlying42 rfl) rfl ?_
  refine wl_val (v_add64 rfl rfl) rfl ?_
  refine wl_val (v_assign' (by conv => (lhs; whnf))) rfl ?_
  refine wl_nil ?_
  refine block_go (then_go ?_)
  refine wc_region ?_
  refine wl_val (v_move' (by conv => (lhs; whnf))) rfl ?_
  refine wl_val (v_add' rfl rfl rfl (by first | omega | (dsimp only at *; omega)) (by first | omega | (dsimp only at *; omega))) rfl ?_
  refine wl_val (v_assign' (by conv => (lhs; whnf))) rfl ?_
  refine wl_nil ?_
  refine then_go ?_
  refine ⟨q - 1, by simp; omega, i + 1, by omega, rfl, ?_, rfl, st⟩
  rw [List.take_succ_eq_append_getElem hi, List.foldl_append, List.foldl_cons, List.foldl_nil]
  rfl
 ·refine wc_exit (then_exit (then_exit (block_hit ?_)))
  refine then_go ?_
  refine wc_seq ?_
  refine wc_region ?_
  refine wl_val (v_move' (by conv => (lhs; whnf))) rfl ?_
  refine wl_val (v_assign' (by conv => (lhs; whnf))) rfl ?_
  refine wl_nil ?_
  refine then_go ?_
  refine wc_ret ?_
  have hi8 : i = 8 := by omega
  subst hi8
  exact ret1 rfl ⟨st.touch, rfl⟩
end
end Go.Proofs.Ytnaoafogdplnaaa

namespace Go.Proofs.Ytnaoafogdplnaaa
open Go Go.RowKit K SH DK JR
theorem v_nesJ {P : Program} {r : Fr} {w : World} {ty T U : TypeId} {x y : Operand} {a b : By} (hx : ev r x = .string (strB a)) (hy : ev r y = .string (strB b)) : Val P (.binOp .neq T x y U) ty r w (.bool (decide (¬ a = b))) w := by
 intro _ _ _ _
 simp only [execOp, eqGuard, hx, hy, binOp, Op.stringOp, strB_toList, Sem.run_bind, Sem.run_pure, Result.andThen_ok]
 by_cases h : a = b
 ·subst h; simp
 ·simp [h]
def hlf (n : Nat) : Nat := n / 64 / 2 * 64
section
variable {m : Mem} {wI : World}
theorem c_r14gen {v : Value} {b : By} (him : Im m wI) (hb : SlM m v 1 b.length (bs b)) (hl : 64 ≤ b.length) (hl2 : b.length ≤ 500000000) : Ret Try.prog 65 #[v] wI fun v' w' => Tch wI w' [] [] ∧ v' = u64 (begF b) := by
 have st := St.start him
 obtain ⟨ba, bc, rfl, hbc⟩ := hb.opn
 refine ret_of Try.call65 Try.func65 rfl Try.ntmps65 Try.results65 rfl ?_
 refine wc_seq ?_
 refine wc_region ?_
 refine wl_val (v_assign' (by conv => (lhs; whnf))) rfl ?_
 refine wl_nil ?_
 refine then_go ?_
 refine wc_seq ?_
 refine wc_region ?_
 refine wl_val (v_move' (by conv => (lhs; whnf))) rfl ?_
 refine wl_val (v_sls 1 9 Try.underlying30 TF.t5 rfl ⟨_, _, rfl, rfl⟩ ⟨_, _, rfl, rfl⟩ (by omega) (by omega)) rfl ?_
 have h1 := hb.partB 1 9 (by omega) (by omega)
 have e1 : rd8 ((b.drop 1).take (9 - 1)) = rd8 (b.drop 1) := by unfold rd8; rw [List.take_take]; rfl
 refine wl_call rfl (c_r14number st.im h1 (by rw [List.length_take, List.length_drop]; omega)) rfl ?_
 rintro v6 w ⟨t6, rfl⟩
 have st := st.pure t6
 rw [e1]
 obtain ⟨q, hq⟩ : ∃ q, q = rd8 (b.drop 1) := ⟨_, rfl⟩
 rw [← hq]
 refine wl_val (v_assign' (by conv => (lhs; whnf))) rfl ?_
 refine wl_nil ?_
 refine then_go ?_
 refine wc_seq ?_
 refine wc_seq ?_
 by_cases hq0 : q = 0
 ·refine wc_draw TF.mixed ?_
  have st := st.pure (touch_drew _)
  refine fl_val 0 rfl (fun _ => (v_move' (by conv => (lhs; whnf)))) rfl (by kernel_rfl) ?_
  refine fl_val 1 rfl (fun _ => (wl_valD (v_eql64 (q := 0) rfl rfl) (q := true) (decide_eq_true hq0))) rfl (by kernel_rfl) ?_
  refine fl_val 2 rfl (fun _ => (v_move' (by conv => (lhs; whnf)))) rfl (by kernel_rfl) ?_
  refine fl_off 3 rfl rfl rfl rfl rfl rfl (by kernel_rfl) ?_
  refine fl_off 4 rfl rfl rfl rfl rfl rfl (by kernel_rfl) ?_
  refine fl_offd 5 rfl rfl rfl rfl rfl rfl (by kernel_rfl) ?_
  refine fl_off 6 rfl rfl rfl rfl rfl rfl (by kernel_rfl) ?_
  refine fl_eff1 7 [4, 3, 1, 0] [5] (by kernel_rfl) ⟨obl_off rfl rfl rfl rfl rfl rfl, trivial⟩ rfl ?_
  refine wl_off rfl rfl rfl rfl ?_
  refine wl_nil ⟨rfl, ?_⟩
  refine fl_offd 8 rfl rfl rfl rfl rfl rfl (by kernel_rfl) ?_
  refine fl_off 9 rfl rfl rfl rfl rfl rfl (by kernel_rfl) ?_
  refine fl_val 10 rfl (fun _ => (v_pick rfl)) rfl (by kernel_rfl) ?_
  refine fl_nil (by kernel_rfl) ⟨obl_off rfl rfl rfl rfl rfl rfl, obl_off rfl rfl rfl rfl rfl rfl, trivial⟩ ?_
  refine then_go ?_
  refine wc_true rfl ?_
  refine wc_seq ?_
  refine wc_region ?_
  refine wl_val (v_assign' (by conv => (lhs; whnf))) rfl ?_
  refine wl_nil ?_
  refine then_go ?_
  refine wc_ret (then_ret ?_)
  refine ret1 (v := u64 0) rfl ⟨(st.keepOnly (l := []) (List.nil_sublist _)).touch, ?_⟩
  unfold begF
  rw [← hq, if_neg (fun h => by rw [hq0] at h; exact absurd h.1 (by decide))]
 ·refine wc_draw TF.mixed ?_
  have st := st.pure (touch_drew _)
  refine fl_val 0 rfl (fun _ => (v_move' (by conv => (lhs; whnf)))) rfl (by kernel_rfl) ?_
  refine fl_val 1 rfl (fun _ => (wl_valD (v_eql64 (q := 0) rfl rfl) (q := false) (decide_eq_false hq0))) rfl (by kernel_rfl) ?_
  refine fl_val 2 rfl (fun _ => (v_move' (by conv => (lhs; whnf)))) rfl (by kernel_rfl) ?_
  refine fl_on 3 rfl rfl rfl rfl (fun _ => (v_move' (by conv => (lhs; whnf)))) rfl (by kernel_rfl) ?_
  refine fl_on 4 rfl rfl rfl rfl (fun _ => (v_sls 0 64 Try.underlying30 TF.t5 rfl rfl ⟨_, _, rfl, rfl⟩ (by omega) (by omega))) rfl (by kernel_rfl) ?_
  refine fl_ond 5 rfl rfl rfl rfl (v_b2s Try.underlying30 Try.underlying5 Try.underlying9 st.im (hb.partB 0 64 (by omega) hl) rfl) rfl (by kernel_rfl) ?_
  refine fl_on 6 rfl rfl rfl rfl (fun _ => (v_move' (by conv => (lhs; whnf)))) rfl (by kernel_rfl) ?_
  refine fl_eff1 7 [4, 3, 1, 0] [5] (by kernel_rfl) ⟨obl_on rfl rfl rfl rfl rfl (v_b2s Try.underlying30 Try.underlying5 Try.underlying9 st.im (hb.partB 0 64 (by omega) hl) rfl), trivial⟩ rfl ?_
  refine wl_on rfl rfl ?_
  refine wl_call rfl (c_rhead st.im) rfl ?_
  rintro v14 w ⟨t14, m1, hg1, hi1, hh⟩
  have st := st.grown hg1 t14 hi1
  have hb := hb.mono hg1.le
  refine wl_nil ⟨rfl, ?_⟩
  refine fl_ond 8 rfl rfl rfl rfl (v_b2s Try.underlying30 Try.underlying5 Try.underlying9 st.im hh rfl) rfl (by kernel_rfl) ?_
  refine fl_on 9 rfl rfl rfl rfl (fun _ => (v_nesJ rfl rfl)) rfl (by kernel_rfl) ?_
  refine fl_val 10 rfl (fun _ => (v_pick rfl)) rfl (by kernel_rfl) ?_
  refine fl_nil (by kernel_rfl) ⟨obl_on rfl rfl rfl rfl rfl (v_b2s Try.underlying30 Try.underlying5 Try.underlying9 st.im hh rfl), obl_on rfl rfl rfl rfl rfl (v_b2s Try.underlying30 Try.underlying5 Try.underlying9 st.im (hb.partB 0 64 (by omega) hl) rfl), trivial⟩ ?_
  refine then_go ?_
  refine wc_cond rfl (fun h17 => ?_) (fun h17 => ?_)
  ·refine wc_seq ?_
   refine wc_region ?_
   refine wl_val (v_assign' (by conv => (lhs; whnf))) rfl ?_
   refine wl_nil ?_
   refine then_go ?_
   refine wc_ret (then_ret ?_)
   refine ret1 (v := u64 0) rfl ⟨(st.keepOnly (l := []) (List.nil_sublist _)).touch, ?_⟩
   unfold begF
   rw [← hq, if_neg (fun h => of_decide_eq_true h17 h.2)]
  ·refine wc_skip ?_
   refine then_go ?_
   refine wc_seq ?_
   refine wc_region ?_
   refine wl_val (v_move' (by conv => (lhs; whnf))) rfl ?_
   refine wl_val (v_assign' (by conv => (lhs; whnf))) rfl ?_
   refine wl_nil ?_
   refine then_go ?_
   refine wc_ret ?_
   have hq1 : 0 < q.toNat := by
    rcases Nat.eq_zero_or_pos q.toNat with h | h
    ·exact (hq0 (UInt64.toNat_inj.1 h)).elim
    ·exact h
   refine ret1 (v := u64 q) rfl ⟨(st.keepOnly (l := []) (List.nil_sublist _)).touch, ?_⟩
   unfold begF
   rw [← hq, if_pos ⟨hq1, by simpa using h17⟩]
theorem c_rhalf {a : Option Addr} {c k : Nat} {l : Nat} (him : Im m wI) (hk : k ≤ 1) (hc : l ≤ c) (hl : l ≤ 500000000) : Ret Try.prog 51 #[.slice a l c, .int .i64 k] wI fun v' w' => Tch wI w' [] [] ∧ v' = .slice (sliceOff a c (k * hlf l) 1) (k * hlf l + hlf l - k * hlf l) (c - k * hlf l) := by
  have st := St.start him
  have hkl : k * hlf l ≤ hlf l := by rcases Nat.le_one_iff_eq_zero_or_eq_one.1 hk with rfl | rfl <;> omega
  have hll : k * hlf l + hlf l ≤ l := by have : 2 * hlf l ≤ l := by unfold hlf; omega
                                         omega
  refine ret_of Try.call51 Try.func51 rfl Try.ntmps51 Try.results51 rfl ?_
  refine wc_seq ?_
  refine wc_region ?_
  refine wl_val (v_assign' (by conv => (lhs; whnf))) rfl ?_
  refine wl_nil ?_
  refine then_go ?_
  refine wc_seq ?_
  refine wc_region ?_
  refine wl_val (v_move' (by conv => (lhs; whnf))) rfl ?_
  refine wl_val (v_len_s Try.underlying30 rfl) rfl ?_
  refine wl_val (v_to (v' := .int .i64 ((l / 64 : Nat) : Int)) (v_quo' rfl rfl (by omega) (by omega) rfl (by omega)) (by rw [Int.natCast_ediv]; rfl)) rfl ?_
  refine wl_val (v_to (v' := .int .i64 ((l / 64 / 2 : Nat) : Int)) (v_quo' rfl rfl (by omega) (by omega) rfl (by omega)) (by rw [Int.natCast_ediv (l / 64)]; rfl)) rfl ?_
  refine wl_val (v_mul' (c := ((hlf l : Nat) : Int)) rfl rfl (by unfold hlf; omega) (by omega) (by omega)) rfl ?_
  refine wl_val (v_assign' (by conv => (lhs; whnf))) rfl ?_
  refine wl_nil ?_
  refine then_go ?_
  refine wc_seq ?_
  refine wc_region ?_
  refine wl_val (v_move' (by conv => (lhs; whnf))) rfl ?_
  refine wl_val (v_move' (by conv => (lhs; whnf))) rfl ?_
  refine wl_val (v_move' (by conv => (lhs; whnf))) rfl ?_
  refine wl_val (v_mul' (c := ((k * hlf l : Nat) : Int)) rfl rfl (by rw [Int.natCast_mul]) (by omega) (by omega)) rfl ?_
  refine wl_val (v_move' (by conv => (lhs; whnf))) rfl ?_
  refine wl_val (v_move' (by conv => (lhs; whnf))) rfl ?_
  refine wl_val (v_mul' (c := ((k * hlf l : Nat) : Int)) rfl rfl (by rw [Int.natCast_mul]) (by omega) (by omega)) rfl ?_
  refine wl_val (v_move' (by conv => (lhs; whnf))) rfl ?_
  refine wl_val (v_add' (c := ((k * hlf l + hlf l : Nat) : Int)) rfl rfl (by omega) (by omega) (by omega)) rfl ?_
  refine wl_val (v_sls (k * hlf l) (k * hlf l + hlf l) Try.underlying30 TF.t5 rfl ⟨_, _, rfl, rfl⟩ ⟨_, _, rfl, rfl⟩ (by omega) (by omega)) rfl ?_
  refine wl_val (v_assign' (by conv => (lhs; whnf))) rfl ?_
  refine wl_nil ?_
  refine then_go ?_
  refine wc_ret ?_
  exact ret1 rfl ⟨st.touch, rfl⟩
theorem half_slM {a : Option Addr} {c k : Nat} {b : By} (hb : SlM m (.slice a b.length c) 1 b.length (bs b)) (hk : k ≤ 1) : SlM m (.slice (sliceOff a c (k * hlf b.length) 1) (k * hlf b.length + hlf b.length - k * hlf b.length) (c - k * hlf b.length)) 1 (halfB b (hlf b.length) k).length (bs (halfB b (hlf b.length) k)) := by
  have hkl : k * hlf b.length ≤ hlf b.length := by rcases Nat.le_one_iff_eq_zero_or_eq_one.1 hk with rfl | rfl <;> omega
  have hll : k * hlf b.length + hlf b.length ≤ b.length := by have : 2 * hlf b.length ≤ b.length := by unfold hlf; omega
                                                              omega
  have h := hb.partB (k * hlf b.length) (k * hlf b.length + hlf b.length) (by omega) hll
  rw [Nat.add_sub_cancel_left] at h ⊢
  exact h
theorem length_halfB {b : By} {k : Nat} (hk : k ≤ 1) : (halfB b (hlf b.length) k).length = hlf b.length := by
 have hkl : k * hlf b.length ≤ hlf b.length := by rcases Nat.le_one_iff_eq_zero_or_eq_one.1 hk with rfl | rfl <;> omega
 have : 2 * hlf b.length ≤ b.length := by unfold hlf; omega
 unfold halfB
 rw [List.length_take, List.length_drop]
 omega
theorem c_rpick {v : Value} {b : By} (him : Im m wI) (hb : SlM m v 1 b.length (bs b)) (hl : b.length ≤ 500000000) (hn : 128 ≤ b.length) : Ret Try.prog 49 #[v] wI fun v' w' => Tch wI w' [] [] ∧ v' = .tuple #[.int .i64 ((pickF b (hlf b.length)).1 : Nat), u64 (pickF b (hlf b.length)).2] := by
 have st := St.start him
 obtain ⟨ba, bc, rfl, hbc⟩ := hb.opn
 have h64 : 64 ≤ hlf b.length := by unfold hlf; omega
 have hle : hlf b.length ≤ b.length := by unfold hlf; omega
 have hl0 := length_halfB (b := b) (k := 0) (by omega)
 have hl1 := length_halfB (b := b) (k := 1) (by omega)
 refine ret_of Try.call49 Try.func49 rfl Try.ntmps49 Try.results49 rfl ?_
 refine wc_seq ?_
 refine wc_region ?_
 refine wl_val (v_assign' (by conv => (lhs; whnf))) rfl ?_
 refine wl_val (v_assign' (by conv => (lhs; whnf))) rfl ?_
 refine wl_nil ?_
 refine then_go ?_
 refine wc_seq ?_
 refine wc_region ?_
 refine wl_val (v_move' (by conv => (lhs; whnf))) rfl ?_
 refine wl_call rfl (c_rhalf (k := 0) st.im (by omega) hbc hl) rfl ?_
 rintro v7 w ⟨t7, rfl⟩
 have st := st.pure t7
 refine wl_call rfl (c_r14gen st.im (half_slM (k := 0) hb (by omega)) (by omega) (by omega)) rfl ?_
 rintro v8 w ⟨t8, rfl⟩
 have st := st.pure t8
 refine wl_val (v_assign' (by conv => (lhs; whnf))) rfl ?_
 refine wl_nil ?_
 refine then_go ?_
 refine wc_seq ?_
 refine wc_region ?_
 refine wl_val (v_move' (by conv => (lhs; whnf))) rfl ?_
 refine wl_call rfl (c_rhalf (k := 1) st.im (by omega) hbc hl) rfl ?_
 rintro v10 w ⟨t10, rfl⟩
 have st := st.pure t10
 refine wl_call rfl (c_r14gen st.im (half_slM (k := 1) hb (by omega)) (by omega) (by omega)) rfl ?_
 rintro v11 w ⟨t11, rfl⟩
 have st := st.pure t11
 refine wl_val (v_assign' (by conv => (lhs; whnf))) rfl ?_
 refine wl_nil ?_
 refine then_go ?_
 refine wc_seq ?_
 refine wc_seq ?_
 refine wc_region ?_
 refine wl_val (v_move' (by conv => (lhs; whnf))) rfl ?_
 refine wl_val (v_move' (by conv => (lhs; whnf))) rfl ?_
 refine wl_val (v_gtr64 rfl rfl) rfl ?_
 refine wl_nil ?_
 refine then_go ?_
 refine wc_if rfl (fun h14 => ?_) (fun h14 => ?_)
 ·refine wc_seq ?_
  refine wc_region ?_
  refine wl_val (v_move' (by conv => (lhs; whnf))) rfl ?_
  refine wl_val (v_assign' (by conv => (lhs; whnf))) rfl ?_
  refine wl_val (v_assign' (by conv => (lhs; whnf))) rfl ?_
  refine wl_nil ?_
  refine then_go ?_
  refine wc_ret (then_ret ?_)
  refine ret2 rfl rfl ⟨st.touch, ?_⟩
  unfold pickF
  rw [if_pos (UInt64.lt_iff_toNat_lt.2 h14)]
  rfl
 ·refine wc_skip ?_
  refine then_go ?_
  refine wc_seq ?_
  refine wc_region ?_
  refine wl_val (v_move' (by conv => (lhs; whnf))) rfl ?_
  refine wl_val (v_assign' (by conv => (lhs; whnf))) rfl ?_
  refine wl_val (v_assign' (by conv => (lhs; whnf))) rfl ?_
  refine wl_nil ?_
  refine then_go ?_
  refine wc_ret ?_
  refine ret2 rfl rfl ⟨st.touch, ?_⟩
  unfold pickF
  rw [if_neg (fun h => h14 (UInt64.lt_iff_toNat_lt.1 h))]
  rfl
theorem pickF_le {b : By} {n : Nat} : (pickF b n).1 ≤ 1 := by unfold pickF; split; exact Nat.le_refl _; exact Nat.zero_le _
theorem nextF_at {g s : UInt64} {half : By} {at' : Nat} (hat : at' + 64 ≤ half.length) :
  nextF g s (half.drop at') = if (rd8 ((half.drop (at' + 49)).take 8)).toNat < 1 ∨ half.length - at' - 57 < (rd8 ((half.drop (at' + 49)).take 8)).toNat then none else
   if at' + (recB g s ((half.drop (at' + 57)).take (rd8 ((half.drop (at' + 49)).take 8)).toNat)).length ≤ half.length ∧ recB g s ((half.drop (at' + 57)).take (rd8 ((half.drop (at' + 49)).take 8)).toNat) = (half.drop at').take (recB g s ((half.drop (at' + 57)).take (rd8 ((half.drop (at' + 49)).take 8)).toNat)).length then some ((half.drop (at' + 57)).take (rd8 ((half.drop (at' + 49)).take 8)).toNat) else none := by
 have e : rd8 ((half.drop (at' + 49)).take 8) = rd8 ((half.drop at').drop 49) := by unfold rd8; rw [List.take_take, List.drop_drop]; rfl
 unfold nextF
 rw [e, List.length_drop, if_neg (by omega), List.drop_drop, List.drop_drop]
 split
 ·rfl
 ·congr 1
  refine propext ⟨fun h => ⟨by omega, h.2⟩, fun h => ⟨by omega, h.2⟩⟩
theorem c_records {g : UInt64} {v : Value} {half : By} (him : Im m wI) (hb : SlM m v 1 half.length (bs half)) (h64 : 64 ≤ half.length) (hl : half.length ≤ 500000000) :
  Ret Try.prog 50 #[u64 g, v] wI fun v' w' => Out m wI w' fun m' => ∃ lv N, PcsM m' lv N ∧ N.map (·.1) = recs g half ∧ v' = .tuple #[lv, .int .i64 ((64 + sizeL (recs g half) : Nat) : Int)] := by
 have st := St.start him
 obtain ⟨ba, bc, rfl, hbc⟩ := hb.opn
 have hb0 := hb
 refine ret_of Try.call50 Try.func50 rfl Try.ntmps50 Try.results50 rfl ?_
 refine wc_seq ?_
 refine wc_region ?_
 refine wl_val (v_assign' (by conv => (lhs; whnf))) rfl ?_
 refine wl_val (v_assign' (by conv => (lhs; whnf))) rfl ?_
 refine wl_nil ?_
 refine then_go ?_
 refine wc_seq ?_
 refine wc_region ?_
 refine wl_val (v_assign' (by conv => (lhs; whnf))) rfl ?_
 refine wl_nil ?_
 refine then_go ?_
 refine wc_seq ?_
 refine wc_region ?_
 refine wl_val (v_assign' (by conv => (lhs; whnf))) rfl ?_
 refine wl_nil ?_
 refine then_go ?_
 refine wc_seq ?_
 refine wc_block ?_
 have st := nilRow st 30 1
 refine wc_loop (S := Nat) (fun q r w' => ∃ (m' : Mem) (lv : Value) (N : List (By × Value)), (half.drop (64 + sizeL (N.map (·.1)))).length ≤ q ∧ 64 + sizeL (N.map (·.1)) ≤ half.length ∧ recs g half = N.map (·.1) ++ recsF g q N.length (half.drop (64 + sizeL (N.map (·.1)))) ∧ r 0 = u64 g ∧ r 1 = .slice ba half.length bc ∧ r 6 = lv ∧ r 7 = .int .i64 ((64 + sizeL (N.map (·.1)) : Nat) : Int) ∧ St m m' [] wI w' [lrE lv N] ∧ (∀ k o, m k = some o → m' k = some o) ∧ Pcs m' N) id half.length ⟨m, _, [], by simp, by simpa [sizeL] using h64, rfl, rfl, rfl, rfl, rfl, st, fun _ _ h => h, by intro x hx; cases hx⟩ ?_
 clear st
 rintro q r w2 ⟨m', lv, N, hq, hat, hrec, g0, g1, g6, g7, st, hmm, hN⟩
 refine wc_o 0 g0 (wc_o 1 g1 (wc_o 6 g6 (wc_o 7 g7 ?_)))
 obtain ⟨la, lc, hlv⟩ := row_sl (st.at (i := 0) rfl)
 subst hlv
 have hNl : N.length * 64 ≤ sizeL (N.map (·.1)) := by have := sizeL_ge (l := N.map (·.1)); rwa [List.length_map] at this
 obtain ⟨at', hate⟩ : ∃ a, a = 64 + sizeL (N.map (·.1)) := ⟨_, rfl⟩
 rw [← hate] at hq hat hrec ⊢
 have hb := hb.mono hmm
 refine wc_seq ?_
 refine wc_seq ?_
 refine wc_region ?_
 refine wl_val (v_move' (by conv => (lhs; whnf))) rfl ?_
 refine wl_val (v_add' rfl rfl rfl (by first | omega | (dsimp only at *; omega)) (by first | omega | (dsimp only at *; omega))) rfl ?_
 refine wl_val (v_move' (by conv => (lhs; whnf))) rfl ?_
 refine wl_val (v_len_s Try.underlying30 rfl) rfl ?_
 refine wl_val (v_leq rfl rfl) rfl ?_
 refine wl_nil ?_
 refine then_go ?_
 refine wc_if rfl (fun h16 => ?_) (fun h16 => ?_)
 ·refine wc_skip ?_
  refine then_go ?_
  refine wc_block ?_
  refine wc_seq ?_
  refine wc_region ?_
  refine wl_val (v_move' (by conv => (lhs; whnf))) rfl ?_
  refine wl_val (v_move' (by conv => (lhs; whnf))) rfl ?_
  refine wl_val (v_add' (c := ((at' + 49 : Nat) : Int)) rfl rfl (by omega) (by omega) (by omega)) rfl ?_
  refine wl_val (v_move' (by conv => (lhs; whnf))) rfl ?_
  refine wl_val (v_add' (c := ((at' + 57 : Nat) : Int)) rfl rfl (by omega) (by omega) (by omega)) rfl ?_
  refine wl_val (v_sls (at' + 49) (at' + 57) Try.underlying30 TF.t5 rfl ⟨_, _, rfl, rfl⟩ ⟨_, _, rfl, rfl⟩ (by omega) (by omega)) rfl ?_
  have hnx := nextF_at (g := g) (s := UInt64.ofNat N.length) (half := half) (at' := at') (by omega)
  have hp := hb.partB (at' + 49) (at' + 57) (by omega) (by omega)
  rw [show at' + 57 - (at' + 49) = 8 by omega] at hp ⊢
  refine wl_call rfl (c_r14number st.im hp (by rw [List.length_take, List.length_drop]; omega)) rfl ?_
  rintro v23 w ⟨t23, rfl⟩
  have st := st.pure t23
  obtain ⟨n, hn⟩ : ∃ n, n = rd8 ((half.drop (at' + 49)).take 8) := ⟨_, rfl⟩
  rw [← hn] at hnx ⊢
  refine wl_val (v_assign' (by conv => (lhs; whnf))) rfl ?_
  refine wl_nil ?_
  refine then_go ?_
  refine wc_seq ?_
  refine wc_seq ?_
  refine wc_region ?_
  refine wl_val (v_move' (by conv => (lhs; whnf))) rfl ?_
  refine wl_val (v_eql64 (q := 0) rfl rfl) rfl ?_
  refine wl_val (v_move' (by conv => (lhs; whnf))) rfl ?_
  refine wl_valg rfl rfl (fun e => (v_move' (by conv => (lhs; whnf)))) rfl ?_
  refine wl_valg rfl rfl (fun e => (v_move' (by conv => (lhs; whnf)))) rfl ?_
  refine wl_valg rfl rfl (fun e => (v_len_s Try.underlying30 (by first | rfl | exact gx e rfl))) rfl ?_
  refine wl_valg rfl rfl (fun e => (v_move' (by conv => (lhs; whnf)))) rfl ?_
  refine wl_valg rfl rfl (fun e => (v_sub' (c := ((half.length - at' : Nat) : Int)) (by first | rfl | exact gx e rfl) (by first | rfl | exact gx e rfl) (by omega) (by omega) (by omega))) rfl ?_
  refine wl_valg rfl rfl (fun e => (v_sub' (c := ((half.length - at' - 57 : Nat) : Int)) (by first | rfl | exact gx e rfl) (by first | rfl | exact gx e rfl) (by omega) (by omega) (by omega))) rfl ?_
  refine wl_valg rfl rfl (fun e => (v_convi_64 (n := half.length - at' - 57) Try.underlying3 Try.underlying42 (by first | rfl | exact gx e rfl))) rfl ?_
  refine wl_valg rfl rfl (fun e => (v_gtr64 (q := UInt64.ofNat (half.length - at' - 57)) (by first | rfl | exact gx e rfl) (by first | rfl | exact gx e rfl))) rfl ?_
  refine wl_val (v_pickO rfl rfl rfl) rfl ?_
  refine wl_nil ?_
  refine then_go ?_
  refine wc_cond rfl (fun h35 => ?_) (fun h35 => ?_)
  ·refine wc_exit (then_exit (block_miss rfl (then_exit (block_hit ?_))))
   refine then_go ?_
   refine wc_seq ?_
   have hend : recsF g q N.length (half.drop at') = [] := by
    refine recsF_none ?_
    first
     | exact nextF_short (by rw [List.length_drop]; omega)
     | (rw [hnx, if_pos (by
       simp only [Bool.or_eq_true, decide_eq_true_eq, UInt64.toNat_ofNat'] at h35
       rw [Nat.mod_eq_of_lt (by omega)] at h35
       exact h35.imp (fun h => by rw [h]; decide) id)])
     | (rw [hnx, if_neg hnn, if_neg (fun h => by have := of_decide_eq_true hg7; omega)])
     | (rw [hnx, if_neg hnn, if_neg (fun h => by simp at h70; exact h70 h.2.symm)])
   rw [hend, List.append_nil] at hrec
   refine wc_region ?_
   refine wl_val (v_move' (by conv => (lhs; whnf))) rfl ?_
   refine wl_val (v_move' (by conv => (lhs; whnf))) rfl ?_
   refine wl_val (v_assign' (by conv => (lhs; whnf))) rfl ?_
   refine wl_val (v_assign' (by conv => (lhs; whnf))) rfl ?_
   refine wl_nil ?_
   refine then_go ?_
   refine wc_ret ?_
   obtain ⟨m3, hg3, hm3, st3⟩ := st.freezeR (i := 0) rfl (by simp)
   have st3 : St m m3 [] wI _ [] := st3
   exact ret2 rfl rfl (st3.out ⟨_, N, ⟨row_SlM (m := m3) (st.at (i := 0) rfl) hm3, hN.mono hg3.le⟩, hrec.symm, by rw [hrec, ← hate]; rfl⟩)
  ·refine wc_skip ?_
   refine then_go ?_
   refine wc_seq ?_
   have hnn : ¬ (n.toNat < 1 ∨ half.length - at' - 57 < n.toNat) := by
    simp only [Bool.or_eq_false_iff, decide_eq_false_iff_not, UInt64.toNat_ofNat'] at h35
    rw [Nat.mod_eq_of_lt (by omega)] at h35
    intro h
    rcases h with h | h
    ·exact h35.1 (UInt64.toNat_inj.1 (show n.toNat = 0 by omega))
    ·exact h35.2 h
   refine wc_region ?_
   refine wl_val (v_move' (by conv => (lhs; whnf))) rfl ?_
   refine wl_val (v_move' (by conv => (lhs; whnf))) rfl ?_
   refine wl_val (v_add' (c := ((at' + 57 : Nat) : Int)) rfl rfl (by omega) (by omega) (by omega)) rfl ?_
   refine wl_val (v_move' (by conv => (lhs; whnf))) rfl ?_
   refine wl_val (v_add' (c := ((at' + 57 : Nat) : Int)) rfl rfl (by omega) (by omega) (by omega)) rfl ?_
   refine wl_val (v_move' (by conv => (lhs; whnf))) rfl ?_
   refine wl_val (v_conv64i Try.underlying42 Try.underlying3 rfl (by omega)) rfl ?_
   refine wl_val (v_add' (c := ((at' + 57 + n.toNat : Nat) : Int)) rfl rfl (by omega) (by omega) (by omega)) rfl ?_
   refine wl_val (v_sls (at' + 57) (at' + 57 + n.toNat) Try.underlying30 TF.t5 rfl ⟨_, _, rfl, rfl⟩ ⟨_, _, rfl, rfl⟩ (by omega) (by omega)) rfl ?_
   refine wl_val (v_assign' (by conv => (lhs; whnf))) rfl ?_
   refine wl_nil ?_
   refine then_go ?_
   refine wc_seq ?_
   refine wc_region ?_
   refine wl_val (v_move' (by conv => (lhs; whnf))) rfl ?_
   refine wl_val (v_move' (by conv => (lhs; whnf))) rfl ?_
   refine wl_val (v_len_s Try.underlying29 rfl) rfl ?_
   refine wl_val (v_convi_64 Try.underlying3 Try.underlying42 rfl) rfl ?_
   refine wl_val (v_move' (by conv => (lhs; whnf))) rfl ?_
   have hx := hb.partB (at' + 57) (at' + 57 + n.toNat) (by omega) (by omega)
   have hxe : (half.drop (at' + 57)).take (at' + 57 + n.toNat - (at' + 57)) = (half.drop (at' + 57)).take n.toNat := by congr 1; omega
   rw [← hxe] at hnx
   have hxl : ((half.drop (at' + 57)).take (at' + 57 + n.toNat - (at' + 57))).length = n.toNat := by rw [List.length_take, List.length_drop]; omega
   obtain ⟨x, hxx⟩ : ∃ x, x = (half.drop (at' + 57)).take (at' + 57 + n.toNat - (at' + 57)) := ⟨_, rfl⟩
   rw [← hxx] at hx hnx hxl
   refine wl_call rfl (c_rrecord st.im hx (by omega)) rfl ?_
   rintro v50 w ⟨t50, m1, hg1, hi1, hr⟩
   have st := st.grown hg1 t50 hi1
   have hrl := length_recB g (UInt64.ofNat N.length) x
   obtain ⟨ra, rc, hv50, hrc⟩ := hr.opn
   subst hv50
   have hb := hb.mono hg1.le
   have hx := hx.mono hg1.le
   have hN := hN.mono hg1.le
   have hmm : ∀ k o, m k = some o → m1 k = some o := fun k o h => hg1.le k o (hmm k o h)
   refine wl_val (v_assign' (by conv => (lhs; whnf))) rfl ?_
   refine wl_nil ?_
   refine then_go ?_
   refine wc_seq ?_
   refine wc_seq ?_
   rcases Bool.eq_false_or_eq_true (decide ((half.length : Int) < ((at' + (recB g (UInt64.ofNat N.length) x).length : Nat) : Int))) with hg7 | hg7
   ·refine wc_draw TF.mixed ?_
    have st := st.pure (touch_drew _)
    refine fl_val 0 rfl (fun _ => (v_move' (by conv => (lhs; whnf)))) rfl (by kernel_rfl) ?_
    refine fl_val 1 rfl (fun _ => (v_move' (by conv => (lhs; whnf)))) rfl (by kernel_rfl) ?_
    refine fl_val 2 rfl (fun _ => (v_len_s Try.underlying30 rfl)) rfl (by kernel_rfl) ?_
    refine fl_val 3 rfl (fun _ => (v_add' (c := ((at' + (recB g (UInt64.ofNat N.length) x).length : Nat) : Int)) rfl rfl (by omega) (by omega) (by rw [hrl]; unfold recL; omega))) rfl (by kernel_rfl) ?_
    refine fl_val 4 rfl (fun _ => (v_move' (by conv => (lhs; whnf)))) rfl (by kernel_rfl) ?_
    refine fl_val 5 rfl (fun _ => (v_len_s Try.underlying30 rfl)) rfl (by kernel_rfl) ?_
    refine fl_val 6 rfl (fun _ => (wl_valD (v_gtr rfl rfl) hg7)) rfl (by kernel_rfl) ?_
    refine fl_val 7 rfl (fun _ => (v_move' (by conv => (lhs; whnf)))) rfl (by kernel_rfl) ?_
    refine fl_off 8 rfl rfl rfl rfl rfl rfl (by kernel_rfl) ?_
    refine fl_off 9 rfl rfl rfl rfl rfl rfl (by kernel_rfl) ?_
    refine fl_off 10 rfl rfl rfl rfl rfl rfl (by kernel_rfl) ?_
    refine fl_off 11 rfl rfl rfl rfl rfl rfl (by kernel_rfl) ?_
    refine fl_off 12 rfl rfl rfl rfl rfl rfl (by kernel_rfl) ?_
    refine fl_off 13 rfl rfl rfl rfl rfl rfl (by kernel_rfl) ?_
    refine fl_off 14 rfl rfl rfl rfl rfl rfl (by kernel_rfl) ?_
    refine fl_offd 15 rfl rfl rfl rfl rfl rfl (by kernel_rfl) ?_
    refine fl_off 16 rfl rfl rfl rfl rfl rfl (by kernel_rfl) ?_
    refine fl_offd 17 rfl rfl rfl rfl rfl rfl (by kernel_rfl) ?_
    refine fl_off 18 rfl rfl rfl rfl rfl rfl (by kernel_rfl) ?_
    refine fl_val 19 rfl (fun _ => (v_pick rfl)) rfl (by kernel_rfl) ?_
    refine fl_nil (by kernel_rfl) ⟨obl_off rfl rfl rfl rfl rfl rfl, obl_off rfl rfl rfl rfl rfl rfl, trivial⟩ ?_
    refine then_go ?_
    refine wc_true rfl ?_
    refine wc_exit (then_exit (block_miss rfl (then_exit (block_hit ?_))))
    refine then_go ?_
    refine wc_seq ?_
    have hend : recsF g q N.length (half.drop at') = [] := by
     refine recsF_none ?_
     first
      | exact nextF_short (by rw [List.length_drop]; omega)
      | (rw [hnx, if_pos (by
        simp only [Bool.or_eq_true, decide_eq_true_eq, UInt64.toNat_ofNat'] at h35
        rw [Nat.mod_eq_of_lt (by omega)] at h35
        exact h35.imp (fun h => by rw [h]; decide) id)])
      | (rw [hnx, if_neg hnn, if_neg (fun h => by have := of_decide_eq_true hg7; omega)])
      | (rw [hnx, if_neg hnn, if_neg (fun h => by simp at h70; exact h70 h.2.symm)])
    rw [hend, List.append_nil] at hrec
    refine wc_region ?_
    refine wl_val (v_move' (by conv => (lhs; whnf))) rfl ?_
    refine wl_val (v_move' (by conv => (lhs; whnf))) rfl ?_
    refine wl_val (v_assign' (by conv => (lhs; whnf))) rfl ?_
    refine wl_val (v_assign' (by conv => (lhs; whnf))) rfl ?_
    refine wl_nil ?_
    refine then_go ?_
    refine wc_ret ?_
    obtain ⟨m3, hg3, hm3, st3⟩ := st.freezeR (i := 0) rfl (by simp)
    have st3 : St m m3 [] wI _ [] := st3
    exact ret2 rfl rfl (st3.out ⟨_, N, ⟨row_SlM (m := m3) (st.at (i := 0) rfl) hm3, hN.mono hg3.le⟩, hrec.symm, by rw [hrec, ← hate]; rfl⟩)
   ·refine wc_draw TF.mixed ?_
    have st := st.pure (touch_drew _)
    refine fl_val 0 rfl (fun _ => (v_move' (by conv => (lhs; whnf)))) rfl (by kernel_rfl) ?_
    refine fl_val 1 rfl (fun _ => (v_move' (by conv => (lhs; whnf)))) rfl (by kernel_rfl) ?_
    refine fl_val 2 rfl (fun _ => (v_len_s Try.underlying30 rfl)) rfl (by kernel_rfl) ?_
    refine fl_val 3 rfl (fun _ => (v_add' (c := ((at' + (recB g (UInt64.ofNat N.length) x).length : Nat) : Int)) rfl rfl (by omega) (by omega) (by rw [hrl]; unfold recL; omega))) rfl (by kernel_rfl) ?_
    refine fl_val 4 rfl (fun _ => (v_move' (by conv => (lhs; whnf)))) rfl (by kernel_rfl) ?_
    refine fl_val 5 rfl (fun _ => (v_len_s Try.underlying30 rfl)) rfl (by kernel_rfl) ?_
    refine fl_val 6 rfl (fun _ => (wl_valD (v_gtr rfl rfl) hg7)) rfl (by kernel_rfl) ?_
    refine fl_val 7 rfl (fun _ => (v_move' (by conv => (lhs; whnf)))) rfl (by kernel_rfl) ?_
    refine fl_on 8 rfl rfl rfl rfl (fun _ => (v_move' (by conv => (lhs; whnf)))) rfl (by kernel_rfl) ?_
    refine fl_on 9 rfl rfl rfl rfl (fun _ => (v_move' (by conv => (lhs; whnf)))) rfl (by kernel_rfl) ?_
    refine fl_on 10 rfl rfl rfl rfl (fun _ => (v_move' (by conv => (lhs; whnf)))) rfl (by kernel_rfl) ?_
    refine fl_on 11 rfl rfl rfl rfl (fun _ => (v_move' (by conv => (lhs; whnf)))) rfl (by kernel_rfl) ?_
    refine fl_on 12 rfl rfl rfl rfl (fun _ => (v_len_s Try.underlying30 rfl)) rfl (by kernel_rfl) ?_
    refine fl_on 13 rfl rfl rfl rfl (fun _ => (v_add' (c := ((at' + (recB g (UInt64.ofNat N.length) x).length : Nat) : Int)) rfl rfl (by omega) (by omega) (by rw [hrl]; unfold recL; omega))) rfl (by kernel_rfl) ?_
    refine fl_on 14 rfl rfl rfl rfl (fun _ => (v_sls at' (at' + (recB g (UInt64.ofNat N.length) x).length) Try.underlying30 TF.t5 rfl ⟨_, _, rfl, rfl⟩ ⟨_, _, rfl, rfl⟩ (by omega) (by have := of_decide_eq_false hg7; omega))) rfl (by kernel_rfl) ?_
    refine fl_ond 15 rfl rfl rfl rfl (v_b2s Try.underlying30 Try.underlying5 Try.underlying9 st.im (hb.partB at' (at' + (recB g (UInt64.ofNat N.length) x).length) (by omega) (by have := of_decide_eq_false hg7; omega)) rfl) rfl (by kernel_rfl) ?_
    refine fl_on 16 rfl rfl rfl rfl (fun _ => (v_move' (by conv => (lhs; whnf)))) rfl (by kernel_rfl) ?_
    refine fl_ond 17 rfl rfl rfl rfl (v_b2s Try.underlying30 Try.underlying5 Try.underlying9 st.im hr rfl) rfl (by kernel_rfl) ?_
    refine fl_on 18 rfl rfl rfl rfl (fun _ => (v_nesJ rfl rfl)) rfl (by kernel_rfl) ?_
    refine fl_val 19 rfl (fun _ => (v_pick rfl)) rfl (by kernel_rfl) ?_
    refine fl_nil (by kernel_rfl) ⟨obl_on rfl rfl rfl rfl rfl (v_b2s Try.underlying30 Try.underlying5 Try.underlying9 st.im hr rfl), obl_on rfl rfl rfl rfl rfl (v_b2s Try.underlying30 Try.underlying5 Try.underlying9 st.im (hb.partB at' (at' + (recB g (UInt64.ofNat N.length) x).length) (by omega) (by have := of_decide_eq_false hg7; omega)) rfl), trivial⟩ ?_
    refine then_go ?_
    refine wc_cond rfl (fun h70 => ?_) (fun h70 => ?_)
    ·refine wc_exit (then_exit (block_miss rfl (then_exit (block_hit ?_))))
     refine then_go ?_
     refine wc_seq ?_
     have hend : recsF g q N.length (half.drop at') = [] := by
      refine recsF_none ?_
      first
       | exact nextF_short (by rw [List.length_drop]; omega)
       | (rw [hnx, if_pos (by
         simp only [Bool.or_eq_true, decide_eq_true_eq, UInt64.toNat_ofNat'] at h35
         rw [Nat.mod_eq_of_lt (by omega)] at h35
         exact h35.imp (fun h => by rw [h]; decide) id)])
       | (rw [hnx, if_neg hnn, if_neg (fun h => by have := of_decide_eq_true hg7; omega)])
       | (rw [hnx, if_neg hnn, if_neg (fun h => by simp at h70; exact h70 h.2.symm)])
     rw [hend, List.append_nil] at hrec
     refine wc_region ?_
     refine wl_val (v_move' (by conv => (lhs; whnf))) rfl ?_
     refine wl_val (v_move' (by conv => (lhs; whnf))) rfl ?_
     refine wl_val (v_assign' (by conv => (lhs; whnf))) rfl ?_
     refine wl_val (v_assign' (by conv => (lhs; whnf))) rfl ?_
     refine wl_nil ?_
     refine then_go ?_
     refine wc_ret ?_
     obtain ⟨m3, hg3, hm3, st3⟩ := st.freezeR (i := 0) rfl (by simp)
     have st3 : St m m3 [] wI _ [] := st3
     exact ret2 rfl rfl (st3.out ⟨_, N, ⟨row_SlM (m := m3) (st.at (i := 0) rfl) hm3, hN.mono hg3.le⟩, hrec.symm, by rw [hrec, ← hate]; rfl⟩)
    ·refine wc_skip ?_
     refine then_go ?_
     refine wc_seq ?_
     have hle : at' + (recB g (UInt64.ofNat N.length) x).length ≤ half.length := by have := of_decide_eq_false hg7; omega
     have hnxs : nextF g (UInt64.ofNat N.length) (half.drop at') = some x := by
      rw [hnx, if_neg hnn, if_pos ⟨hle, by have := of_decide_eq_false h70; simp at this; exact this.symm⟩]
     refine wc_region ?_
     refine wl_val (v_assign' (by conv => (lhs; whnf))) rfl ?_
     refine wl_nil ?_
     refine then_go ?_
     refine wc_seq ?_
     have st := nilRow st 5 1
     refine wc_region ?_
     refine wl_val (v_move' (by conv => (lhs; whnf))) rfl ?_
     refine wl_val (v_move' (by conv => (lhs; whnf))) rfl ?_
     refine wl_val (v_move' (by conv => (lhs; whnf))) rfl ?_
     refine wl_appB (l := []) (l2 := x) st Try.underlying30 Try.underlying30 (.inr ⟨_, rfl⟩) TF.t5 TF.z5 rfl rfl (hx.src st.im (one_bs _)) (by simp; omega) (by simp; omega) rfl ?_
     intro v74 w st hv74
     have st0 := st
     obtain ⟨m2, hg2, hm2, st⟩ := st.freezeR (i := 0) rfl (by simp)
     have hxv : SlM m2 v74 1 x.length (bs x) := row_SlM (m := m2) (st0.at (i := 0) rfl) hm2
     have st : St m m2 [] wI w [lrE (.slice la N.length lc) N] := st
     have hN := hN.mono hg2.le
     have hmm : ∀ k o, m k = some o → m2 k = some o := fun k o h => hg2.le k o (hmm k o h)
     refine wl_svOne (v := v74) Try.underlying29 TF.t30 TF.z30 hv74 rfl st rfl ?_
     intro b75 w st
     refine wl_lrApp (x := x) 0 st rfl hv74 rfl rfl (by omega) rfl ?_
     intro v76 w st
     refine wl_val (v_assign' (by conv => (lhs; whnf))) rfl ?_
     refine wl_nil ?_
     refine then_go ?_
     refine wc_region ?_
     refine wl_val (v_move' (by conv => (lhs; whnf))) rfl ?_
     refine wl_val (v_move' (by conv => (lhs; whnf))) rfl ?_
     refine wl_val (v_len_s Try.underlying30 rfl) rfl ?_
     refine wl_val (v_add' (c := ((at' + (recB g (UInt64.ofNat N.length) x).length : Nat) : Int)) rfl rfl (by omega) (by omega) (by omega)) rfl ?_
     refine wl_val (v_assign' (by conv => (lhs; whnf))) rfl ?_
     refine wl_nil ?_
     refine block_go (then_go ?_)
     obtain ⟨k1, k2, k3, k4, k5⟩ := nextF_len hnxs
     rw [List.length_drop] at hq k2
     obtain ⟨q, rfl⟩ : ∃ q', q = q' + 1 := ⟨q - 1, by omega⟩
     rw [recsF_some hnxs, List.drop_drop] at hrec
     have e2 : 64 + sizeL ((N ++ [(x, v74)]).map (·.1)) = at' + recL x.length := by rw [List.map_append, List.map_singleton, sizeL_snoc]; show 64 + (sizeL (N.map (·.1)) + recL x.length) = _; omega
     refine ⟨q, by simp, m2, v76, N ++ [(x, v74)], by rw [e2, List.length_drop]; omega, by rw [e2]; omega, ?_, rfl, rfl, rfl, by rw [e2, ← hrl]; rfl, st, hmm, hN.snoc hxv⟩
     rw [e2, hrec, List.map_append, List.length_append, List.append_assoc]
     rfl
 ·refine wc_exit (then_exit (then_exit (block_hit ?_)))
  refine then_go ?_
  refine wc_seq ?_
  have hend : recsF g q N.length (half.drop at') = [] := by
   refine recsF_none ?_
   first
    | exact nextF_short (by rw [List.length_drop]; omega)
    | (rw [hnx, if_pos (by
      simp only [Bool.or_eq_true, decide_eq_true_eq, UInt64.toNat_ofNat'] at h35
      rw [Nat.mod_eq_of_lt (by omega)] at h35
      exact h35.imp (fun h => by rw [h]; decide) id)])
    | (rw [hnx, if_neg hnn, if_neg (fun h => by have := of_decide_eq_true hg7; omega)])
    | (rw [hnx, if_neg hnn, if_neg (fun h => by simp at h70; exact h70 h.2.symm)])
  rw [hend, List.append_nil] at hrec
  refine wc_region ?_
  refine wl_val (v_move' (by conv => (lhs; whnf))) rfl ?_
  refine wl_val (v_move' (by conv => (lhs; whnf))) rfl ?_
  refine wl_val (v_assign' (by conv => (lhs; whnf))) rfl ?_
  refine wl_val (v_assign' (by conv => (lhs; whnf))) rfl ?_
  refine wl_nil ?_
  refine then_go ?_
  refine wc_ret ?_
  obtain ⟨m3, hg3, hm3, st3⟩ := st.freezeR (i := 0) rfl (by simp)
  have st3 : St m m3 [] wI _ [] := st3
  exact ret2 rfl rfl (st3.out ⟨_, N, ⟨row_SlM (m := m3) (st.at (i := 0) rfl) hm3, hN.mono hg3.le⟩, hrec.symm, by rw [hrec, ← hate]; rfl⟩)
end
end Go.Proofs.Ytnaoafogdplnaaa

namespace Go.Proofs.Ytnaoafogdplnaaa
open Go Go.RowKit K SH DK JR
def checkE (b : By) : Nat := if 1 ≤ b.length ∧ b.length ≤ 1048576 then 0 else 1
def appR (L : List By) (b : By) (n : Nat) : Nat := if checkE b ≠ 0 then 1 else if sizeL (L ++ [b]) ≤ n / 2 * 64 - 64 then 0 else 13
def resR (M : List By) (n : Nat) : Nat := if ∃ b ∈ M, checkE b ≠ 0 then 1 else if sizeL M ≤ n / 2 * 64 - 64 then 0 else 13
theorem sizeL_le {L : List By} (h : ∀ x ∈ L, x.length ≤ 1000000000) : sizeL L ≤ L.length * 1000000120 := by
 induction L with
 | nil => simp [sizeL]
 | cons x L ih =>
  have h1 := h x List.mem_cons_self
  have h2 := ih fun y hy => h y (List.mem_cons_of_mem _ hy)
  rw [sizeL_cons, List.length_cons]
  unfold recL
  omega
section
variable {m : Mem} {wI : World}
def ReadOut (m : Mem) (v : Value) (b : By) : Prop := ∃ lv N, PcsM m lv N ∧ N.map (·.1) = (readF b).2.1 ∧ v = .tuple #[u64 (readF b).1, lv, .int .i64 (readF b).2.2]
theorem c_rRead {v : Value} {b : By} (him : Im m wI) (hb : SlM m v 1 b.length (bs b)) (hl : b.length ≤ 500000000) : Ret Try.prog 22 #[v] wI fun v' w' => Out m wI w' fun m' => ReadOut m' v' b := by
 have st := St.start him
 obtain ⟨ba, bc, rfl, hbc⟩ := hb.opn
 refine ret_of Try.call22 Try.func22 rfl Try.ntmps22 Try.results22 rfl ?_
 refine wc_seq ?_
 refine wc_region ?_
 refine wl_val (v_assign' (by conv => (lhs; whnf))) rfl ?_
 refine wl_val (v_assign' (by conv => (lhs; whnf))) rfl ?_
 refine wl_val (v_assign' (by conv => (lhs; whnf))) rfl ?_
 refine wl_nil ?_
 refine then_go ?_
 refine wc_seq ?_
 refine wc_seq ?_
 refine wc_region ?_
 refine wl_val (v_move' (by conv => (lhs; whnf))) rfl ?_
 refine wl_val (v_len_s Try.underlying30 rfl) rfl ?_
 refine wl_val (v_rem' (c := ((b.length % 64 : Nat) : Int)) rfl rfl (by omega) (by omega) (by omega)) rfl ?_
 refine wl_val (v_neq rfl rfl) rfl ?_
 refine wl_val (v_move' (by conv => (lhs; whnf))) rfl ?_
 refine wl_valg rfl rfl (fun e => (v_move' (by conv => (lhs; whnf)))) rfl ?_
 refine wl_valg rfl rfl (fun e => (v_len_s Try.underlying30 (by first | rfl | exact gx e rfl))) rfl ?_
 refine wl_valg rfl rfl (fun e => (v_lss (by first | rfl | exact gx e rfl) (by first | rfl | exact gx e rfl))) rfl ?_
 refine wl_val (v_pickO rfl rfl rfl) rfl ?_
 refine wl_nil ?_
 refine then_go ?_
 refine wc_cond rfl (fun h17 => ?_) (fun h17 => ?_)
 ·refine wc_seq ?_
  refine wc_region ?_
  refine wl_val (v_assign' (by conv => (lhs; whnf))) rfl ?_
  refine wl_val (v_assign' (by conv => (lhs; whnf))) rfl ?_
  refine wl_val (v_assign' (by conv => (lhs; whnf))) rfl ?_
  refine wl_nil ?_
  refine then_go ?_
  refine wc_ret (then_ret ?_)
  have hr : readF b = (0, [], 1) := by
   unfold readF
   rw [if_pos]
   simp only [Bool.or_eq_true, decide_eq_true_eq] at h17
   omega
  exact ret3 rfl rfl rfl (st.out ⟨.slice none 0 0, [], ⟨SlM.nil, by intro x hx; cases hx⟩, by rw [hr]; rfl, by rw [hr]; rfl⟩)
 ·refine wc_skip ?_
  refine then_go ?_
  refine wc_seq ?_
  refine wc_region ?_
  refine wl_val (v_move' (by conv => (lhs; whnf))) rfl ?_
  have hn : ¬ (b.length % 64 ≠ 0 ∨ b.length < 512) := by
   simp only [Bool.or_eq_false_iff, decide_eq_false_iff_not] at h17
   omega
  refine wl_call rfl (c_rpick st.im hb hl (by omega)) rfl ?_
  rintro v20 w ⟨t20, rfl⟩
  have st := st.pure t20
  have hrd : readF b = if (pickF b (hlf b.length)).2 = 0 then (0, [], 0) else ((pickF b (hlf b.length)).2, recs (pickF b (hlf b.length)).2 (halfB b (hlf b.length) (pickF b (hlf b.length)).1), 0) := by
   unfold readF
   rw [if_neg hn]
   rfl
  have hk := pickF_le (b := b) (n := hlf b.length)
  obtain ⟨k, hke⟩ : ∃ k, k = (pickF b (hlf b.length)).1 := ⟨_, rfl⟩
  obtain ⟨g, hge⟩ : ∃ g, g = (pickF b (hlf b.length)).2 := ⟨_, rfl⟩
  rw [← hke, ← hge] at hrd ⊢
  rw [← hke] at hk
  have h64 : 64 ≤ hlf b.length := by unfold hlf; omega
  have hle : hlf b.length ≤ b.length := by unfold hlf; omega
  have hl0 := length_halfB (b := b) hk
  refine wl_val (v_move' (by conv => (lhs; whnf))) rfl ?_
  refine wl_val (v_extract rfl rfl) rfl ?_
  refine wl_val (v_extract rfl rfl) rfl ?_
  refine wl_val (v_assign' (by conv => (lhs; whnf))) rfl ?_
  refine wl_val (v_assign' (by conv => (lhs; whnf))) rfl ?_
  refine wl_nil ?_
  refine then_go ?_
  refine wc_seq ?_
  refine wc_seq ?_
  refine wc_region ?_
  refine wl_val (v_move' (by conv => (lhs; whnf))) rfl ?_
  refine wl_val (v_eql64 (q := 0) rfl rfl) rfl ?_
  refine wl_nil ?_
  refine then_go ?_
  refine wc_if rfl (fun h24 => ?_) (fun h24 => ?_)
  ·refine wc_seq ?_
   refine wc_region ?_
   refine wl_val (v_assign' (by conv => (lhs; whnf))) rfl ?_
   refine wl_val (v_assign' (by conv => (lhs; whnf))) rfl ?_
   refine wl_val (v_assign' (by conv => (lhs; whnf))) rfl ?_
   refine wl_nil ?_
   refine then_go ?_
   refine wc_ret (then_ret ?_)
   rw [if_pos h24] at hrd
   exact ret3 rfl rfl rfl (st.out ⟨.slice none 0 0, [], ⟨SlM.nil, by intro x hx; cases hx⟩, by rw [hrd]; rfl, by rw [hrd]; rfl⟩)
  ·refine wc_skip ?_
   refine then_go ?_
   refine wc_seq ?_
   refine wc_region ?_
   refine wl_val (v_move' (by conv => (lhs; whnf))) rfl ?_
   refine wl_val (v_move' (by conv => (lhs; whnf))) rfl ?_
   refine wl_val (v_move' (by conv => (lhs; whnf))) rfl ?_
   refine wl_call rfl (c_rhalf st.im hk hbc hl) rfl ?_
   rintro v29 w ⟨t29, rfl⟩
   have st := st.pure t29
   refine wl_call rfl (c_records st.im (half_slM hb hk) (by omega) (by omega)) rfl ?_
   rintro v30 w ⟨t30, m1, hg1, hi1, lv, N, hN, hNe, rfl⟩
   have st := st.grown hg1 t30 hi1
   refine wl_val (v_move' (by conv => (lhs; whnf))) rfl ?_
   refine wl_val (v_extract rfl rfl) rfl ?_
   refine wl_val (v_extract rfl rfl) rfl ?_
   refine wl_val (v_assign' (by conv => (lhs; whnf))) rfl ?_
   refine wl_val (v_assign' (by conv => (lhs; whnf))) rfl ?_
   refine wl_nil ?_
   refine then_go ?_
   refine wc_seq ?_
   refine wc_region ?_
   refine wl_val (v_move' (by conv => (lhs; whnf))) rfl ?_
   refine wl_val (v_move' (by conv => (lhs; whnf))) rfl ?_
   refine wl_val (v_assign' (by conv => (lhs; whnf))) rfl ?_
   refine wl_val (v_assign' (by conv => (lhs; whnf))) rfl ?_
   refine wl_val (v_assign' (by conv => (lhs; whnf))) rfl ?_
   refine wl_nil ?_
   refine then_go ?_
   refine wc_ret ?_
   rw [if_neg h24] at hrd
   exact ret3 rfl rfl rfl (st.out ⟨lv, N, hN, by rw [hrd]; exact hNe, by rw [hrd]; rfl⟩)
theorem c_rsize {v : Value} {N : List (By × Value)} (him : Im m wI) (hN : PcsM m v N) (hNl : ∀ x ∈ N, x.1.length ≤ 1000000000) (hNn : N.length ≤ 1048577) : Ret Try.prog 48 #[v] wI fun v' w' => Tch wI w' [] [] ∧ v' = .int .i64 (sizeL (N.map (·.1)) : Nat) := by
 have st := St.start him
 obtain ⟨na, nc, hlv⟩ : ∃ a c, v = .slice a N.length c := by obtain ⟨⟨_, a, c, h, _⟩, _⟩ := hN; exact ⟨a, c, h⟩
 subst hlv
 refine ret_of Try.call48 Try.func48 rfl Try.ntmps48 Try.results48 rfl ?_
 refine wc_seq ?_
 refine wc_region ?_
 refine wl_val (v_assign' (by conv => (lhs; whnf))) rfl ?_
 refine wl_nil ?_
 refine then_go ?_
 refine wc_seq ?_
 refine wc_region ?_
 refine wl_val (v_assign' (by conv => (lhs; whnf))) rfl ?_
 refine wl_nil ?_
 refine then_go ?_
 refine wc_seq ?_
 refine wc_seq ?_
 refine wc_region ?_
 refine wl_val (v_assign' (by conv => (lhs; whnf))) rfl ?_
 refine wl_nil ?_
 refine then_go ?_
 refine wc_block ?_
 refine wc_loop (S := Nat) (fun q r w' => ∃ (i : Nat), q + i = N.length ∧ r 0 = .slice na N.length nc ∧ r 3 = .int .i64 ((sizeL ((N.take i).map (·.1)) : Nat) : Int) ∧ r 4 = .int .i64 i ∧ St m m [] wI w' []) id N.length ⟨0, by omega, rfl, rfl, rfl, st⟩ ?_
 clear st
 rintro q r w2 ⟨i, hqi, g0, g3, g4, st⟩
 refine wc_o 0 g0 (wc_o 3 g3 (wc_o 4 g4 ?_))
 refine wc_seq ?_
 refine wc_seq ?_
 refine wc_region ?_
 refine wl_val (v_move' (by conv => (lhs; whnf))) rfl ?_
 refine wl_val (v_move' (by conv => (lhs; whnf))) rfl ?_
 refine wl_val (v_len_s Try.underlying29 rfl) rfl ?_
 refine wl_val (v_lss rfl rfl) rfl ?_
 refine wl_nil ?_
 refine then_go ?_
 refine wc_if rfl (fun h8 => ?_) (fun h8 => ?_)
 ·refine wc_skip ?_
  refine then_go ?_
  refine wc_seq ?_
  refine wc_block ?_
  have hi : i < N.length := by omega
  obtain ⟨nb, no, _, hnv, hsk, hrk⟩ := hN.elem hi
  cases hnv
  have hxl := hNl _ (List.getElem_mem hi)
  obtain ⟨_, qa, qc, hqv, _⟩ := id hsk
  rw [hqv] at hrk
  have hsz : sizeL ((N.take i).map (·.1)) ≤ 1048577 * 1000000120 := Nat.le_trans (sizeL_le fun x hx => by obtain ⟨y, hy, rfl⟩ := List.mem_map.1 hx; exact hNl y (List.mem_of_mem_take hy)) (Nat.mul_le_mul_right _ (by rw [List.length_map, List.length_take]; omega))
  have hrl : recL N[i].1.length ≤ N[i].1.length + 120 := by unfold recL; omega
  refine wc_region ?_
  refine wl_val (v_move' (by conv => (lhs; whnf))) rfl ?_
  refine wl_val (v_move' (by conv => (lhs; whnf))) rfl ?_
  refine wl_val (v_move' (by conv => (lhs; whnf))) rfl ?_
  refine wl_val (v_ias i Try.underlying29 TF.t30 rfl rfl (by first | rfl | omega) (by first | omega | (dsimp only at *; omega))) rfl ?_
  refine wl_val (v_load rfl (hrk st.im)) rfl ?_
  refine wl_val (v_len_s Try.underlying30 rfl) rfl ?_
  refine wl_val (v_add' (c := ((N[i].1.length + 57 : Nat) : Int)) rfl rfl (by omega) (by omega) (by omega)) rfl ?_
  refine wl_val (v_add' (c := ((N[i].1.length + 120 : Nat) : Int)) rfl rfl (by omega) (by omega) (by omega)) rfl ?_
  refine wl_val (v_to (v' := .int .i64 (((N[i].1.length + 120) / 64 : Nat) : Int)) (v_quo' rfl rfl (by omega) (by omega) rfl (by omega)) (by rw [Int.natCast_ediv]; rfl)) rfl ?_
  refine wl_val (v_mul' (c := ((recL N[i].1.length : Nat) : Int)) rfl rfl (by unfold recL; omega) (by omega) (by omega)) rfl ?_
  refine wl_val (v_add' (c := ((sizeL ((N.take i).map (·.1)) + recL N[i].1.length : Nat) : Int)) rfl rfl (by omega) (by omega) (by omega)) rfl ?_
  refine wl_val (v_assign' (by conv => (lhs; whnf))) rfl ?_
  refine wl_nil ?_
  refine block_go (then_go ?_)
  refine wc_region ?_
  refine wl_val (v_move' (by conv => (lhs; whnf))) rfl ?_
  refine wl_val (v_add' (c := ((i + 1 : Nat) : Int)) rfl rfl (by omega) (by omega) (by omega)) rfl ?_
  refine wl_val (v_assign' (by conv => (lhs; whnf))) rfl ?_
  refine wl_nil ?_
  refine then_go ?_
  refine ⟨q - 1, by simp; omega, i + 1, by omega, rfl, ?_, rfl, st⟩
  rw [List.take_succ_eq_append_getElem hi, List.map_append, List.map_singleton, sizeL_snoc]
  rfl
 ·refine wc_exit (then_exit (then_exit (block_hit ?_)))
  refine then_go ?_
  refine wc_seq ?_
  refine wc_region ?_
  refine wl_val (v_move' (by conv => (lhs; whnf))) rfl ?_
  refine wl_val (v_assign' (by conv => (lhs; whnf))) rfl ?_
  refine wl_nil ?_
  refine then_go ?_
  refine wc_ret ?_
  have hiN : i = N.length := by omega
  subst hiN
  exact ret1 rfl ⟨st.touch, by rw [List.take_length]; rfl⟩
theorem c_fits {v : Value} {N : List (By × Value)} {n : Nat} (him : Im m wI) (hN : PcsM m v N) (hNl : ∀ x ∈ N, x.1.length ≤ 1000000000) (hNn : N.length ≤ 1048577) (hn : n ≤ 1000000) (hn2 : 2 ≤ n) : Ret Try.prog 46 #[v, .int .i64 n] wI fun v' w' => Tch wI w' [] [] ∧ v' = .bool (decide (sizeL (N.map (·.1)) ≤ n / 2 * 64 - 64)) := by
 have st := St.start him
 refine ret_of Try.call46 Try.func46 rfl Try.ntmps46 Try.results46 rfl ?_
 refine wc_seq ?_
 refine wc_region ?_
 refine wl_val (v_assign' (by conv => (lhs; whnf))) rfl ?_
 refine wl_nil ?_
 refine then_go ?_
 refine wc_seq ?_
 refine wc_region ?_
 refine wl_val (v_move' (by conv => (lhs; whnf))) rfl ?_
 refine wl_call rfl (c_rsize st.im hN hNl hNn) rfl ?_
 rintro v6 w ⟨t6, rfl⟩
 have st := st.pure t6
 refine wl_val (v_move' (by conv => (lhs; whnf))) rfl ?_
 refine wl_val (v_to (v' := .int .i64 ((n / 2 : Nat) : Int)) (v_quo' rfl rfl (by omega) (by omega) rfl (by omega)) (by rw [Int.natCast_ediv]; rfl)) rfl ?_
 refine wl_val (v_mul' (c := ((n / 2 * 64 : Nat) : Int)) rfl rfl (by omega) (by omega) (by omega)) rfl ?_
 refine wl_val (v_sub' (c := ((n / 2 * 64 - 64 : Nat) : Int)) rfl rfl (by omega) (by omega) (by omega)) rfl ?_
 refine wl_val (wl_valD (v_leq rfl rfl) (q := decide (sizeL (N.map (·.1)) ≤ n / 2 * 64 - 64)) (by rw [decide_eq_decide]; omega)) rfl ?_
 refine wl_val (v_assign' (by conv => (lhs; whnf))) rfl ?_
 refine wl_nil ?_
 refine then_go ?_
 refine wc_ret ?_
 exact ret1 rfl ⟨st.touch, rfl⟩
def roomR (L : List By) (n : Nat) : Nat := min (n / 2 * 64 - 64 - sizeL L - 57) 1048576
theorem c_rroom {v : Value} {N : List (By × Value)} {n : Nat} (him : Im m wI) (hN : PcsM m v N) (hNl : ∀ x ∈ N, x.1.length ≤ 1000000000) (hNn : N.length ≤ 1048577) (hn : n ≤ 1000000) (hn2 : 2 ≤ n) : Ret Try.prog 21 #[v, .int .i64 n] wI fun v' w' => Tch wI w' [] [] ∧ v' = .int .i64 (roomR (N.map (·.1)) n : Nat) := by
 have st := St.start him
 have hsz : sizeL (N.map (·.1)) ≤ 1048577 * 1000000120 := Nat.le_trans (sizeL_le fun x hx => by obtain ⟨y, hy, rfl⟩ := List.mem_map.1 hx; exact hNl y hy) (Nat.mul_le_mul_right _ (by rw [List.length_map]; omega))
 obtain ⟨z, hz⟩ : ∃ z : Int, z = ((n / 2 * 64 - 64 : Nat) : Int) - (sizeL (N.map (·.1)) : Nat) - 57 := ⟨_, rfl⟩
 refine ret_of Try.call21 Try.func21 rfl Try.ntmps21 Try.results21 rfl ?_
 refine wc_seq ?_
 refine wc_region ?_
 refine wl_val (v_assign' (by conv => (lhs; whnf))) rfl ?_
 refine wl_nil ?_
 refine then_go ?_
 refine wc_seq ?_
 refine wc_region ?_
 refine wl_val (v_move' (by conv => (lhs; whnf))) rfl ?_
 refine wl_val (v_to (v' := .int .i64 ((n / 2 : Nat) : Int)) (v_quo' rfl rfl (by omega) (by omega) rfl (by omega)) (by rw [Int.natCast_ediv]; rfl)) rfl ?_
 refine wl_val (v_mul' (c := ((n / 2 * 64 : Nat) : Int)) rfl rfl (by omega) (by omega) (by omega)) rfl ?_
 refine wl_val (v_sub' (c := ((n / 2 * 64 - 64 : Nat) : Int)) rfl rfl (by omega) (by omega) (by omega)) rfl ?_
 refine wl_val (v_move' (by conv => (lhs; whnf))) rfl ?_
 refine wl_call rfl (c_rsize st.im hN hNl hNn) rfl ?_
 rintro v11 w ⟨t11, rfl⟩
 have st := st.pure t11
 refine wl_val (v_sub' (c := ((n / 2 * 64 - 64 : Nat) : Int) - (sizeL (N.map (·.1)) : Nat)) rfl rfl (by omega) (by omega) (by omega)) rfl ?_
 refine wl_val (v_sub' (c := z) rfl rfl (by omega) (by omega) (by omega)) rfl ?_
 refine wl_val (v_assign' (by conv => (lhs; whnf))) rfl ?_
 refine wl_nil ?_
 refine then_go ?_
 refine wc_seq ?_
 refine wc_seq ?_
 refine wc_region ?_
 refine wl_val (v_move' (by conv => (lhs; whnf))) rfl ?_
 refine wl_val (v_gtr rfl rfl) rfl ?_
 refine wl_nil ?_
 refine then_go ?_
 refine wc_if rfl (fun h15 => ?_) (fun h15 => ?_)
 ·refine wc_region ?_
  refine wl_val (v_assign' (by conv => (lhs; whnf))) rfl ?_
  refine wl_nil ?_
  refine then_go ?_
  refine wc_seq ?_
  refine wc_seq ?_
  refine wc_region ?_
  refine wl_val (v_move' (by conv => (lhs; whnf))) rfl ?_
  refine wl_val (v_lss rfl rfl) rfl ?_
  refine wl_nil ?_
  refine then_go ?_
  refine wc_if rfl (fun h17 => ?_) (fun h17 => ?_)
  ·refine wc_seq ?_
   refine wc_region ?_
   refine wl_val (v_assign' (by conv => (lhs; whnf))) rfl ?_
   refine wl_nil ?_
   refine then_go ?_
   refine wc_ret (then_ret ?_)
   exact ret1 (v := .int .i64 0) rfl ⟨st.touch, by first | (exact absurd h17 (by decide)) | (congr 1; unfold roomR; omega)⟩
  ·refine wc_skip ?_
   refine then_go ?_
   refine wc_seq ?_
   refine wc_region ?_
   refine wl_val (v_move' (by conv => (lhs; whnf))) rfl ?_
   refine wl_val (v_assign' (by conv => (lhs; whnf))) rfl ?_
   refine wl_nil ?_
   refine then_go ?_
   refine wc_ret ?_
   exact ret1 (v := .int .i64 1048576) rfl ⟨st.touch, by congr 1; unfold roomR; omega⟩
 ·refine wc_skip ?_
  refine then_go ?_
  refine wc_seq ?_
  refine wc_seq ?_
  refine wc_region ?_
  refine wl_val (v_move' (by conv => (lhs; whnf))) rfl ?_
  refine wl_val (v_lss rfl rfl) rfl ?_
  refine wl_nil ?_
  refine then_go ?_
  refine wc_if rfl (fun h17 => ?_) (fun h17 => ?_)
  ·refine wc_seq ?_
   refine wc_region ?_
   refine wl_val (v_assign' (by conv => (lhs; whnf))) rfl ?_
   refine wl_nil ?_
   refine then_go ?_
   refine wc_ret (then_ret ?_)
   exact ret1 (v := .int .i64 0) rfl ⟨st.touch, by congr 1; unfold roomR; omega⟩
  ·refine wc_skip ?_
   refine then_go ?_
   refine wc_seq ?_
   refine wc_region ?_
   refine wl_val (v_move' (by conv => (lhs; whnf))) rfl ?_
   refine wl_val (v_assign' (by conv => (lhs; whnf))) rfl ?_
   refine wl_nil ?_
   refine then_go ?_
   refine wc_ret ?_
   exact ret1 (v := .int .i64 z) rfl ⟨st.touch, by congr 1; unfold roomR; omega⟩
theorem c_rcheck {v : Value} {b : By} (him : Im m wI) (hb : SlM m v 1 b.length (bs b)) : Ret Try.prog 35 #[v] wI fun v' w' => Tch wI w' [] [] ∧ v' = .int .i64 (checkE b) := by
 have st := St.start him
 obtain ⟨ba, bc, rfl, hbc⟩ := hb.opn
 refine ret_of Try.call35 Try.func35 rfl Try.ntmps35 Try.results35 rfl ?_
 refine wc_seq ?_
 refine wc_region ?_
 refine wl_val (v_assign' (by conv => (lhs; whnf))) rfl ?_
 refine wl_nil ?_
 refine then_go ?_
 refine wc_seq ?_
 refine wc_seq ?_
 refine wc_region ?_
 refine wl_val (v_move' (by conv => (lhs; whnf))) rfl ?_
 refine wl_val (v_len_s Try.underlying30 rfl) rfl ?_
 refine wl_val (v_eql rfl rfl) rfl ?_
 refine wl_val (v_move' (by conv => (lhs; whnf))) rfl ?_
 refine wl_valg rfl rfl (fun e => (v_move' (by conv => (lhs; whnf)))) rfl ?_
 refine wl_valg rfl rfl (fun e => (v_len_s Try.underlying30 (by first | rfl | exact gx e rfl))) rfl ?_
 refine wl_valg rfl rfl (fun e => (v_gtr (by first | rfl | exact gx e rfl) (by first | rfl | exact gx e rfl))) rfl ?_
 refine wl_val (v_pickO rfl rfl rfl) rfl ?_
 refine wl_nil ?_
 refine then_go ?_
 refine wc_cond rfl (fun h10 => ?_) (fun h10 => ?_)
 ·refine wc_seq ?_
  refine wc_region ?_
  refine wl_val (v_assign' (by conv => (lhs; whnf))) rfl ?_
  refine wl_nil ?_
  refine then_go ?_
  refine wc_ret (then_ret ?_)
  exact ret1 rfl ⟨st.touch, by unfold checkE; rw [if_neg (fun h => by rw [Bool.or_eq_true, decide_eq_true_eq, decide_eq_true_eq] at h10; omega)]; rfl⟩
 ·refine wc_skip ?_
  refine then_go ?_
  refine wc_seq ?_
  refine wc_region ?_
  refine wl_val (v_assign' (by conv => (lhs; whnf))) rfl ?_
  refine wl_nil ?_
  refine then_go ?_
  refine wc_ret ?_
  exact ret1 rfl ⟨st.touch, by unfold checkE; rw [if_pos (by rw [Bool.or_eq_false_iff, decide_eq_false_iff_not, decide_eq_false_iff_not] at h10; omega)]; rfl⟩
end
end Go.Proofs.Ytnaoafogdplnaaa

namespace Go.Proofs.Ytnaoafogdplnaaa
open Go Go.RowKit K SH DK JR
namespace JR
def writesD (n : Nat) : DS → Nat → List By → DS × Int
 | d, _, [] => syncD d
 | d, i, c :: cs => if (writeD d n i c).2 ≠ 0 then writeD d n i c else writesD n (writeD d n i c).1 (i + 1) cs
def chunk (b : By) : List By := (List.range (b.length / 64)).map fun j => (b.drop (64 * j)).take 64
def putD (n : Nat) (d : DS) (i : Nat) (b : By) : DS × Int := writesD n d i (chunk b)
structure LG where
 half : Nat
 gen : UInt64
 fin : Nat
def overD (n : Nat) (d : DS) (s : LG) (L : List By) : DS × LG × Int :=
 if n / 2 * 64 - 64 < sizeL L then (d, s, 13) else
 if (putD n d ((1 - s.half) * (n / 2)) (List.replicate (n / 2 * 64) 0)).2 ≠ 0 then ((putD n d ((1 - s.half) * (n / 2)) (List.replicate (n / 2 * 64) 0)).1, s, (putD n d ((1 - s.half) * (n / 2)) (List.replicate (n / 2 * 64) 0)).2) else
 if (putD n (putD n d ((1 - s.half) * (n / 2)) (List.replicate (n / 2 * 64) 0)).1 ((1 - s.half) * (n / 2) + 1) (allB (s.gen + 1) 0 L)).2 ≠ 0 then ((putD n (putD n d ((1 - s.half) * (n / 2)) (List.replicate (n / 2 * 64) 0)).1 ((1 - s.half) * (n / 2) + 1) (allB (s.gen + 1) 0 L)).1, s, (putD n (putD n d ((1 - s.half) * (n / 2)) (List.replicate (n / 2 * 64) 0)).1 ((1 - s.half) * (n / 2) + 1) (allB (s.gen + 1) 0 L)).2) else
 if (putD n (putD n (putD n d ((1 - s.half) * (n / 2)) (List.replicate (n / 2 * 64) 0)).1 ((1 - s.half) * (n / 2) + 1) (allB (s.gen + 1) 0 L)).1 ((1 - s.half) * (n / 2)) (headB (s.gen + 1))).2 ≠ 0 then ((putD n (putD n (putD n d ((1 - s.half) * (n / 2)) (List.replicate (n / 2 * 64) 0)).1 ((1 - s.half) * (n / 2) + 1) (allB (s.gen + 1) 0 L)).1 ((1 - s.half) * (n / 2)) (headB (s.gen + 1))).1, s, (putD n (putD n (putD n d ((1 - s.half) * (n / 2)) (List.replicate (n / 2 * 64) 0)).1 ((1 - s.half) * (n / 2) + 1) (allB (s.gen + 1) 0 L)).1 ((1 - s.half) * (n / 2)) (headB (s.gen + 1))).2) else
 ((putD n (putD n (putD n d ((1 - s.half) * (n / 2)) (List.replicate (n / 2 * 64) 0)).1 ((1 - s.half) * (n / 2) + 1) (allB (s.gen + 1) 0 L)).1 ((1 - s.half) * (n / 2)) (headB (s.gen + 1))).1, ⟨1 - s.half, s.gen + 1, 64 + sizeL L⟩, 0)
def appD (n : Nat) (d : DS) (s : LG) (L : List By) (b : By) : DS × LG × Int :=
 if checkE b ≠ 0 then (d, s, 1) else
 if n / 2 * 64 < s.fin + recL b.length then (d, s, 13) else
 if (putD n d ((s.half * (n / 2 * 64) + s.fin) / 64) (recB s.gen (UInt64.ofNat L.length) b)).2 ≠ 0 then ((putD n d ((s.half * (n / 2 * 64) + s.fin) / 64) (recB s.gen (UInt64.ofNat L.length) b)).1, s, (putD n d ((s.half * (n / 2 * 64) + s.fin) / 64) (recB s.gen (UInt64.ofNat L.length) b)).2) else
 ((putD n d ((s.half * (n / 2 * 64) + s.fin) / 64) (recB s.gen (UInt64.ofNat L.length) b)).1, { s with fin := s.fin + recL b.length }, 0)
theorem chunk_len {b : By} : (chunk b).length = b.length / 64 := by simp [chunk]
theorem chunk_64 {b : By} : ∀ c ∈ chunk b, c.length = 64 := fun c hc => by
 obtain ⟨j, hj, rfl⟩ := List.mem_map.1 hc
 have := List.mem_range.1 hj
 rw [List.length_take, List.length_drop]
 omega
theorem chunk_at {b : By} {j : Nat} (hj : j < (chunk b).length) : (chunk b)[j] = (b.drop (64 * j)).take 64 := by simp [chunk]
theorem chunk_join {b : By} (h : b.length % 64 = 0) : (chunk b).flatten = b := by
 have key : ∀ k, k ≤ b.length / 64 → ((List.range k).map fun j => (b.drop (64 * j)).take 64).flatten = b.take (64 * k) := by
  intro k
  induction k with
  | zero => intro _; simp
  | succ k ih =>
   intro hk
   rw [List.range_succ, List.map_append, List.flatten_append, ih (by omega), Nat.mul_succ, List.take_add]
   simp
 unfold chunk
 rw [key _ (Nat.le_refl _), List.take_of_length_le (by omega)]
def calm (S : By) : DS := ⟨S, [], -1, false⟩
def spl : By → Nat → List By → By
 | S, _, [] => S
 | S, i, c :: cs => spl (splice S (64 * i) c) (i + 1) cs
theorem writes_calm {n : Nat} : ∀ {cs : List By} {S : By} {W : List (Nat × By)} {i : Nat}, (∀ c ∈ cs, c.length = 64) → i + cs.length ≤ n → writesD n ⟨S, W, -1, false⟩ i cs = (calm (spl (dump ⟨S, W, -1, false⟩) i cs), 0)
 | [], S, W, i, _, _ => by simp [writesD, syncD, burn, calm, spl, dump]
 | c :: cs, S, W, i, hc, hn => by
  rw [List.length_cons] at hn
  have h64 := hc c List.mem_cons_self
  have hw : writeD ⟨S, W, -1, false⟩ n i c = (⟨S, W ++ [(i, c)], -1, false⟩, 0) := by
   unfold writeD
   rw [if_neg (by simp), if_neg (by omega), if_neg (by omega)]
   simp [burn]
  rw [writesD, hw, if_neg (by simp)]
  rw [writes_calm (fun x hx => hc x (List.mem_cons_of_mem _ hx)) (by omega)]
  simp [spl, dump]
theorem splice_splice {S a b : By} {o : Nat} (h : o + a.length + b.length ≤ S.length) : splice (splice S o a) (o + a.length) b = splice S o (a ++ b) := by
 have h1 : (S.take o ++ a).length = o + a.length := by simp; omega
 unfold splice
 have e : (S.take o ++ a ++ S.drop (o + a.length)).drop (o + a.length) = S.drop (o + a.length) := List.drop_left' h1
 rw [List.take_left' h1, ← List.drop_drop, e, List.drop_drop, List.length_append]
 simp only [List.append_assoc, Nat.add_assoc]
theorem spl_eq : ∀ {cs : List By} {S : By} {i : Nat}, (∀ c ∈ cs, c.length = 64) → 64 * (i + cs.length) ≤ S.length → spl S i cs = splice S (64 * i) cs.flatten
 | [], S, i, _, _ => by simp [spl, splice_nil]
 | c :: cs, S, i, hc, hn => by
  have h64 := hc c List.mem_cons_self
  have hfl : cs.flatten.length = 64 * cs.length := by
   have : ∀ l : List By, (∀ c ∈ l, c.length = 64) → l.flatten.length = 64 * l.length := by
    intro l
    induction l with
    | nil => intro _; rfl
    | cons x l ih => intro h; rw [List.flatten_cons, List.length_append, ih fun y hy => h y (List.mem_cons_of_mem _ hy), h x List.mem_cons_self, List.length_cons]; omega
   exact this cs fun x hx => hc x (List.mem_cons_of_mem _ hx)
  rw [List.length_cons] at hn
  rw [spl, spl_eq (fun x hx => hc x (List.mem_cons_of_mem _ hx)) (by rw [length_splice (by omega)]; omega), List.flatten_cons]
  have e : 64 * (i + 1) = 64 * i + c.length := by omega
  rw [e, splice_splice (by omega)]
theorem put_calm {n i : Nat} {S b : By} (hS : S.length = 64 * n) (hb : b.length % 64 = 0) (hi : 64 * i + b.length ≤ 64 * n) : putD n (calm S) i b = (calm (splice S (64 * i) b), 0) := by
 have hc := chunk_len (b := b)
 unfold putD calm
 rw [writes_calm chunk_64 (by omega)]
 have : dump ⟨S, [], -1, false⟩ = S := rfl
 rw [this, spl_eq chunk_64 (by omega), chunk_join hb]
 rfl
theorem ok_burn {d : DS} {n : Nat} (h : d.ok n) : (burn d).ok n := ⟨h.pos, h.len, h.le, h.wt⟩
theorem length_foldl_splice : ∀ {W : List (Nat × By)} {S : By} {n : Nat}, S.length = 64 * n → (∀ x ∈ W, x.1 < n ∧ x.2.length = 64) → (W.foldl (fun S x => splice S (64 * x.1) x.2) S).length = 64 * n
 | [], S, n, h, _ => h
 | x :: W, S, n, h, hW => by
  obtain ⟨h1, h2⟩ := hW x List.mem_cons_self
  rw [List.foldl_cons]
  exact length_foldl_splice (by rw [length_splice (by omega)]; exact h) fun y hy => hW y (List.mem_cons_of_mem _ hy)
theorem length_dump {d : DS} {n : Nat} (h : d.ok n) : (dump d).length = 64 * n := length_foldl_splice h.len h.wt
theorem ok_write {d : DS} {n i : Nat} {c : By} (h : d.ok n) : (writeD d n i c).1.ok n := by
 unfold writeD
 split
 ·exact h
 ·split
  ·exact h
  ·split
   ·exact h
   ·rename_i h1 h2 h3
    refine ok_burn ⟨h.pos, h.len, h.le, fun x hx => ?_⟩
    rcases List.mem_append.1 hx with hx | hx
    ·exact h.wt x hx
    ·rw [List.mem_singleton.1 hx]
     exact ⟨by simp; omega, by simpa using h3⟩
theorem ok_sync {d : DS} {n : Nat} (h : d.ok n) : (syncD d).1.ok n := by
 unfold syncD
 split
 ·exact h
 ·split
  ·exact ok_burn h
  ·exact ⟨h.pos, length_dump h, h.le, by intro x hx; cases hx⟩
def Fz (d : DS) : Prop := -1 ≤ d.fuse ∧ d.fuse ≤ 9223372036854775807
theorem fz_burn {d : DS} (h : Fz d) : Fz (burn d) := by
 unfold Fz burn at *
 dsimp only
 split <;> omega
theorem fz_write {d : DS} {n i : Nat} {c : By} (h : Fz d) : Fz (writeD d n i c).1 := by
 unfold writeD
 split
 ·exact h
 ·split
  ·exact h
  ·split
   ·exact h
   ·exact fz_burn (d := { d with wt := d.wt ++ [((i : Int).toNat, c)] }) h
theorem fz_sync {d : DS} (h : Fz d) : Fz (syncD d).1 := by
 unfold syncD
 split
 ·exact h
 ·split
  ·exact fz_burn h
  ·exact fz_burn h
theorem wt_write {d : DS} {n i : Nat} {c : By} : (writeD d n i c).1.wt.length ≤ d.wt.length + 1 := by
 unfold writeD
 split
 ·simp
 ·split
  ·simp
  ·split
   ·simp
   ·simp [burn]
theorem wt_sync {d : DS} : (syncD d).1.wt.length ≤ d.wt.length := by
 unfold syncD
 split
 ·simp
 ·split
  ·simp [burn]
  ·simp
theorem sync_done {d : DS} (h : (syncD d).2 = 0) : (syncD d).1.wt = [] := by
 unfold syncD at *
 split at h
 ·cases h
 ·split at h
  ·cases h
  ·rename_i h1 h2; rw [if_neg h1, if_neg h2]
structure Rdy (n : Nat) (d : DS) (k : Nat) : Prop where
 ok : d.ok n
 fz : Fz d
 few : d.wt.length ≤ k
theorem rdy_writes {n : Nat} : ∀ {cs : List By} {d : DS} {i k : Nat}, Rdy n d k → Rdy n (writesD n d i cs).1 (k + cs.length) ∧ ((writesD n d i cs).2 = 0 → (writesD n d i cs).1.wt = [])
 | [], d, i, k, h => ⟨⟨ok_sync h.ok, fz_sync h.fz, Nat.le_trans wt_sync h.few⟩, sync_done⟩
 | c :: cs, d, i, k, h => by
  have h1 : Rdy n (writeD d n i c).1 (k + 1) := ⟨ok_write h.ok, fz_write h.fz, Nat.le_trans wt_write (by have := h.few; omega)⟩
  rw [writesD]
  split
  ·rename_i hz
   exact ⟨⟨h1.ok, h1.fz, by have := h1.few; rw [List.length_cons]; omega⟩, fun h0 => (hz h0).elim⟩
  ·have := rdy_writes (cs := cs) (i := i + 1) h1
   rw [List.length_cons]
   exact ⟨⟨this.1.ok, this.1.fz, by have := this.1.few; omega⟩, this.2⟩
theorem rdy_put {n : Nat} {d : DS} {i k : Nat} {b : By} (h : Rdy n d k) : Rdy n (putD n d i b).1 (k + b.length / 64) ∧ ((putD n d i b).2 = 0 → (putD n d i b).1.wt = []) := by
 have := rdy_writes (cs := chunk b) (i := i) h
 rwa [chunk_len] at this
end JR
end Go.Proofs.Ytnaoafogdplnaaa

namespace Go.Proofs.Ytnaoafogdplnaaa
open Go Go.RowKit K DK
def wtCells (l : List (Nat × By)) : List Value := l.flatMap fun x => Value.int .i64 x.1 :: bs x.2
theorem drop_wtCells {l : List (Nat × By)} (h : ∀ x ∈ l, x.2.length = 64) (i : Nat) : (wtCells l).drop (i * 65) = wtCells (l.drop i) := by
 induction l generalizing i with
 | nil => simp [wtCells]
 | cons x l ih =>
  cases i with
  | zero => simp
  | succ i =>
   have h1 := ih (fun y hy => h y (List.mem_cons_of_mem _ hy)) i
   have h2 := h x List.mem_cons_self
   have e : (i + 1) * 65 = (Value.int .i64 x.1 :: bs x.2).length + i * 65 := by simp [length_bs, h2]; omega
   have e2 : wtCells (x :: l) = (Value.int .i64 x.1 :: bs x.2) ++ wtCells l := by simp [wtCells]
   rw [e, e2, ← List.drop_drop, List.drop_left, List.drop_succ_cons]
   exact h1
theorem wt_elem {l : List (Nat × By)} (h : ∀ x ∈ l, x.2.length = 64) {i : Nat} (hi : i < l.length) : cellsAt (wtCells l) 65 i = Value.int .i64 l[i].1 :: bs l[i].2 := by
 unfold cellsAt
 rw [drop_wtCells h, List.drop_eq_getElem_cons hi]
 have h2 := h l[i] (List.getElem_mem hi)
 simp only [wtCells, List.flatMap_cons]
 have e : (65 : Nat) = (Value.int .i64 l[i].1 :: bs l[i].2).length := by simp [length_bs, h2]
 rw [e, List.take_left]
structure diskM (m : Mem) (b n : Nat) (d : DS) : Prop where
 ok : d.ok n
 mem : ∃ s wv, m b = some (.cells #[.slice (some ⟨s, 0, none⟩) n n, wv, .int .i64 d.fuse, .bool d.down] 68 (0, 0)) ∧ m s = some (.cells (bs d.S).toArray 73 (0, 0)) ∧ SlM m wv 65 d.wt.length (wtCells d.wt)
 few : d.wt.length ≤ 9223372036854775807
theorem bs_append (a b : By) : bs (a ++ b) = bs a ++ bs b := by simp [bs]
theorem secs_split (S : By) (i : Nat) : S.take (64 * i) ++ sec S i ++ S.drop (64 * i + 64) = S := by
 unfold sec
 rw [List.append_assoc, ← List.drop_drop, List.take_append_drop, List.take_append_drop]
theorem c_check {m : Mem} {w : World} {b n : Nat} {d : DS} (i : Int) (him : Im m w) (hd : diskM m b n d) :
  Ret Try.prog 71 #[.pointer (some ⟨b, 0, none⟩), .int .i64 i] w fun v w' => w' = w ∧ v = .int .i64 (if d.down then 14 else if i < 0 ∨ i ≥ n then 2 else 0) := by
 obtain ⟨ok, ⟨s, wv, hb, hs, hw⟩, hf⟩ := hd
 have st := St.start him
 refine ret_of Try.call71 Try.func71 rfl Try.ntmps71 Try.results71 rfl ?_
 refine wc_seq ?_
 refine wc_region ?_
 refine wl_val (v_assign' (by conv => (lhs; whnf))) rfl ?_
 refine wl_nil ?_
 refine then_go ?_
 refine wc_seq ?_
 refine wc_block ?_
 refine wc_seq ?_
 refine wc_region ?_
 refine wl_val (v_move' (by conv => (lhs; whnf))) rfl ?_
 refine wl_val (v_nil rfl) rfl ?_
 refine wl_val (v_fa TF.f68_3 rfl) rfl ?_
 refine wl_val (v_load rfl (st.readm hb TF.t4 rfl)) rfl ?_
 refine wl_val (v_assign' (by conv => (lhs; whnf))) rfl ?_
 refine wl_nil ?_
 refine then_go ?_
 refine wc_cond rfl (fun h5 => ?_) (fun h5 => ?_)
 ·refine wc_seq ?_
  refine wc_region ?_
  refine wl_val (v_assign' (by conv => (lhs; whnf))) rfl ?_
  refine wl_nil ?_
  refine then_go ?_
  refine wc_ret (block_ret (then_ret ?_))
  exact ret1 (v := .int .i64 14) rfl ⟨rfl, by simp [h5]⟩
 ·refine wc_seq ?_
  refine wc_region ?_
  refine wl_val (v_move' (by conv => (lhs; whnf))) rfl ?_
  refine wl_val (v_lss rfl rfl) rfl ?_
  refine wl_val (v_move' (by conv => (lhs; whnf))) rfl ?_
  by_cases hg2 : i < 0
  ·rw [show decide (i < 0) = true from decide_eq_true hg2]
   refine wl_off rfl rfl rfl rfl ?_
   refine wl_off rfl rfl rfl rfl ?_
   refine wl_off rfl rfl rfl rfl ?_
   refine wl_off rfl rfl rfl rfl ?_
   refine wl_off rfl rfl rfl rfl ?_
   refine wl_off rfl rfl rfl rfl ?_
   refine wl_off rfl rfl rfl rfl ?_
   refine wl_val (v_pick rfl) rfl ?_
   refine wl_val (v_assign' (by conv => (lhs; whnf))) rfl ?_
   refine wl_nil ?_
   refine then_go ?_
   refine wc_true rfl ?_
   refine wc_seq ?_
   refine wc_region ?_
   refine wl_val (v_assign' (by conv => (lhs; whnf))) rfl ?_
   refine wl_nil ?_
   refine then_go ?_
   refine wc_ret (block_ret (then_ret ?_))
   exact ret1 (v := .int .i64 2) rfl ⟨rfl, by simp [h5, hg2]⟩
  ·rw [show decide (i < 0) = false from decide_eq_false hg2]
   refine wl_on rfl rfl ?_
   refine wl_val (v_move' (by conv => (lhs; whnf))) rfl ?_
   refine wl_on rfl rfl ?_
   refine wl_val (v_move' (by conv => (lhs; whnf))) rfl ?_
   refine wl_on rfl rfl ?_
   refine wl_val (v_nil rfl) rfl ?_
   refine wl_on rfl rfl ?_
   refine wl_val (v_fa TF.f68_0 rfl) rfl ?_
   refine wl_on rfl rfl ?_
   refine wl_val (v_load rfl (st.readm hb TF.t65 rfl)) rfl ?_
   refine wl_on rfl rfl ?_
   refine wl_val (v_len_s Try.underlying65 rfl) rfl ?_
   refine wl_on rfl rfl ?_
   refine wl_val (v_geq rfl rfl) rfl ?_
   refine wl_val (v_pick rfl) rfl ?_
   refine wl_val (v_assign' (by conv => (lhs; whnf))) rfl ?_
   refine wl_nil ?_
   refine then_go ?_
   refine wc_if rfl (fun h10 => ?_) (fun h10 => ?_)
   ·refine wc_seq ?_
    refine wc_region ?_
    refine wl_val (v_assign' (by conv => (lhs; whnf))) rfl ?_
    refine wl_nil ?_
    refine then_go ?_
    refine wc_ret (block_ret (then_ret ?_))
    exact ret1 (v := .int .i64 2) rfl ⟨rfl, by simp [h5, h10]⟩
   ·refine wc_skip ?_
    refine block_go (then_go ?_)
    refine wc_seq ?_
    refine wc_region ?_
    refine wl_val (v_assign' (by conv => (lhs; whnf))) rfl ?_
    refine wl_nil ?_
    refine then_go ?_
    refine wc_ret ?_
    exact ret1 (v := .int .i64 0) rfl ⟨rfl, by simp [h5, hg2]; omega⟩
theorem c_size {m : Mem} {w : World} {b n : Nat} {d : DS} (him : Im m w) (hd : diskM m b n d) :
  Ret Try.prog 12 #[.pointer (some ⟨b, 0, none⟩)] w fun v w' => w' = w ∧ v = .int .i64 n := by
 obtain ⟨ok, ⟨s, wv, hb, hs, hw⟩, hf⟩ := hd
 have st := St.start him
 refine ret_of Try.call12 Try.func12 rfl Try.ntmps12 Try.results12 rfl ?_
 refine wc_seq ?_
 refine wc_region ?_
 refine wl_val (v_assign' (by conv => (lhs; whnf))) rfl ?_
 refine wl_nil ?_
 refine then_go ?_
 refine wc_seq ?_
 refine wc_region ?_
 refine wl_val (v_move' (by conv => (lhs; whnf))) rfl ?_
 refine wl_val (v_nil rfl) rfl ?_
 refine wl_val (v_fa TF.f68_0 rfl) rfl ?_
 refine wl_val (v_load rfl (st.readm hb TF.t65 rfl)) rfl ?_
 refine wl_val (v_len_s Try.underlying65 rfl) rfl ?_
 refine wl_val (v_assign' (by conv => (lhs; whnf))) rfl ?_
 refine wl_nil ?_
 refine then_go ?_
 refine wc_ret ?_
 exact ret1 rfl ⟨rfl, rfl⟩
theorem c_pending {m : Mem} {w : World} {b n : Nat} {d : DS} (him : Im m w) (hd : diskM m b n d) :
  Ret Try.prog 25 #[.pointer (some ⟨b, 0, none⟩)] w fun v w' => w' = w ∧ v = .int .i64 d.wt.length := by
 obtain ⟨ok, ⟨s, wv, hb, hs, hw⟩, hf⟩ := hd
 obtain ⟨hwl, wa, wc, rfl, hw1⟩ := hw
 have st := St.start him
 refine ret_of Try.call25 Try.func25 rfl Try.ntmps25 Try.results25 rfl ?_
 refine wc_seq ?_
 refine wc_region ?_
 refine wl_val (v_assign' (by conv => (lhs; whnf))) rfl ?_
 refine wl_nil ?_
 refine then_go ?_
 refine wc_seq ?_
 refine wc_region ?_
 refine wl_val (v_move' (by conv => (lhs; whnf))) rfl ?_
 refine wl_val (v_nil rfl) rfl ?_
 refine wl_val (v_fa TF.f68_1 rfl) rfl ?_
 refine wl_val (v_load rfl (st.readm hb TF.t66 rfl)) rfl ?_
 refine wl_val (v_len_s Try.underlying66 rfl) rfl ?_
 refine wl_val (v_assign' (by conv => (lhs; whnf))) rfl ?_
 refine wl_nil ?_
 refine then_go ?_
 refine wc_ret ?_
 exact ret1 rfl ⟨rfl, rfl⟩
end Go.Proofs.Ytnaoafogdplnaaa

namespace Go.Proofs.Ytnaoafogdplnaaa
open Go Go.RowKit K DK
def diskL (b s n : Nat) (wv : Value) (d : DS) : List Ent :=
 [blk b #[.slice (some ⟨s, 0, none⟩) n n, wv, .int .i64 d.fuse, .bool d.down] 68, blk s (bs d.S).toArray 73, rowE wv 75 65 d.wt.length (wtCells d.wt)]
def diskO (b s n : Nat) (wv : Value) (d : DS) : Ent := joinE (diskL b s n wv d)
def DiskCall (f : FuncId) (args : List Value) (b s n : Nat) (wv : Value) (d : DS) (w : World) (R : Value → DS → Prop) : Prop :=
 Ret Try.prog f (.pointer (some ⟨b, 0, none⟩) :: args).toArray w fun v w' => ∃ wv' d', Tch w w' (diskO b s n wv d).foot (diskO b s n wv' d').foot ∧ (diskO b s n wv' d').holds w' ∧ R v d'
theorem row_few {w : World} {v : Value} {e size n : Nat} {xs : List Value} (h : (rowE v e size n xs).holds w) : n ≤ 9223372036854775807 := by
 rcases h.2 with ⟨_, rfl⟩ | ⟨g, cap, cur, _, _, _, hc, hm, _⟩
 ·omega
 ·unfold maxLen at hm; omega
theorem disk_snap {m0 m : Mem} {F : List Nat} {w0 w : World} {Es : List Ent} {b s n : Nat} {wv : Value} {d : DS} (st : St m0 m F w0 w (diskL b s n wv d ++ Es)) (ok : d.ok n) : diskM (heapM w) b n d :=
 ⟨ok, ⟨s, wv, st.at (i := 0) rfl, st.at (i := 1) rfl, row_SlM (st.at (i := 2) rfl) fun _ _ _ h => h⟩, row_few (st.at (i := 2) rfl)⟩
section
variable {m : Mem} {w : World} {b s n : Nat} {wv : Value} {d : DS}
theorem c_burns (him : Im m w) (hE : (diskO b s n wv d).holds w) (hm : ∀ k ∈ (diskO b s n wv d).foot, m k = none) (hf : -1 ≤ d.fuse ∧ d.fuse ≤ 9223372036854775807) :
  DiskCall 72 [] b s n wv d w fun v d' => d' = burn d ∧ v = .bool (burn d).down := by
 have st := St.begin him hE hm
 have h1 := hf.1
 have h2 := hf.2
 refine ret_of Try.call72 Try.func72 rfl Try.ntmps72 Try.results72 rfl ?_
 refine wc_seq ?_
 refine wc_region ?_
 refine wl_val (v_assign' (by conv => (lhs; whnf))) rfl ?_
 refine wl_nil ?_
 refine then_go ?_
 refine wc_seq ?_
 refine wc_region ?_
 refine wl_val (v_move' (by conv => (lhs; whnf))) rfl ?_
 refine wl_val (v_move' (by conv => (lhs; whnf))) rfl ?_
 refine wl_val (v_nil rfl) rfl ?_
 refine wl_val (v_fa TF.f68_2 rfl) rfl ?_
 refine wl_val (v_load rfl (by first | exact st.reads 0 rfl TF.t3 rfl | exact st.reads 1 rfl TF.t3 rfl | exact st.reads 2 rfl TF.t3 rfl | exact st.reads 3 rfl TF.t3 rfl | exact st.reads 4 rfl TF.t3 rfl | assumption)) rfl ?_
 refine wl_val (v_eql rfl rfl) rfl ?_
 refine wl_val (v_nil rfl) rfl ?_
 refine wl_val (v_fa TF.f68_3 rfl) rfl ?_
 refine wl_store1 0 st rfl TF.t4 rfl (by conv => (lhs; whnf)) rfl (by first | exact lt_ok rfl | decide | simp) ?_
 intro w st
 have st : St m m _ _ _ (diskL b s n wv { d with down := decide (d.fuse = 0) }) := st
 refine wl_nil ?_
 refine then_go ?_
 refine wc_seq ?_
 refine wc_seq ?_
 refine wc_region ?_
 refine wl_val (v_move' (by conv => (lhs; whnf))) rfl ?_
 refine wl_val (v_nil rfl) rfl ?_
 refine wl_val (v_fa TF.f68_2 rfl) rfl ?_
 refine wl_val (v_load rfl (by first | exact st.reads 0 rfl TF.t3 rfl | exact st.reads 1 rfl TF.t3 rfl | exact st.reads 2 rfl TF.t3 rfl | exact st.reads 3 rfl TF.t3 rfl | exact st.reads 4 rfl TF.t3 rfl | assumption)) rfl ?_
 refine wl_val (v_gtr rfl rfl) rfl ?_
 refine wl_nil ?_
 refine then_go ?_
 refine wc_if rfl (fun h15 => ?_) (fun h15 => ?_)
 ·refine wc_region ?_
  refine wl_val (v_move' (by conv => (lhs; whnf))) rfl ?_
  refine wl_val (v_nil rfl) rfl ?_
  refine wl_val (v_fa TF.f68_2 rfl) rfl ?_
  refine wl_val (v_load rfl (by first | exact st.reads 0 rfl TF.t3 rfl | exact st.reads 1 rfl TF.t3 rfl | exact st.reads 2 rfl TF.t3 rfl | exact st.reads 3 rfl TF.t3 rfl | exact st.reads 4 rfl TF.t3 rfl | assumption)) rfl ?_
  refine wl_val (v_sub' rfl rfl rfl (by first | omega | (dsimp only at *; omega)) (by first | omega | (dsimp only at *; omega))) rfl ?_
  refine wl_val (v_nil rfl) rfl ?_
  refine wl_val (v_fa TF.f68_2 rfl) rfl ?_
  refine wl_store1 0 st rfl TF.t3 rfl (by conv => (lhs; whnf)) rfl (by first | exact lt_ok rfl | decide | simp) ?_
  intro w st
  have st : St m m _ _ _ (diskL b s n wv { d with down := decide (d.fuse = 0), fuse := d.fuse - 1 }) := st
  refine wl_nil ?_
  refine then_go ?_
  refine wc_seq ?_
  refine wc_region ?_
  refine wl_val (v_move' (by conv => (lhs; whnf))) rfl ?_
  refine wl_val (v_nil rfl) rfl ?_
  refine wl_val (v_fa TF.f68_3 rfl) rfl ?_
  refine wl_val (v_load rfl (by first | exact st.reads 0 rfl TF.t4 rfl | exact st.reads 1 rfl TF.t4 rfl | exact st.reads 2 rfl TF.t4 rfl | exact st.reads 3 rfl TF.t4 rfl | exact st.reads 4 rfl TF.t4 rfl | assumption)) rfl ?_
  refine wl_val (v_assign' (by conv => (lhs; whnf))) rfl ?_
  refine wl_nil ?_
  refine then_go ?_
  refine wc_ret ?_
  exact ret1 rfl ⟨wv, { d with down := decide (d.fuse = 0), fuse := d.fuse - 1 }, (St.finish (Es := []) st).1, (St.finish (Es := []) st).2, by simp [burn, h15], rfl⟩
 ·refine wc_skip ?_
  refine then_go ?_
  refine wc_seq ?_
  refine wc_region ?_
  refine wl_val (v_move' (by conv => (lhs; whnf))) rfl ?_
  refine wl_val (v_nil rfl) rfl ?_
  refine wl_val (v_fa TF.f68_3 rfl) rfl ?_
  refine wl_val (v_load rfl (by first | exact st.reads 0 rfl TF.t4 rfl | exact st.reads 1 rfl TF.t4 rfl | exact st.reads 2 rfl TF.t4 rfl | exact st.reads 3 rfl TF.t4 rfl | exact st.reads 4 rfl TF.t4 rfl | assumption)) rfl ?_
  refine wl_val (v_assign' (by conv => (lhs; whnf))) rfl ?_
  refine wl_nil ?_
  refine then_go ?_
  refine wc_ret ?_
  exact ret1 rfl ⟨wv, { d with down := decide (d.fuse = 0) }, (St.finish (Es := []) st).1, (St.finish (Es := []) st).2, by simp [burn, h15], rfl⟩
theorem wtCells_snoc (l : List (Nat × By)) (x : Nat × By) : wtCells (l ++ [x]) = wtCells l ++ (Value.int .i64 x.1 :: bs x.2) := by simp [wtCells]
theorem disk_call {m0 : Mem} {F : List Nat} {w0 : World} {Es : List Ent} {f : FuncId} {args : List Value} {R : Value → DS → Prop} (st : St m0 m F w0 w (diskO b s n wv d :: Es)) (h : DiskCall f args b s n wv d w R) :
  Ret Try.prog f (.pointer (some ⟨b, 0, none⟩) :: args).toArray w fun v w' => ∃ wv' d', St m0 m F w0 w' (diskO b s n wv' d' :: Es) ∧ R v d' :=
 h.mono fun _ _ ⟨wv', d', t, hE, hR⟩ => ⟨wv', d', st.step 0 rfl t hE, hR⟩
theorem c_write {v : Value} {l : By} (i : Int) (him : Im m w) (hE : (diskO b s n wv d).holds w) (hm : ∀ k ∈ (diskO b s n wv d).foot, m k = none) (ok : d.ok n) (hf : -1 ≤ d.fuse ∧ d.fuse ≤ 9223372036854775807) (hfew : d.wt.length ≤ 1000000)
  (hv : SlM m v 1 l.length (bs l)) :
  DiskCall 63 [.int .i64 i, v] b s n wv d w fun v' d' => d' = (writeD d n i l).1 ∧ v' = .int .i64 (writeD d n i l).2 := by
 have hv0 := hv
 obtain ⟨hvl, va, vc, rfl, hv1⟩ := hv
 have st := St.begin him hE hm
 have hlen : (l.length : Int) ≤ 9223372036854775807 ∨ True := .inr trivial
 refine ret_of Try.call63 Try.func63 rfl Try.ntmps63 Try.results63 rfl ?_
 refine wc_seq ?_
 refine wc_region ?_
 refine wl_val (v_assign' (by conv => (lhs; whnf))) rfl ?_
 refine wl_nil ?_
 refine then_go ?_
 refine wc_seq ?_
 refine wc_seq ?_
 refine wc_region ?_
 refine wl_val (v_move' (by conv => (lhs; whnf))) rfl ?_
 refine wl_val (v_move' (by conv => (lhs; whnf))) rfl ?_
 refine wl_call rfl (c_check i (im_heapM w) (disk_snap (Es := []) st ok)) rfl ?_
 rintro v10 w' ⟨rfl, rfl⟩
 refine wl_val (v_assign' (by conv => (lhs; whnf))) rfl ?_
 refine wl_nil ?_
 refine then_go ?_
 refine wc_seq ?_
 refine wc_region ?_
 refine wl_val (v_move' (by conv => (lhs; whnf))) rfl ?_
 refine wl_val (v_neq rfl rfl) rfl ?_
 refine wl_nil ?_
 refine then_go ?_
 refine wc_if rfl (fun h12 => ?_) (fun h12 => ?_)
 ·refine wc_seq ?_
  refine wc_region ?_
  refine wl_val (v_move' (by conv => (lhs; whnf))) rfl ?_
  refine wl_val (v_assign' (by conv => (lhs; whnf))) rfl ?_
  refine wl_nil ?_
  refine then_go ?_
  refine wc_ret (then_ret ?_)
  refine ret1 (v := .int .i64 (if d.down = true then 14 else if i < 0 ∨ i ≥ n then 2 else 0)) rfl ⟨wv, d, (St.finish (Es := []) st).1, (St.finish (Es := []) st).2, ?_, ?_⟩
  ·unfold writeD
   by_cases hd : d.down = true
   ·rw [if_pos hd]
   ·rw [if_neg hd]
    by_cases hr : i < 0 ∨ i ≥ n
    ·rw [if_pos hr]
    ·exact absurd (by rw [if_neg hd, if_neg hr]) h12
  ·unfold writeD
   by_cases hd : d.down = true
   ·rw [if_pos hd]; simp [hd]
   ·rw [if_neg hd]
    by_cases hr : i < 0 ∨ i ≥ n
    ·rw [if_pos hr]; simp [hd, hr]
    ·exact absurd (by rw [if_neg hd, if_neg hr]) h12
 ·refine wc_skip ?_
  refine then_go ?_
  refine wc_seq ?_
  refine wc_seq ?_
  have hd : ¬ d.down = true := fun hd => h12 (by rw [if_pos hd]; decide)
  have hr : ¬ (i < 0 ∨ i ≥ n) := fun hr => h12 (by rw [if_neg hd, if_pos hr]; decide)
  have hun : l.length ≠ 64 → writeD d n i l = (d, 1) := fun h => by unfold writeD; rw [if_neg hd, if_neg hr, if_pos h]
  have hdo : l.length = 64 → writeD d n i l = (burn { d with wt := d.wt ++ [(i.toNat, l)] }, if (burn { d with wt := d.wt ++ [(i.toNat, l)] }).down then 14 else 0) := fun h => by unfold writeD; rw [if_neg hd, if_neg hr, if_neg (by simp [h])]
  refine wc_region ?_
  refine wl_val (v_move' (by conv => (lhs; whnf))) rfl ?_
  refine wl_val (v_len_s Try.underlying30 rfl) rfl ?_
  refine wl_val (v_neq rfl rfl) rfl ?_
  refine wl_nil ?_
  refine then_go ?_
  refine wc_if rfl (fun h16 => ?_) (fun h16 => ?_)
  ·refine wc_seq ?_
   refine wc_region ?_
   refine wl_val (v_assign' (by conv => (lhs; whnf))) rfl ?_
   refine wl_nil ?_
   refine then_go ?_
   refine wc_ret (then_ret ?_)
   exact ret1 (v := .int .i64 1) rfl ⟨wv, d, (St.finish (Es := []) st).1, (St.finish (Es := []) st).2, by rw [hun (by omega)], by rw [hun (by omega)]⟩
  ·refine wc_skip ?_
   refine then_go ?_
   refine wc_seq ?_
   have hl64 : l.length = 64 := by omega
   obtain ⟨vb, vo, vcap, hve, hvk, hrd⟩ := hv0.rd Try.prog (by simp [bs, hl64])
   cases hve
   obtain ⟨k, rfl⟩ : ∃ k : Nat, i = k := ⟨i.toNat, by omega⟩
   refine wc_draw TF.mixed ?_
   have st := st.pure (touch_drew _)
   refine fl_val 0 rfl (fun _ => (v_move' (by conv => (lhs; whnf)))) rfl (by kernel_rfl) ?_
   refine fl_val 1 rfl (fun _ => (v_move' (by conv => (lhs; whnf)))) rfl (by kernel_rfl) ?_
   refine fl_val 2 rfl (fun _ => (v_nil rfl)) rfl (by kernel_rfl) ?_
   refine fl_val 3 rfl (fun _ => (v_fa TF.f68_1 rfl)) rfl (by kernel_rfl) ?_
   refine fl_ld 4 rfl (v_load rfl (by first | exact st.reads 0 rfl TF.t66 rfl | exact st.reads 1 rfl TF.t66 rfl | exact st.reads 2 rfl TF.t66 rfl | exact st.reads 3 rfl TF.t66 rfl | exact st.reads 4 rfl TF.t66 rfl | assumption)) (by kernel_rfl) ?_
   refine fl_val 5 rfl (fun _ => (v_move' (by conv => (lhs; whnf)))) rfl (by kernel_rfl) ?_
   refine fl_val 6 rfl (fun _ => (v_move' (by conv => (lhs; whnf)))) rfl (by kernel_rfl) ?_
   refine fl_val 7 rfl (fun _ => (v_s2a Try.underlying73 rfl (by omega))) rfl (by kernel_rfl) ?_
   refine fl_ld 8 rfl (v_load rfl (show Reads Try.prog _ _ (Addr.mk vb (vo + 0) none) (arr l) from hrd st.im TF.t73 (getV_all (by rw [List.size_toArray, length_bs, hl64])))) (by kernel_rfl) ?_
   refine fl_val 9 rfl (fun _ => (v_build (c' := (Value.int .i64 k :: bs l).toArray) [(0, .int .i64 k), (1, .agg (bs l).toArray)] TF.z75 TF.p75 rfl (fill_one [] [.int .i64 0] (List.replicate 64 (.int .u8 0)) rfl rfl rfl (fill_one [.int .i64 k] (List.replicate 64 (.int .u8 0)) [] rfl rfl (by simp [Value.cells, bs, hl64]) (by simp [FillR, Value.cells]))))) rfl (by kernel_rfl) ?_
   refine fl_eff1 10 [7, 6, 5, 3, 2, 1, 0] [8, 4] (by kernel_rfl) ⟨obl_ld rfl rfl rfl (v_load rfl (show Reads Try.prog _ _ (Addr.mk vb (vo + 0) none) (arr l) from hrd st.im TF.t73 (getV_all (by rw [List.size_toArray, length_bs, hl64])))), obl_ld rfl rfl rfl (v_load rfl (by first | exact st.reads 0 rfl TF.t66 rfl | exact st.reads 1 rfl TF.t66 rfl | exact st.reads 2 rfl TF.t66 rfl | exact st.reads 3 rfl TF.t66 rfl | exact st.reads 4 rfl TF.t66 rfl | assumption)), trivial⟩ rfl ?_
   refine wl_buildSlice (c' := (Value.int .i64 k :: bs l).toArray) [(0, .agg (Value.int .i64 k :: bs l).toArray)] Try.underlying66 TF.t75 TF.z75 (by decide) (by decide) rfl ⟨0, 65, rfl, by simp [Value.cells, bs, hl64], by simp [Value.cells, size_madeCells], setSeg_all (by simp [Value.cells, bs, hl64, size_madeCells])⟩ st rfl ?_
   intro b27 w st
   refine wl_nil ⟨rfl, ?_⟩
   refine fl_eff1 11 [7, 6, 5, 3, 2, 1, 0] [8] (by kernel_rfl) ⟨obl_ld rfl rfl rfl (v_load rfl (show Reads Try.prog _ _ (Addr.mk vb (vo + 0) none) (arr l) from hrd st.im TF.t73 (getV_all (by rw [List.size_toArray, length_bs, hl64])))), obl_ld rfl rfl rfl (v_load rfl (by first | exact st.reads 0 rfl TF.t66 rfl | exact st.reads 1 rfl TF.t66 rfl | exact st.reads 2 rfl TF.t66 rfl | exact st.reads 3 rfl TF.t66 rfl | exact st.reads 4 rfl TF.t66 rfl | assumption)), trivial⟩ rfl ?_
   refine wl_append 3 st rfl Try.underlying66 Try.underlying66 (.inr ⟨_, rfl⟩) TF.t75 TF.z75 (by simp [Value.cells]) rfl rfl (st.srcArr (news := Value.int .i64 k :: bs l) 0 rfl (by simp [bs, hl64]) (fun j u hj => by simpa using hj) (fun u hu => by rcases List.mem_cons.1 hu with rfl | hu; rfl; exact one_bs _ u hu)) (by omega) (by omega) rfl ?_
   intro wv' w _ st
   refine wl_nil ⟨rfl, ?_⟩
   refine fl_val 12 rfl (fun _ => (v_nil rfl)) rfl (by kernel_rfl) ?_
   refine fl_val 13 rfl (fun _ => (v_fa TF.f68_1 rfl)) rfl (by kernel_rfl) ?_
   refine fl_eff1 14 [12] [] (by kernel_rfl) ⟨obl_ld rfl rfl rfl (v_load rfl (show Reads Try.prog _ _ (Addr.mk vb (vo + 0) none) (arr l) from hrd st.im TF.t73 (getV_all (by rw [List.size_toArray, length_bs, hl64])))), trivial⟩ rfl ?_
   refine wl_store1 1 st rfl TF.t66 rfl rfl (row_one (st.at (i := 3) rfl)) (by simp) ?_
   intro w st
   have st := st.drop 0
   have e1 : d.wt.length + 1 = (d.wt ++ [((k : Int).toNat, l)]).length := by simp
   have e2 : wtCells d.wt ++ (Value.int .i64 k :: bs l) = wtCells (d.wt ++ [((k : Int).toNat, l)]) := by rw [wtCells_snoc]; simp
   rw [e1, e2] at st
   have st : St m m (joinE (diskL b s n wv d)).foot _ w (diskL b s n wv' { d with wt := d.wt ++ [((k : Int).toNat, l)] } ++ []) := st
   have st := st.join
   refine wl_nil ⟨rfl, ?_⟩
   refine fl_nil (by kernel_rfl) trivial ?_
   refine then_go ?_
   refine wc_seq ?_
   refine wc_seq ?_
   refine wc_region ?_
   refine wl_val (v_move' (by conv => (lhs; whnf))) rfl ?_
   refine wl_call rfl (disk_call st (c_burns st.im (st.at (i := 0) rfl) (st.none (i := 0) rfl) hf)) rfl ?_
   rintro v32 w ⟨wv3, d3, st, rfl, rfl⟩
   refine wl_nil ?_
   refine then_go ?_
   refine wc_cond rfl (fun h32 => ?_) (fun h32 => ?_)
   ·refine wc_seq ?_
    refine wc_region ?_
    refine wl_val (v_assign' (by conv => (lhs; whnf))) rfl ?_
    refine wl_nil ?_
    refine then_go ?_
    refine wc_ret (then_ret ?_)
    exact ret1 (v := .int .i64 14) rfl ⟨wv3, _, (St.finish (Es := []) st.split).1, (St.finish (Es := []) st.split).2, by rw [hdo hl64], by rw [hdo hl64]; simp only [h32, if_true]⟩
   ·refine wc_skip ?_
    refine then_go ?_
    refine wc_seq ?_
    refine wc_region ?_
    refine wl_val (v_assign' (by conv => (lhs; whnf))) rfl ?_
    refine wl_nil ?_
    refine then_go ?_
    refine wc_ret ?_
    exact ret1 (v := .int .i64 0) rfl ⟨wv3, _, (St.finish (Es := []) st.split).1, (St.finish (Es := []) st.split).2, by rw [hdo hl64], by rw [hdo hl64]; simp only [h32, Bool.false_eq_true, if_false]⟩
theorem setSeg_bs {S l : By} {o : Nat} : setSeg (bs S).toArray o (bs l) = (bs (splice S o l)).toArray := by
 apply Array.ext'
 simp [setSeg, splice, bs, List.map_take, List.map_drop]
theorem st_nil {m0 : Mem} {F : List Nat} {w0 : World} {Es : List Ent} {v : Value} {e size k : Nat} {xs : List Value} (st : St m0 m F w0 w Es) (i : Nat) (hi : Es[i]? = some (rowE v e size k xs)) : St m0 m F w0 w (Es.set i (rowE (.slice none 0 0) e size 0 [])) :=
 st.step i hi ⟨rfl, rfl, rfl, Nat.le_refl _, fun _ _ _ => rfl, by simp [rowE, Value.ownBlock]⟩ ⟨by simp, .inl ⟨rfl, rfl⟩⟩
def dumpK (d : DS) (k : Nat) : By := (d.wt.take k).foldl (fun S x => splice S (64 * x.1) x.2) d.S
theorem dumpK_succ (d : DS) (k : Nat) (h : k < d.wt.length) : dumpK d (k + 1) = splice (dumpK d k) (64 * d.wt[k].1) d.wt[k].2 := by
 unfold dumpK
 rw [List.take_succ_eq_append_getElem h, List.foldl_append]
 rfl
theorem length_dumpK {d : DS} {n : Nat} (ok : d.ok n) : ∀ k, k ≤ d.wt.length → (dumpK d k).length = 64 * n
 | 0, _ => by simp [dumpK, ok.len]
 | k + 1, h => by
  have ih := length_dumpK ok k (by omega)
  have hx := ok.wt d.wt[k] (List.getElem_mem _)
  rw [dumpK_succ d k (by omega), length_splice (by rw [ih, hx.2]; omega), ih]
theorem c_sync (him : Im m w) (hE : (diskO b s n wv d).holds w) (hm : ∀ k ∈ (diskO b s n wv d).foot, m k = none) (ok : d.ok n) (hf : -1 ≤ d.fuse ∧ d.fuse ≤ 9223372036854775807) (hfew : d.wt.length ≤ 1000000) :
  DiskCall 64 [] b s n wv d w fun v' d' => d' = (syncD d).1 ∧ v' = .int .i64 (syncD d).2 := by
 have st := St.begin him hE hm
 have ok' := ok.wt
 refine ret_of Try.call64 Try.func64 rfl Try.ntmps64 Try.results64 rfl ?_
 refine wc_seq ?_
 refine wc_region ?_
 refine wl_val (v_assign' (by conv => (lhs; whnf))) rfl ?_
 refine wl_nil ?_
 refine then_go ?_
 refine wc_seq ?_
 refine wc_seq ?_
 refine wc_region ?_
 refine wl_val (v_move' (by conv => (lhs; whnf))) rfl ?_
 refine wl_val (v_nil rfl) rfl ?_
 refine wl_val (v_fa TF.f68_3 rfl) rfl ?_
 refine wl_val (v_load rfl (by first | exact st.reads 0 rfl TF.t4 rfl | exact st.reads 1 rfl TF.t4 rfl | exact st.reads 2 rfl TF.t4 rfl | exact st.reads 3 rfl TF.t4 rfl | exact st.reads 4 rfl TF.t4 rfl | assumption)) rfl ?_
 refine wl_val (v_move' (by conv => (lhs; whnf))) rfl ?_
 rcases Bool.eq_false_or_eq_true (d.down) with hg4 | hg4
 ·rw [hg4]
  refine wl_off rfl rfl rfl rfl ?_
  refine wl_off rfl rfl rfl rfl ?_
  refine wl_val (v_pick rfl) rfl ?_
  refine wl_nil ?_
  refine then_go ?_
  refine wc_true rfl ?_
  refine wc_seq ?_
  refine wc_region ?_
  refine wl_val (v_assign' (by conv => (lhs; whnf))) rfl ?_
  refine wl_nil ?_
  refine then_go ?_
  refine wc_ret (then_ret ?_)
  exact ret1 (v := .int .i64 14) rfl ⟨wv, d, (St.finish (Es := []) st).1, (St.finish (Es := []) st).2, by simp [syncD, hg4], by simp [syncD, hg4]⟩
 ·rw [hg4]
  refine wl_on rfl rfl ?_
  refine wl_val (v_move' (by conv => (lhs; whnf))) rfl ?_
  refine wl_on rfl rfl ?_
  have st : St m m (joinE (diskL b s n wv d)).foot w w (diskL b s n wv d ++ []) := st
  have st := st.join
  refine wl_call rfl (disk_call st (c_burns st.im (st.at (i := 0) rfl) (st.none (i := 0) rfl) hf)) rfl ?_
  rintro v32 w1 ⟨wv3, d3, st, rfl, rfl⟩
  refine wl_val (v_pick rfl) rfl ?_
  refine wl_nil ?_
  refine then_go ?_
  refine wc_cond rfl (fun h12 => ?_) (fun h12 => ?_)
  ·refine wc_seq ?_
   refine wc_region ?_
   refine wl_val (v_assign' (by conv => (lhs; whnf))) rfl ?_
   refine wl_nil ?_
   refine then_go ?_
   refine wc_ret (then_ret ?_)
   have h12' : d.fuse = 0 := by simpa [burn] using h12
   exact ret1 (v := .int .i64 14) rfl ⟨wv3, _, (St.finish (Es := []) st.split).1, (St.finish (Es := []) st.split).2, by simp [syncD, hg4, h12'], by simp [syncD, hg4, h12']⟩
  ·refine wc_skip ?_
   refine then_go ?_
   refine wc_seq ?_
   refine wc_seq ?_
   have hf0 : ¬ d.fuse = 0 := by
    intro h
    have : (burn d).down = true := by simp [burn, h]
    rw [h12] at this
    cases this
   have st : St m m (joinE (diskL b s n wv d)).foot w w1 (diskL b s n wv3 (burn d)) := by have := st.split; rwa [List.append_nil] at this
   obtain ⟨hnil, wa, wc, hwv, hk3, hn3⟩ : ∃ (_ : True) (wa : Option Addr) (wc : Nat), wv3 = .slice wa d.wt.length wc ∧ d.wt.length ≤ wc ∧ True := by
    obtain ⟨_, a, c, h1, h2, _⟩ := row_SlM (m := heapM w1) (st.at (i := 2) rfl) fun _ _ _ h => h
    exact ⟨trivial, a, c, h1, h2, trivial⟩
   subst hwv
   refine wc_region ?_
   refine wl_val (v_move' (by conv => (lhs; whnf))) rfl ?_
   refine wl_val (v_nil rfl) rfl ?_
   refine wl_val (v_fa TF.f68_1 rfl) rfl ?_
   refine wl_val (v_load rfl (by first | exact st.reads 0 rfl TF.t66 rfl | exact st.reads 1 rfl TF.t66 rfl | exact st.reads 2 rfl TF.t66 rfl | exact st.reads 3 rfl TF.t66 rfl | exact st.reads 4 rfl TF.t66 rfl | assumption)) rfl ?_
   refine wl_val (v_len_s Try.underlying66 rfl) rfl ?_
   refine wl_val (v_move' (by conv => (lhs; whnf))) rfl ?_
   refine wl_nil ?_
   refine then_go ?_
   refine wc_block ?_
   refine wc_loop (S := Nat) (fun k r w' => ∃ j, k + j = d.wt.length ∧ r 0 = .pointer (some ⟨b, 0, none⟩) ∧ r 16 = .slice wa d.wt.length wc ∧ r 17 = .int .i64 d.wt.length ∧ r 18 = .int .i64 j ∧
    St m m (joinE (diskL b s n wv d)).foot w w' (diskL b s n (.slice wa d.wt.length wc) { burn d with S := dumpK d j })) id d.wt.length ⟨0, rfl, rfl, rfl, rfl, rfl, st⟩ ?_
   rintro k r w2 ⟨j, hkj, h0, h16, h17, h18, st⟩
   refine wc_o 0 h0 (wc_o 16 h16 (wc_o 17 h17 (wc_o 18 h18 ?_)))
   refine wc_seq ?_
   refine wc_region ?_
   refine wl_val (v_lss rfl rfl) rfl ?_
   refine wl_nil ?_
   refine then_go ?_
   refine wc_seq ?_
   refine wc_if rfl (fun h19 => ?_) (fun h19 => ?_)
   ·refine wc_skip ?_
    refine then_go ?_
    refine wc_seq ?_
    refine wc_block ?_
    refine wc_seq ?_
    have hj : j < d.wt.length := by omega
    obtain ⟨wb, wo, wcap, hv, _, hrd⟩ := (row_SlM (m := heapM w2) (st.at (i := 2) rfl) fun _ _ _ h => h).elem Try.prog (i := j) hj (by omega)
    cases hv
    have hel := wt_elem (fun x hx => (ok' x hx).2) hj
    have hx := ok' d.wt[j] (List.getElem_mem _)
    refine wc_region ?_
    refine wl_val (v_ias j Try.underlying66 TF.t75 rfl rfl (by first | rfl | omega) (by first | omega | (dsimp only at *; omega))) rfl ?_
    refine wl_val (v_load rfl (hrd (im_heapM _) (off := 0) TF.t75 (getV_all (by show ((cellsAt (wtCells d.wt) 65 j).toArray).size = 65; rw [hel]; simp [bs, hx.2])))) rfl ?_
    refine wl_alloc TF.z75 st rfl ?_
    intro b4 w st
    refine wl_storeW 0 st rfl TF.t75 rfl rfl (by show ((cellsAt (wtCells d.wt) 65 j).toArray).size = 65; rw [hel]; simp [bs, hx.2]) (by simp [Value.cells]) (fun u hu => by
     have hu' : u ∈ cellsAt (wtCells d.wt) 65 j := (by simpa using hu : u ∈ cellsAt (wtCells (burn d).wt) 65 j)
     rw [hel] at hu'
     rcases List.mem_cons.1 hu' with rfl | hu'
     ·rfl
     ·exact one_bs _ u hu') ?_
    intro w st
    have hel' : cellsAt (wtCells (burn d).wt) 65 j = Value.int .i64 d.wt[j].1 :: bs d.wt[j].2 := hel
    change St _ _ _ _ _ (blk b4 (cellsAt (wtCells (burn d).wt) 65 j).toArray 75 :: diskL b s n (.slice (some ⟨wb, wo, none⟩) d.wt.length wc) { burn d with S := dumpK d j }) at st
    rw [hel'] at st
    refine wl_nil ?_
    refine then_go ?_
    refine wc_draw TF.mixed ?_
    have st := st.pure (touch_drew _)
    refine fl_val 0 rfl (fun _ => (v_move' (by conv => (lhs; whnf)))) rfl (by kernel_rfl) ?_
    refine fl_val 1 rfl (fun _ => (v_nil rfl)) rfl (by kernel_rfl) ?_
    refine fl_val 2 rfl (fun _ => (v_fa TF.f68_0 rfl)) rfl (by kernel_rfl) ?_
    refine fl_ld 3 rfl (v_load rfl (by first | exact st.reads 0 rfl TF.t65 rfl | exact st.reads 1 rfl TF.t65 rfl | exact st.reads 2 rfl TF.t65 rfl | exact st.reads 3 rfl TF.t65 rfl | exact st.reads 4 rfl TF.t65 rfl | assumption)) (by kernel_rfl) ?_
    refine fl_val 4 rfl (fun _ => (v_fa TF.f75_0 rfl)) rfl (by kernel_rfl) ?_
    refine fl_ld 5 rfl (v_load rfl (by first | exact st.rdp 0 rfl (by exact rfl) TF.t3 (by exact rfl) | exact st.rdp 1 rfl (by exact rfl) TF.t3 (by exact rfl) | exact st.rdp 2 rfl (by exact rfl) TF.t3 (by exact rfl) | exact st.rdp 3 rfl (by exact rfl) TF.t3 (by exact rfl) | exact st.rdp 4 rfl (by exact rfl) TF.t3 (by exact rfl) | exact st.rdp 5 rfl (by exact rfl) TF.t3 (by exact rfl) | exact st.rdp 6 rfl (by exact rfl) TF.t3 (by exact rfl) | exact st.rdp 7 rfl (by exact rfl) TF.t3 (by exact rfl))) (by kernel_rfl) ?_
    refine fl_val 6 rfl (fun _ => (v_fa TF.f75_1 rfl)) rfl (by kernel_rfl) ?_
    refine fl_ld 7 rfl (v_load rfl (st.reads 0 rfl TF.t73 (getV_tl (by simp [bs, hx.2])))) (by kernel_rfl) ?_
    refine fl_val 8 rfl (fun _ => (v_ias (d.wt[j].1) Try.underlying65 TF.t73 rfl rfl (by first | rfl | omega) hx.1)) rfl (by kernel_rfl) ?_
    refine fl_eff1 9 [] [] (by kernel_rfl) ⟨obl_ld rfl rfl rfl (v_load rfl (st.reads 0 rfl TF.t73 (getV_tl (by simp [bs, hx.2])))), obl_ld rfl rfl rfl (v_load rfl (by first | exact st.rdp 0 rfl (by exact rfl) TF.t3 (by exact rfl) | exact st.rdp 1 rfl (by exact rfl) TF.t3 (by exact rfl) | exact st.rdp 2 rfl (by exact rfl) TF.t3 (by exact rfl) | exact st.rdp 3 rfl (by exact rfl) TF.t3 (by exact rfl) | exact st.rdp 4 rfl (by exact rfl) TF.t3 (by exact rfl) | exact st.rdp 5 rfl (by exact rfl) TF.t3 (by exact rfl) | exact st.rdp 6 rfl (by exact rfl) TF.t3 (by exact rfl) | exact st.rdp 7 rfl (by exact rfl) TF.t3 (by exact rfl))), obl_ld rfl rfl rfl (v_load rfl (by first | exact st.reads 0 rfl TF.t65 rfl | exact st.reads 1 rfl TF.t65 rfl | exact st.reads 2 rfl TF.t65 rfl | exact st.reads 3 rfl TF.t65 rfl | exact st.reads 4 rfl TF.t65 rfl | assumption)), trivial⟩ rfl ?_
    have hlS : (dumpK d j).length = 64 * n := length_dumpK ok j (by omega)
    refine wl_store (v := .agg (bs d.wt[j].2).toArray) 2 st rfl TF.t73 rfl rfl (by simp [Value.cells, bs, hx.2]) (fun u hu => one_bs _ u (by simpa [Value.cells] using hu)) (by simp [bs, hlS]; omega) ?_
    intro w st
    have e : setSeg (bs (dumpK d j)).toArray (0 + d.wt[j].1 * 64) (Value.agg (bs d.wt[j].2).toArray).cells.toList = (bs (dumpK d (j + 1))).toArray := by
     rw [dumpK_succ d j hj, show 0 + d.wt[j].1 * 64 = 64 * d.wt[j].1 by omega]
     exact setSeg_bs
    have st := st.drop 0
    change St _ _ _ _ _ [_, blk s (setSeg (bs (dumpK d j)).toArray (0 + d.wt[j].1 * 64) (Value.agg (bs d.wt[j].2).toArray).cells.toList) _, _] at st
    rw [e] at st
    change St _ _ _ _ _ (diskL b s n (.slice (some ⟨wb, wo, none⟩) d.wt.length wc) { burn d with S := dumpK d (j + 1) }) at st
    refine wl_nil ⟨rfl, ?_⟩
    refine fl_nil (by kernel_rfl) trivial ?_
    refine block_go (then_go ?_)
    refine wc_region ?_
    refine wl_val (v_add' rfl rfl rfl (by first | omega | (dsimp only at *; omega)) (by first | omega | (dsimp only at *; omega))) rfl ?_
    refine wl_val (v_move' (by conv => (lhs; whnf))) rfl ?_
    refine wl_nil ?_
    refine then_go ?_
    exact ⟨k - 1, by simp; omega, j + 1, by omega, rfl, rfl, rfl, rfl, st⟩
   ·refine wc_exit (then_exit (then_exit (block_hit ?_)))
    refine then_go ?_
    refine wc_seq ?_
    refine wc_region ?_
    refine wl_val (v_move' (by conv => (lhs; whnf))) rfl ?_
    refine wl_val (v_nil rfl) rfl ?_
    refine wl_val (v_fa TF.f68_1 rfl) rfl ?_
    refine wl_store1 0 st rfl TF.t66 rfl rfl rfl (by simp) ?_
    intro w st
    have hjl : j = d.wt.length := by omega
    subst hjl
    have st := st_nil st 2 rfl
    have e : dumpK d d.wt.length = dump d := by simp [dumpK, dump]
    change St _ _ _ _ _ (diskL b s n (.slice none 0 0) { burn d with S := dumpK d d.wt.length, wt := [] }) at st
    rw [e] at st
    refine wl_nil ?_
    refine then_go ?_
    refine wc_seq ?_
    refine wc_region ?_
    refine wl_val (v_assign' (by conv => (lhs; whnf))) rfl ?_
    refine wl_nil ?_
    refine then_go ?_
    refine wc_ret ?_
    exact ret1 (v := .int .i64 0) rfl ⟨_, _, (St.finish (Es := []) st).1, (St.finish (Es := []) st).2, by simp [syncD, hg4, hf0], by simp [syncD, hg4, hf0]⟩
end
end Go.Proofs.Ytnaoafogdplnaaa

namespace Go.Proofs.Ytnaoafogdplnaaa
open Go Go.RowKit K DK
def ints (l : List Int) : List Value := l.map (Value.int .i64)
section
variable {m : Mem} {w : World} {b s n : Nat} {wv : Value} {d : DS}
theorem c_crash {kv : Value} {keep : List Int} (him : Im m w) (hE : (diskO b s n wv d).holds w) (hm : ∀ k ∈ (diskO b s n wv d).foot, m k = none) (ok : d.ok n) (hfew : d.wt.length ≤ 1000000)
  (hk : SlM m kv 1 keep.length (ints keep)) :
  DiskCall 16 [kv] b s n wv d w fun _ d' => d' = crashD d keep := by
 have st := St.begin him hE hm
 have ok' := ok.wt
 have hk0 := hk
 obtain ⟨hkl, ka, kc, rfl, hk1⟩ := hk
 obtain ⟨wa, wc, hwv⟩ : ∃ (wa : Option Addr) (wc : Nat), wv = .slice wa d.wt.length wc := by
  obtain ⟨_, a, c, h1, _⟩ := row_SlM (m := heapM w) (st.at (i := 2) rfl) fun _ _ _ h => h
  exact ⟨a, c, h1⟩
 subst hwv
 refine ret_of Try.call16 Try.func16 rfl Try.ntmps16 Try.results16 rfl ?_
 refine wc_seq ?_
 refine wc_seq ?_
 refine wc_region ?_
 refine wl_val (v_move' (by conv => (lhs; whnf))) rfl ?_
 refine wl_val (v_nil rfl) rfl ?_
 refine wl_val (v_fa TF.f68_1 rfl) rfl ?_
 refine wl_val (v_load rfl (by first | exact st.reads 0 rfl TF.t66 rfl | exact st.reads 1 rfl TF.t66 rfl | exact st.reads 2 rfl TF.t66 rfl | exact st.reads 3 rfl TF.t66 rfl | exact st.reads 4 rfl TF.t66 rfl | assumption)) rfl ?_
 refine wl_val (v_len_s Try.underlying66 rfl) rfl ?_
 refine wl_val (v_move' (by conv => (lhs; whnf))) rfl ?_
 refine wl_nil ?_
 refine then_go ?_
 refine wc_block ?_
 refine wc_loop (S := Nat) (fun k r w' => ∃ j S, k + j = d.wt.length ∧ r 0 = .pointer (some ⟨b, 0, none⟩) ∧ r 1 = .slice ka keep.length kc ∧ r 10 = .slice wa d.wt.length wc ∧ r 11 = .int .i64 d.wt.length ∧ r 12 = .int .i64 j ∧ S.length = 64 * n ∧ crashS keep 0 d.S d.wt = crashS keep j S (d.wt.drop j) ∧
  St m m (joinE (diskL b s n (.slice wa d.wt.length wc) d)).foot w w' (diskL b s n (.slice wa d.wt.length wc) { d with S := S })) id d.wt.length ⟨0, d.S, rfl, rfl, rfl, rfl, rfl, rfl, ok.len, rfl, st⟩ ?_
 rintro k r w2 ⟨j, S, hkj, h0, h1, h10, h11, h12, hS, hcr, st⟩
 refine wc_o 0 h0 (wc_o 1 h1 (wc_o 10 h10 (wc_o 11 h11 (wc_o 12 h12 ?_))))
 refine wc_seq ?_
 refine wc_region ?_
 refine wl_val (v_lss rfl rfl) rfl ?_
 refine wl_nil ?_
 refine then_go ?_
 refine wc_seq ?_
 refine wc_if rfl (fun h13 => ?_) (fun h13 => ?_)
 ·refine wc_skip ?_
  refine then_go ?_
  refine wc_seq ?_
  refine wc_block ?_
  refine wc_seq ?_
  have hj : j < d.wt.length := by omega
  obtain ⟨wb, wo, wcap, hv, _, hrd⟩ := (row_SlM (m := heapM w2) (st.at (i := 2) rfl) fun _ _ _ h => h).elem Try.prog (i := j) hj (by omega)
  cases hv
  have hel : cellsAt (wtCells d.wt) 65 j = Value.int .i64 d.wt[j].1 :: bs d.wt[j].2 := wt_elem (fun x hx => (ok' x hx).2) hj
  have hx := ok' d.wt[j] (List.getElem_mem _)
  refine wc_region ?_
  refine wl_val (v_move' (by conv => (lhs; whnf))) rfl ?_
  refine wl_val (v_ias j Try.underlying66 TF.t75 rfl rfl (by first | rfl | omega) (by first | omega | (dsimp only at *; omega))) rfl ?_
  refine wl_val (v_load rfl (hrd (im_heapM _) (off := 0) TF.t75 (getV_all (by show ((cellsAt (wtCells d.wt) 65 j).toArray).size = 65; rw [hel]; simp [bs, hx.2])))) rfl ?_
  refine wl_alloc TF.z75 st rfl ?_
  intro b5 w st
  refine wl_val (v_assign' (by conv => (lhs; whnf))) rfl ?_
  refine wl_storeW 0 st rfl TF.t75 rfl rfl (by show ((cellsAt (wtCells d.wt) 65 j).toArray).size = 65; rw [hel]; simp [bs, hx.2]) (by simp [Value.cells]) (fun u hu => by
   have hu' : u ∈ cellsAt (wtCells d.wt) 65 j := by simpa using hu
   rw [hel] at hu'
   rcases List.mem_cons.1 hu' with rfl | hu'
   ·rfl
   ·exact one_bs _ u hu') ?_
  intro w st
  change St _ _ _ _ _ (blk b5 (cellsAt (wtCells d.wt) 65 j).toArray 75 :: diskL b s n (.slice (some ⟨wb, wo, none⟩) d.wt.length wc) { d with S := S }) at st
  rw [hel] at st
  refine wl_nil ?_
  refine then_go ?_
  refine wc_seq ?_
  refine wc_region ?_
  refine wl_val (v_move' (by conv => (lhs; whnf))) rfl ?_
  refine wl_val (v_move' (by conv => (lhs; whnf))) rfl ?_
  refine wl_val (v_len_s Try.underlying40 rfl) rfl ?_
  refine wl_val (v_lss rfl rfl) rfl ?_
  refine wl_nil ?_
  refine then_go ?_
  refine wc_if rfl (fun h20 => ?_) (fun h20 => ?_)
  ·refine wc_seq ?_
   have hjk : j < keep.length := by omega
   obtain ⟨kb, ko, kcap, hkv, _, hkr⟩ := hk0.elem Try.prog (i := j) hjk (by omega)
   cases hkv
   have hkel : cellsAt (ints keep) 1 j = [Value.int .i64 keep[j]] := by simp [cellsAt, ints, List.drop_eq_getElem_cons, hjk]
   have hnn : min (max keep[j] 0) 64 = (keepN keep j : Int) := by simp [keepN, List.getElem?_eq_getElem hjk]; omega
   have hn64 := keepN_le keep j
   refine wc_region ?_
   refine wl_val (v_move' (by conv => (lhs; whnf))) rfl ?_
   refine wl_val (v_move' (by conv => (lhs; whnf))) rfl ?_
   refine wl_val (v_ias j Try.underlying40 TF.t3 rfl rfl (by first | rfl | omega) (by first | omega | (dsimp only at *; omega))) rfl ?_
   refine wl_val (v_load rfl (hkr st.im (off := 0) TF.t3 (by rw [hkel]; rfl))) rfl ?_
   refine wl_val (v_max rfl rfl) rfl ?_
   refine wl_val (v_min rfl rfl) rfl ?_
   refine wl_val (v_assign' (by conv => (lhs; whnf))) rfl ?_
   refine wl_nil ?_
   refine then_go ?_
   refine wc_draw TF.mixed ?_
   have st := st.pure (touch_drew _)
   refine fl_val 0 rfl (fun _ => (v_move' (by conv => (lhs; whnf)))) rfl (by kernel_rfl) ?_
   refine fl_val 1 rfl (fun _ => (v_nil rfl)) rfl (by kernel_rfl) ?_
   refine fl_val 2 rfl (fun _ => (v_fa TF.f68_0 rfl)) rfl (by kernel_rfl) ?_
   refine fl_ld 3 rfl (v_load rfl (by first | exact st.reads 0 rfl TF.t65 rfl | exact st.reads 1 rfl TF.t65 rfl | exact st.reads 2 rfl TF.t65 rfl | exact st.reads 3 rfl TF.t65 rfl | exact st.reads 4 rfl TF.t65 rfl | assumption)) (by kernel_rfl) ?_
   refine fl_val 4 rfl (fun _ => (v_fa TF.f75_0 rfl)) rfl (by kernel_rfl) ?_
   refine fl_ld 5 rfl (v_load rfl (st.reads 0 rfl TF.t3 rfl)) (by kernel_rfl) ?_
   refine fl_val 6 rfl (fun _ => (v_ias (d.wt[j].1) Try.underlying65 TF.t73 rfl rfl (by first | rfl | omega) hx.1)) rfl (by kernel_rfl) ?_
   refine fl_val 7 rfl (fun _ => (v_move' (by conv => (lhs; whnf)))) rfl (by kernel_rfl) ?_
   refine fl_val 8 rfl (fun _ => (v_slice_a (l := 0) (h := keepN keep j) Try.underlying73 TF.t5 rfl rfl ⟨_, _, rfl, hnn⟩ (by omega) hn64)) rfl (by kernel_rfl) ?_
   refine fl_val 9 rfl (fun _ => (v_fa TF.f75_1 rfl)) rfl (by kernel_rfl) ?_
   refine fl_val 10 rfl (fun _ => (v_move' (by conv => (lhs; whnf)))) rfl (by kernel_rfl) ?_
   refine fl_val 11 rfl (fun _ => (v_slice_a (l := 0) (h := keepN keep j) Try.underlying73 TF.t5 rfl rfl ⟨_, _, rfl, hnn⟩ (by omega) hn64)) rfl (by kernel_rfl) ?_
   refine fl_eff1 12 [10, 9, 7, 6, 4, 2, 1, 0] [5, 3] (by kernel_rfl) ⟨obl_ld rfl rfl rfl (v_load rfl (st.reads 0 rfl TF.t3 rfl)), obl_ld rfl rfl rfl (v_load rfl (by first | exact st.reads 0 rfl TF.t65 rfl | exact st.reads 1 rfl TF.t65 rfl | exact st.reads 2 rfl TF.t65 rfl | exact st.reads 3 rfl TF.t65 rfl | exact st.reads 4 rfl TF.t65 rfl | assumption)), trivial⟩ rfl ?_
   refine wl_copy (size := 1) (b := s) (off := d.wt[j].1 * 64) (len := keepN keep j) (cap := 64) 2 st rfl Try.underlying30 TF.t5 (by simp; rfl) rfl (st.srcArr (off := 1) (k := keepN keep j) (cap := 64) (news := bs (d.wt[j].2.take (keepN keep j))) 0 rfl (by simp [bs, hx.2]; omega) ?_ (one_bs _)) (by simp [bs, hS]; omega) rfl ?_
   ·intro q u hq
    simp only [bs, List.map_take, List.getElem?_take] at hq
    split at hq
    ·rw [Nat.add_comm, List.getElem?_toArray, List.getElem?_cons_succ]; exact hq
    ·cases hq
   intro w st
   refine wl_nil ⟨rfl, ?_⟩
   refine fl_nil (by kernel_rfl) ⟨obl_ld rfl rfl rfl (v_load rfl (st.reads 0 rfl TF.t3 rfl)), obl_ld rfl rfl rfl (v_load rfl (by first | exact st.reads 0 rfl TF.t65 rfl | exact st.reads 1 rfl TF.t65 rfl | exact st.reads 2 rfl TF.t65 rfl | exact st.reads 3 rfl TF.t65 rfl | exact st.reads 4 rfl TF.t65 rfl | assumption)), trivial⟩ ?_
   have st := st.drop 0
   have e : setSeg (bs S).toArray (d.wt[j].1 * 64) ((bs (d.wt[j].2.take (keepN keep j))).take (min (keepN keep j) (keepN keep j) * 1)) = (bs (splice S (64 * d.wt[j].1) (d.wt[j].2.take (keepN keep j)))).toArray := by
    rw [List.take_of_length_le (by simp [bs]; omega), Nat.mul_comm]
    exact setSeg_bs
   change St _ _ _ _ _ [_, blk s (setSeg (bs S).toArray (d.wt[j].1 * 64) ((bs (d.wt[j].2.take (keepN keep j))).take (min (keepN keep j) (keepN keep j) * 1))) _, _] at st
   rw [e] at st
   refine block_go (then_go ?_)
   refine wc_region ?_
   refine wl_val (v_add' rfl rfl rfl (by first | omega | (dsimp only at *; omega)) (by first | omega | (dsimp only at *; omega))) rfl ?_
   refine wl_val (v_move' (by conv => (lhs; whnf))) rfl ?_
   refine wl_nil ?_
   refine then_go ?_
   refine ⟨k - 1, by simp; omega, j + 1, splice S (64 * d.wt[j].1) (d.wt[j].2.take (keepN keep j)), by omega, rfl, rfl, rfl, rfl, rfl, ?_, ?_, st⟩
   ·rw [length_splice (by simp [hS, hx.2]; omega), hS]
   ·rw [hcr, crash_step hj]
  ·refine wc_skip ?_
   refine block_go (then_go ?_)
   refine wc_region ?_
   refine wl_val (v_add' rfl rfl rfl (by first | omega | (dsimp only at *; omega)) (by first | omega | (dsimp only at *; omega))) rfl ?_
   refine wl_val (v_move' (by conv => (lhs; whnf))) rfl ?_
   refine wl_nil ?_
   refine then_go ?_
   have st := st.drop 0
   have hkn : keepN keep j = 0 := keepN_none (by omega)
   refine ⟨k - 1, by simp; omega, j + 1, S, by omega, rfl, rfl, rfl, rfl, rfl, hS, ?_, st⟩
   rw [hcr, crash_step hj, hkn]
   simp [splice_nil]
 ·refine wc_exit (then_exit (then_exit (block_hit ?_)))
  refine then_go ?_
  have hjl : j = d.wt.length := by omega
  subst hjl
  refine wc_region ?_
  refine wl_val (v_move' (by conv => (lhs; whnf))) rfl ?_
  refine wl_val (v_move' (by conv => (lhs; whnf))) rfl ?_
  refine wl_val (v_move' (by conv => (lhs; whnf))) rfl ?_
  refine wl_val (v_nil rfl) rfl ?_
  refine wl_val (v_fa TF.f68_1 rfl) rfl ?_
  refine wl_store1 0 st rfl TF.t66 rfl (by conv => (lhs; whnf)) rfl (by first | exact lt_ok rfl | decide | simp) ?_
  intro w st
  refine wl_val (v_nil rfl) rfl ?_
  refine wl_val (v_fa TF.f68_3 rfl) rfl ?_
  refine wl_store1 0 st rfl TF.t4 rfl (by conv => (lhs; whnf)) rfl (by first | exact lt_ok rfl | decide | simp) ?_
  intro w st
  refine wl_val (v_nil rfl) rfl ?_
  refine wl_val (v_fa TF.f68_2 rfl) rfl ?_
  refine wl_store1 0 st rfl TF.t3 rfl (by conv => (lhs; whnf)) rfl (by first | exact lt_ok rfl | decide | simp) ?_
  intro w st
  have st := st_nil st 2 rfl
  change St _ _ _ _ _ (diskL b s n (.slice none 0 0) ⟨S, [], -1, false⟩) at st
  refine wl_nil ?_
  refine end0 ⟨_, _, (St.finish (Es := []) st).1, (St.finish (Es := []) st).2, ?_⟩
  unfold crashD
  rw [hcr]
  simp [crashS]
def NewBytes (w w' : World) (v : Value) (l : By) : Prop := ∃ m1, Fresh m1 w ∧ Im m1 w' ∧ SlM m1 v 1 l.length (bs l)
theorem dumpK_all (d : DS) : dumpK d d.wt.length = dump d := by simp [dumpK, dump]
theorem setSeg_sp {S l : By} {sp : List Value} {o : Nat} (h : o + l.length ≤ S.length) : setSeg (bs S ++ sp).toArray o (bs l) = (bs (splice S o l) ++ sp).toArray := by
 apply Array.ext'
 simp only [setSeg, splice, bs, List.map_append, List.map_take, List.map_drop, List.length_map]
 rw [List.take_append_of_le_length (by simp; omega), List.drop_append_of_le_length (by simp; omega)]
 simp
theorem c_dump {wI : World} (him : Im m wI) (hd : diskM m b n d) :
  Ret Try.prog 23 #[.pointer (some ⟨b, 0, none⟩)] wI fun v w' => Tch wI w' [] [] ∧ NewBytes wI w' v (dump d) := by
 obtain ⟨ok, ⟨s, wv, hb, hs, hw⟩, hf⟩ := hd
 have st := St.start him
 have hw0 := hw
 obtain ⟨hwl, wa, wc, rfl, hw1⟩ := hw
 have ok1 := ok.pos
 have ok2 := ok.le
 have ok3 := ok.len
 have ok' := ok.wt
 refine ret_of Try.call23 Try.func23 rfl Try.ntmps23 Try.results23 rfl ?_
 refine wc_seq ?_
 refine wc_region ?_
 refine wl_val (v_assign' (by conv => (lhs; whnf))) rfl ?_
 refine wl_nil ?_
 refine then_go ?_
 refine wc_seq ?_
 refine wc_region ?_
 refine wl_val (v_move' (by conv => (lhs; whnf))) rfl ?_
 refine wl_val (v_nil rfl) rfl ?_
 refine wl_val (v_fa TF.f68_0 rfl) rfl ?_
 refine wl_val (v_load rfl (st.readm hb TF.t65 rfl)) rfl ?_
 refine wl_val (v_len_s Try.underlying65 rfl) rfl ?_
 refine wl_val (v_mul' rfl rfl rfl (by first | omega | (dsimp only at *; omega)) (by first | omega | (dsimp only at *; omega))) rfl ?_
 refine wl_make (l := 0) (c := n * 64) Try.underlying30 TF.t5 TF.z5 rfl rfl rfl (by simp) (by omega) (by omega) (by omega) (by omega) st rfl ?_
 intro b3 w st
 have st := st.rowShut 0 (k := 0) (cap := n * 64) (size := 1) (xs := []) rfl (by omega) (by simp [size_madeCells]) (by omega) (by simp)
 refine wl_val (v_assign' (by conv => (lhs; whnf))) rfl ?_
 refine wl_nil ?_
 refine then_go ?_
 refine wc_seq ?_
 refine wc_region ?_
 refine wl_val (v_move' (by conv => (lhs; whnf))) rfl ?_
 refine wl_val (v_nil rfl) rfl ?_
 refine wl_val (v_fa TF.f68_0 rfl) rfl ?_
 refine wl_val (v_load rfl (st.readm hb TF.t65 rfl)) rfl ?_
 have st := st.new (E := rowE (.slice none 0 0) 73 64 0 []) ⟨rfl, rfl, rfl, Nat.le_refl _, fun _ _ _ => rfl, by simp [rowE, Value.ownBlock]⟩ ⟨by simp, .inl ⟨rfl, rfl⟩⟩
 refine wl_append 0 st rfl Try.underlying65 Try.underlying65 (.inr ⟨_, rfl⟩) TF.t73 TF.z73 (by simp [Value.cells]) rfl rfl ((SlM.of (o := 0) (k := n) (cap := n) (size := 64) (xs := bs d.S) hs (by simp [bs, ok3]; omega) (Nat.le_refl _) (fun j u hj => by simpa using hj)).src st.im (one_bs _)) (by omega) (by omega) rfl ?_
 intro lv w _ st
 rw [Nat.zero_add, List.nil_append] at st
 obtain ⟨g, cap, sp, rfl, hgc, hsp, hcap, st⟩ := st.rowOpen 0 rfl (by omega)
 change St _ _ _ _ _ [blk g (bs d.S ++ sp).toArray 73, rowE (.slice (some ⟨b3, 0, none⟩) 0 (n * 64)) 5 1 0 []] at st
 refine wl_val (v_assign' (by conv => (lhs; whnf))) rfl ?_
 refine wl_nil ?_
 refine then_go ?_
 refine wc_seq ?_
 refine wc_seq ?_
 refine wc_region ?_
 refine wl_val (v_move' (by conv => (lhs; whnf))) rfl ?_
 refine wl_val (v_nil rfl) rfl ?_
 refine wl_val (v_fa TF.f68_1 rfl) rfl ?_
 refine wl_val (v_load rfl (st.readm hb TF.t66 rfl)) rfl ?_
 refine wl_val (v_len_s Try.underlying66 rfl) rfl ?_
 refine wl_val (v_move' (by conv => (lhs; whnf))) rfl ?_
 refine wl_nil ?_
 refine then_go ?_
 refine wc_block ?_
 refine wc_loop (S := Nat) (fun k r w' => ∃ j, k + j = d.wt.length ∧ r 3 = .slice (some ⟨b3, 0, none⟩) 0 (n * 64) ∧ r 4 = .slice (some ⟨g, 0, none⟩) n cap ∧ r 24 = .slice wa d.wt.length wc ∧ r 25 = .int .i64 d.wt.length ∧ r 26 = .int .i64 j ∧
  St m m [] wI w' [blk g (bs (dumpK d j) ++ sp).toArray 73, rowE (.slice (some ⟨b3, 0, none⟩) 0 (n * 64)) 5 1 0 []]) id d.wt.length ⟨0, rfl, rfl, rfl, rfl, rfl, rfl, st⟩ ?_
 rintro k r w2 ⟨j, hkj, h3, h4, h24, h25, h26, st⟩
 refine wc_o 3 h3 (wc_o 4 h4 (wc_o 24 h24 (wc_o 25 h25 (wc_o 26 h26 ?_))))
 refine wc_seq ?_
 refine wc_region ?_
 refine wl_val (v_lss rfl rfl) rfl ?_
 refine wl_nil ?_
 refine then_go ?_
 refine wc_seq ?_
 refine wc_if rfl (fun h27 => ?_) (fun h27 => ?_)
 ·refine wc_skip ?_
  refine then_go ?_
  refine wc_seq ?_
  refine wc_block ?_
  refine wc_seq ?_
  have hj : j < d.wt.length := by omega
  obtain ⟨wb, wo, wcap, hv, _, hrd⟩ := hw0.elem Try.prog (i := j) hj (by omega)
  cases hv
  have hel : cellsAt (wtCells d.wt) 65 j = Value.int .i64 d.wt[j].1 :: bs d.wt[j].2 := wt_elem (fun x hx => (ok' x hx).2) hj
  have hx := ok' d.wt[j] (List.getElem_mem _)
  refine wc_region ?_
  refine wl_val (v_ias j Try.underlying66 TF.t75 rfl rfl (by first | rfl | omega) (by first | omega | (dsimp only at *; omega))) rfl ?_
  refine wl_val (v_load rfl (hrd st.im (off := 0) TF.t75 (getV_all (by rw [hel]; simp [bs, hx.2])))) rfl ?_
  refine wl_alloc TF.z75 st rfl ?_
  intro b6 w st
  refine wl_storeW 0 st rfl TF.t75 rfl rfl (by rw [hel]; simp [bs, hx.2]) (by simp [Value.cells]) (fun u hu => by
   rw [hel] at hu
   rcases List.mem_cons.1 (List.mem_toArray.1 (by simpa using hu)) with rfl | hu'
   ·rfl
   ·exact one_bs _ u hu') ?_
  intro w st
  rw [hel] at st
  refine wl_nil ?_
  refine then_go ?_
  refine wc_region ?_
  refine wl_val (v_move' (by conv => (lhs; whnf))) rfl ?_
  refine wl_val (v_fa TF.f75_0 rfl) rfl ?_
  refine wl_val (v_load rfl (by first | exact st.rdp 0 rfl (by exact rfl) TF.t3 (by exact rfl) | exact st.rdp 1 rfl (by exact rfl) TF.t3 (by exact rfl) | exact st.rdp 2 rfl (by exact rfl) TF.t3 (by exact rfl) | exact st.rdp 3 rfl (by exact rfl) TF.t3 (by exact rfl) | exact st.rdp 4 rfl (by exact rfl) TF.t3 (by exact rfl) | exact st.rdp 5 rfl (by exact rfl) TF.t3 (by exact rfl) | exact st.rdp 6 rfl (by exact rfl) TF.t3 (by exact rfl) | exact st.rdp 7 rfl (by exact rfl) TF.t3 (by exact rfl))) rfl ?_
  refine wl_val (v_fa TF.f75_1 rfl) rfl ?_
  refine wl_val (v_load rfl (st.reads 0 rfl TF.t73 (getV_tl (by simp [bs, hx.2])))) rfl ?_
  refine wl_val (v_ias (d.wt[j].1) Try.underlying65 TF.t73 rfl rfl (by first | rfl | omega) hx.1) rfl ?_
  have hlS : (dumpK d j).length = 64 * n := length_dumpK ok j (by omega)
  refine wl_store (v := .agg (bs d.wt[j].2).toArray) 1 st rfl TF.t73 rfl rfl (by simp [Value.cells, bs, hx.2]) (fun u hu => one_bs _ u (by simpa [Value.cells] using hu)) (by simp [bs, hlS]; omega) ?_
  intro w st
  have e : setSeg (bs (dumpK d j) ++ sp).toArray (0 + d.wt[j].1 * 64) (Value.agg (bs d.wt[j].2).toArray).cells.toList = (bs (dumpK d (j + 1)) ++ sp).toArray := by
   rw [dumpK_succ d j hj, show 0 + d.wt[j].1 * 64 = 64 * d.wt[j].1 by omega]
   exact setSeg_sp (by rw [hlS, hx.2]; omega)
  rw [e] at st
  have st := st.drop 0
  refine wl_nil ?_
  refine block_go (then_go ?_)
  refine wc_region ?_
  refine wl_val (v_add' rfl rfl rfl (by first | omega | (dsimp only at *; omega)) (by first | omega | (dsimp only at *; omega))) rfl ?_
  refine wl_val (v_move' (by conv => (lhs; whnf))) rfl ?_
  refine wl_nil ?_
  refine then_go ?_
  exact ⟨k - 1, by simp; omega, j + 1, by omega, rfl, rfl, rfl, rfl, rfl, st⟩
 ·refine wc_exit (then_exit (then_exit (block_hit ?_)))
  refine then_go ?_
  refine wc_seq ?_
  refine wc_seq ?_
  have hjl : j = d.wt.length := by omega
  subst hjl
  rw [dumpK_all] at st
  have hD : (dump d).length = 64 * n := by rw [← dumpK_all]; exact length_dumpK ok _ (Nat.le_refl _)
  refine wc_region ?_
  refine wl_val (v_move' (by conv => (lhs; whnf))) rfl ?_
  refine wl_val (v_len_s Try.underlying65 rfl) rfl ?_
  refine wl_val (v_move' (by conv => (lhs; whnf))) rfl ?_
  refine wl_nil ?_
  refine then_go ?_
  refine wc_block ?_
  refine wc_loop (S := Nat) (fun k r w' => ∃ j v, k + j = n ∧ r 3 = v ∧ r 37 = .slice (some ⟨g, 0, none⟩) n cap ∧ r 38 = .int .i64 n ∧ r 39 = .int .i64 j ∧
   St m m [] wI w' [blk g (bs (dump d) ++ sp).toArray 73, rowE v 5 1 (64 * j) (bs ((dump d).take (64 * j)))]) id n ⟨0, _, rfl, rfl, rfl, rfl, rfl, by rw [show bs ((dump d).take (64 * 0)) = [] by simp [bs]]; exact st⟩ ?_
  rintro k r w2 ⟨j, v, hkj, h3, h37, h38, h39, st⟩
  refine wc_o 3 h3 (wc_o 37 h37 (wc_o 38 h38 (wc_o 39 h39 ?_)))
  refine wc_seq ?_
  refine wc_region ?_
  refine wl_val (v_lss rfl rfl) rfl ?_
  refine wl_nil ?_
  refine then_go ?_
  refine wc_seq ?_
  refine wc_if rfl (fun h40 => ?_) (fun h40 => ?_)
  ·refine wc_skip ?_
   refine then_go ?_
   refine wc_seq ?_
   refine wc_block ?_
   refine wc_seq ?_
   have hj : j < n := by omega
   have hsec : (sec (dump d) j).length = 64 := by simp [sec, hD]; omega
   refine wc_region ?_
   refine wl_val (v_ias j Try.underlying65 TF.t73 rfl rfl (by first | rfl | omega) (by first | omega | (dsimp only at *; omega))) rfl ?_
   refine wl_val (v_load rfl (st.reads 0 rfl TF.t73 (getV_seg (a := bs ((dump d).take (64 * j))) (b := bs (sec (dump d) j)) (c := bs ((dump d).drop (64 * j + 64)) ++ sp) (by rw [← List.append_assoc, ← bs_append, ← bs_append, secs_split]) (by simp [bs, hD]; omega) (by simp [bs, hsec])))) rfl ?_
   refine wl_alloc TF.z73 st rfl ?_
   intro b8 w st
   refine wl_storeW 0 st rfl TF.t73 rfl rfl (by simp [bs, hsec]) (by simp [Value.cells]) (fun u hu => one_bs _ u (by simpa using hu)) ?_
   intro w st
   refine wl_nil ?_
   refine then_go ?_
   refine wc_region ?_
   refine wl_val (v_move' (by conv => (lhs; whnf))) rfl ?_
   refine wl_val (v_slice_a (l := 0) (h := 64) Try.underlying73 TF.t5 rfl rfl rfl (by omega) (by omega)) rfl ?_
   refine wl_append 2 st rfl Try.underlying30 Try.underlying30 (.inr ⟨_, rfl⟩) TF.t5 TF.z5 (by simp [Value.cells]) rfl rfl (st.srcArr (off := 0) (news := bs (sec (dump d) j)) 0 rfl (by simp [bs, hsec]) (fun q u hq => by simpa using hq) (one_bs _)) (by omega) (by omega) rfl ?_
   intro ov w _ st
   have e : bs ((dump d).take (64 * j)) ++ bs (sec (dump d) j) = bs ((dump d).take (64 * (j + 1))) := by
    rw [← bs_append]
    congr 1
    unfold sec
    rw [show 64 * (j + 1) = 64 * j + 64 by omega, List.take_add]
   rw [e] at st
   have st := st.drop 0
   refine wl_val (v_assign' (by conv => (lhs; whnf))) rfl ?_
   refine wl_nil ?_
   refine block_go (then_go ?_)
   refine wc_region ?_
   refine wl_val (v_add' rfl rfl rfl (by first | omega | (dsimp only at *; omega)) (by first | omega | (dsimp only at *; omega))) rfl ?_
   refine wl_val (v_move' (by conv => (lhs; whnf))) rfl ?_
   refine wl_nil ?_
   refine then_go ?_
   exact ⟨k - 1, by simp; omega, j + 1, ov, by omega, rfl, rfl, rfl, rfl, st⟩
  ·refine wc_exit (then_exit (then_exit (block_hit ?_)))
   refine then_go ?_
   refine wc_seq ?_
   refine wc_region ?_
   refine wl_val (v_move' (by conv => (lhs; whnf))) rfl ?_
   refine wl_val (v_assign' (by conv => (lhs; whnf))) rfl ?_
   refine wl_nil ?_
   refine then_go ?_
   refine wc_ret ?_
   have hjn : j = n := by omega
   obtain ⟨m1, h1, h2, h3'⟩ := st.freshR (i := 1) rfl
   refine ret1 (v := v) rfl ⟨st.touch, m1, h1, h2, ?_⟩
   rw [hjn] at h3'
   rw [List.take_of_length_le (by omega)] at h3'
   rw [hD]
   exact h3'
end
end Go.Proofs.Ytnaoafogdplnaaa

namespace Go.Proofs.Ytnaoafogdplnaaa
open Go Go.RowKit K DK
section
variable {m : Mem}
def NewDisk (w w' : World) (v : Value) (n : Nat) (d : DS) : Prop := ∃ b s wv, v = .pointer (some ⟨b, 0, none⟩) ∧ Tch w w' [] (diskO b s n wv d).foot ∧ (diskO b s n wv d).holds w'
theorem bs_zero (k : Nat) : List.replicate k (Value.int .u8 0) = bs (List.replicate k 0) := by simp [bs, u8]
theorem c_new {wI : World} (i : Int) (him : Im m wI) :
  Ret Try.prog 37 #[.int .i64 i] wI fun v w' =>
   if i < 1 ∨ i > 16384 then Tch wI w' [] [] ∧ v = .tuple #[.pointer none, .int .i64 2]
   else ∃ p, NewDisk wI w' p i.toNat (newD i.toNat) ∧ v = .tuple #[p, .int .i64 0] := by
 have st := St.start him
 refine ret_of Try.call37 Try.func37 rfl Try.ntmps37 Try.results37 rfl ?_
 refine wc_seq ?_
 refine wc_region ?_
 refine wl_val (v_assign' (by conv => (lhs; whnf))) rfl ?_
 refine wl_val (v_assign' (by conv => (lhs; whnf))) rfl ?_
 refine wl_nil ?_
 refine then_go ?_
 refine wc_seq ?_
 refine wc_seq ?_
 refine wc_region ?_
 refine wl_val (v_move' (by conv => (lhs; whnf))) rfl ?_
 refine wl_val (v_lss rfl rfl) rfl ?_
 refine wl_val (v_move' (by conv => (lhs; whnf))) rfl ?_
 by_cases hg2 : i < 1
 ·rw [show decide (i < 1) = true from decide_eq_true hg2]
  refine wl_off rfl rfl rfl rfl ?_
  refine wl_off rfl rfl rfl rfl ?_
  refine wl_val (v_pick rfl) rfl ?_
  refine wl_nil ?_
  refine then_go ?_
  refine wc_true rfl ?_
  refine wc_seq ?_
  refine wc_region ?_
  refine wl_val (v_assign' (by conv => (lhs; whnf))) rfl ?_
  refine wl_val (v_assign' (by conv => (lhs; whnf))) rfl ?_
  refine wl_nil ?_
  refine then_go ?_
  refine wc_ret (then_ret ?_)
  refine ret2 (v := .pointer none) (v' := .int .i64 2) rfl rfl ?_
  rw [if_pos (.inl hg2)]
  exact ⟨st.touch, rfl⟩
 ·rw [show decide (i < 1) = false from decide_eq_false hg2]
  refine wl_on rfl rfl ?_
  refine wl_val (v_move' (by conv => (lhs; whnf))) rfl ?_
  refine wl_on rfl rfl ?_
  refine wl_val (v_gtr rfl rfl) rfl ?_
  refine wl_val (v_pick rfl) rfl ?_
  refine wl_nil ?_
  refine then_go ?_
  refine wc_if rfl (fun h9 => ?_) (fun h9 => ?_)
  ·refine wc_seq ?_
   refine wc_region ?_
   refine wl_val (v_assign' (by conv => (lhs; whnf))) rfl ?_
   refine wl_val (v_assign' (by conv => (lhs; whnf))) rfl ?_
   refine wl_nil ?_
   refine then_go ?_
   refine wc_ret (then_ret ?_)
   refine ret2 (v := .pointer none) (v' := .int .i64 2) rfl rfl ?_
   rw [if_pos (.inr h9)]
   exact ⟨st.touch, rfl⟩
  ·refine wc_skip ?_
   refine then_go ?_
   refine wc_seq ?_
   obtain ⟨n, rfl⟩ : ∃ n : Nat, i = n := ⟨i.toNat, by omega⟩
   refine wc_region ?_
   refine wl_val (v_move' (by conv => (lhs; whnf))) rfl ?_
   refine wl_make (l := n) (c := n) Try.underlying65 TF.t73 TF.z73 rfl rfl rfl rfl (by omega) (by omega) (by omega) (by omega) st rfl ?_
   intro s w st
   have e : madeCells (Value.agg (Array.replicate 64 (Value.int .u8 0))).cells (n * 64) = (bs (List.replicate (64 * n) 0)).toArray := by
    rw [show (Value.agg (Array.replicate 64 (Value.int .u8 0))).cells = Array.replicate (63 + 1) (Value.int .u8 0) from rfl, madeCells_rep, bs_zero, Nat.mul_comm]
   rw [e] at st
   refine wl_val (v_build (c' := #[.slice (some ⟨s, 0, none⟩) n n, .slice none 0 0, .int .i64 (-1), .bool false]) [(0, .slice (some ⟨s, 0, none⟩) n n), (2, .int .i64 (-1))] TF.z68 TF.p68 rfl (fill_one [] [.slice none 0 0] [.slice none 0 0, .int .i64 0, .bool false] rfl rfl rfl (fill_one [.slice (some ⟨s, 0, none⟩) n n, .slice none 0 0] [.int .i64 0] [.bool false] rfl rfl rfl rfl))) rfl ?_
   refine wl_box (v := .agg #[.slice (some ⟨s, 0, none⟩) n n, .slice none 0 0, .int .i64 (-1), .bool false]) rfl st rfl ?_
   intro b w st
   have st := st.new (E := rowE (.slice none 0 0) 75 65 0 []) ⟨rfl, rfl, rfl, Nat.le_refl _, fun _ _ _ => rfl, by simp [rowE, Value.ownBlock]⟩ ⟨by simp, .inl ⟨rfl, rfl⟩⟩
   have st := st.perm (l := diskL b s n (.slice none 0 0) (newD n)) ((List.Perm.swap _ _ _).trans (List.Perm.cons _ (List.Perm.swap _ _ _)))
   refine wl_val (v_assign' (by conv => (lhs; whnf))) rfl ?_
   refine wl_val (v_assign' (by conv => (lhs; whnf))) rfl ?_
   refine wl_nil ?_
   refine then_go ?_
   refine wc_ret ?_
   refine ret2 (v := .pointer (some ⟨b, 0, none⟩)) (v' := .int .i64 0) rfl rfl ?_
   rw [if_neg (by omega)]
   exact ⟨_, ⟨b, s, _, rfl, (St.finish (Es := []) st).1, (St.finish (Es := []) st).2⟩, rfl⟩
end
end Go.Proofs.Ytnaoafogdplnaaa

namespace Go.Proofs.Ytnaoafogdplnaaa
open Go Go.RowKit K SH DK JR
def logB (g b : Nat) (s : LG) (lv : Value) : Ent := K.blk g #[.pointer (some ⟨b, 0, none⟩), .int .i64 s.half, u64 s.gen, .int .i64 s.fin, lv] 70
section
variable {m0 m : Mem} {F : List Nat} {w0 w : World} {Es : List Ent}
theorem disk_callI {f : FuncId} {args : List Value} {R : Value → DS → Prop} {b s n : Nat} {wv : Value} {d : DS} (i : Nat) (st : St m0 m F w0 w Es) (hi : Es[i]? = some (diskO b s n wv d)) (h : DiskCall f args b s n wv d w R) :
  Ret Try.prog f (.pointer (some ⟨b, 0, none⟩) :: args).toArray w fun v w' => ∃ wv' d', St m0 m F w0 w' (Es.set i (diskO b s n wv' d')) ∧ R v d' :=
 h.mono fun _ _ ⟨wv', d', t, hE, hR⟩ => ⟨wv', d', st.step i hi t hE, hR⟩
theorem disk_at {b s n : Nat} {wv : Value} {d : DS} (i : Nat) (st : St m0 m F w0 w Es) (hi : Es[i]? = some (diskO b s n wv d)) (ok : d.ok n) : diskM (heapM w) b n d := by
 have h := (st.at hi).1
 exact ⟨ok, ⟨s, wv, h (K.blk b _ _) (List.mem_cons_self), h (K.blk s _ _) (List.mem_cons_of_mem _ List.mem_cons_self), row_SlM (h (rowE wv 75 65 d.wt.length (wtCells d.wt)) (by simp [diskL])) fun _ _ _ h => h⟩, row_few (h (rowE wv 75 65 d.wt.length (wtCells d.wt)) (by simp [diskL]))⟩
theorem c_lsize {g b s n : Nat} {sl : LG} {lv wv : Value} {d : DS} (st : St m0 m F w0 w (logB g b sl lv :: diskO b s n wv d :: Es)) (ok : d.ok n) :
  Ret Try.prog 42 #[.pointer (some ⟨g, 0, none⟩)] w fun v w' => Tch w w' [] [] ∧ v = .int .i64 ((n / 2 * 64 : Nat) : Int) := by
 have hn := ok.le
 refine ret_of Try.call42 Try.func42 rfl Try.ntmps42 Try.results42 rfl ?_
 refine wc_seq ?_
 refine wc_region ?_
 refine wl_val (v_assign' (by conv => (lhs; whnf))) rfl ?_
 refine wl_nil ?_
 refine then_go ?_
 refine wc_seq ?_
 refine wc_region ?_
 refine wl_val (v_move' (by conv => (lhs; whnf))) rfl ?_
 refine wl_val (v_nil rfl) rfl ?_
 refine wl_val (v_fa TF.f70_0 rfl) rfl ?_
 refine wl_val (v_load rfl (st.reads (v := .pointer (some ⟨b, 0, none⟩)) 0 rfl TF.t23 rfl)) rfl ?_
 refine wl_call rfl (c_size (im_heapM _) (disk_at 1 st rfl ok)) rfl ?_
 rintro v7 w ⟨rfl, rfl⟩
 refine wl_val (v_to (v' := .int .i64 ((n / 2 : Nat) : Int)) (v_quo' rfl rfl (by omega) (by omega) rfl (by omega)) (by rw [Int.natCast_ediv]; rfl)) rfl ?_
 refine wl_val (v_mul' (c := ((n / 2 * 64 : Nat) : Int)) rfl rfl (by omega) (by omega) (by omega)) rfl ?_
 refine wl_val (v_assign' (by conv => (lhs; whnf))) rfl ?_
 refine wl_nil ?_
 refine then_go ?_
 refine wc_ret ?_
 exact ret1 rfl ⟨Tch.refl _ _, rfl⟩
theorem c_put {g b s n hf at' : Nat} {sl : LG} {lv wv bv : Value} {d : DS} {x : By} (st : St m0 m F w0 w (logB g b sl lv :: diskO b s n wv d :: Es)) (hr : Rdy n d 100000) (hx : SlM m bv 1 x.length (bs x)) (hx64 : x.length % 64 = 0) (hxl : x.length ≤ 1048576) (hhf : hf ≤ 1) (hat : at' ≤ 1048576) :
  Ret Try.prog 47 #[.pointer (some ⟨g, 0, none⟩), .int .i64 hf, .int .i64 at', bv] w fun v w' => ∃ wv', St m0 m F w0 w' (logB g b sl lv :: diskO b s n wv' (putD n d ((hf * (n / 2 * 64) + at') / 64) x).1 :: Es) ∧ v = .int .i64 (putD n d ((hf * (n / 2 * 64) + at') / 64) x).2 := by
 obtain ⟨ba, bc, rfl, hbc⟩ := hx.opn
 have hn := hr.ok.le
 have hhl : hf * (n / 2 * 64) ≤ n / 2 * 64 := by rcases Nat.le_one_iff_eq_zero_or_eq_one.1 hhf with h | h <;> rw [h] <;> omega
 obtain ⟨fst, hfst⟩ : ∃ fst, fst = (hf * (n / 2 * 64) + at') / 64 := ⟨_, rfl⟩
 rw [← hfst]
 have hcl := chunk_len (b := x)
 refine ret_of Try.call47 Try.func47 rfl Try.ntmps47 Try.results47 rfl ?_
 refine wc_seq ?_
 refine wc_region ?_
 refine wl_val (v_assign' (by conv => (lhs; whnf))) rfl ?_
 refine wl_nil ?_
 refine then_go ?_
 refine wc_seq ?_
 refine wc_region ?_
 refine wl_val (v_move' (by conv => (lhs; whnf))) rfl ?_
 refine wl_val (v_move' (by conv => (lhs; whnf))) rfl ?_
 refine wl_call rfl (c_lsize st hr.ok) rfl ?_
 rintro v15 w ⟨t15, rfl⟩
 have st := st.pure t15
 refine wl_val (v_mul' (c := ((hf * (n / 2 * 64) : Nat) : Int)) rfl rfl (Int.natCast_mul _ _).symm (by omega) (by omega)) rfl ?_
 refine wl_val (v_move' (by conv => (lhs; whnf))) rfl ?_
 refine wl_val (v_add' (c := ((hf * (n / 2 * 64) + at' : Nat) : Int)) rfl rfl (by omega) (by omega) (by omega)) rfl ?_
 refine wl_val (v_to (v' := .int .i64 (fst : Int)) (v_quo' rfl rfl (by omega) (by omega) rfl (by omega)) (by rw [hfst, Int.natCast_ediv]; rfl)) rfl ?_
 refine wl_val (v_assign' (by conv => (lhs; whnf))) rfl ?_
 refine wl_nil ?_
 refine then_go ?_
 refine wc_seq ?_
 refine wc_region ?_
 refine wl_val (v_move' (by conv => (lhs; whnf))) rfl ?_
 refine wl_val (v_nil rfl) rfl ?_
 refine wl_val (v_fa TF.f70_0 rfl) rfl ?_
 refine wl_val (v_load rfl (st.reads (v := .pointer (some ⟨b, 0, none⟩)) 0 rfl TF.t23 rfl)) rfl ?_
 refine wl_val (v_mkfunc rfl rfl) rfl ?_
 refine wl_val (v_assign' (by conv => (lhs; whnf))) rfl ?_
 refine wl_nil ?_
 refine then_go ?_
 refine wc_seq ?_
 refine wc_seq ?_
 refine wc_region ?_
 refine wl_val (v_assign' (by conv => (lhs; whnf))) rfl ?_
 refine wl_nil ?_
 refine then_go ?_
 refine wc_block ?_
 refine wc_loop (S := Nat) (fun q r w' => ∃ (j : Nat) (wv : Value) (dj : DS), q + j = (chunk x).length ∧ r 0 = .pointer (some ⟨g, 0, none⟩) ∧ r 3 = .slice ba x.length bc ∧ r 9 = .int .i64 fst ∧ r 10 = .func (.func 63) #[.pointer (some ⟨b, 0, none⟩)] #[] ∧ r 11 = .int .i64 ((64 * j : Nat) : Int) ∧ putD n d fst x = writesD n dj (fst + j) ((chunk x).drop j) ∧ Rdy n dj (100000 + j) ∧ St m0 m F w0 w' (logB g b sl lv :: diskO b s n wv dj :: Es)) id (chunk x).length ⟨0, wv, d, by omega, rfl, rfl, rfl, rfl, rfl, rfl, hr, st⟩ ?_
 clear st
 rintro q r w2 ⟨j, wv, dj, hqj, g0, g3, g9, g10, g11, hput, hr, st⟩
 refine wc_o 0 g0 (wc_o 3 g3 (wc_o 9 g9 (wc_o 10 g10 (wc_o 11 g11 ?_))))
 refine wc_seq ?_
 refine wc_seq ?_
 refine wc_region ?_
 refine wl_val (v_move' (by conv => (lhs; whnf))) rfl ?_
 refine wl_val (v_move' (by conv => (lhs; whnf))) rfl ?_
 refine wl_val (v_len_s Try.underlying30 rfl) rfl ?_
 refine wl_val (v_lss rfl rfl) rfl ?_
 refine wl_nil ?_
 refine then_go ?_
 refine wc_if rfl (fun h28 => ?_) (fun h28 => ?_)
 ·refine wc_skip ?_
  refine then_go ?_
  refine wc_seq ?_
  refine wc_block ?_
  refine wc_seq ?_
  have hj : j < (chunk x).length := by omega
  have hjx := hx.partB (64 * j) (64 * j + 64) (by omega) (by omega)
  have hce : (x.drop (64 * j)).take (64 * j + 64 - 64 * j) = (chunk x)[j] := by rw [chunk_at hj]; congr 1; omega
  rw [hce] at hjx
  have hc64 := chunk_64 _ (List.getElem_mem hj)
  rw [List.drop_eq_getElem_cons hj, writesD] at hput
  have hwr : Rdy n (writeD dj n ((fst + j : Nat) : Int) (chunk x)[j]).1 (100000 + (j + 1)) := ⟨ok_write hr.ok, fz_write hr.fz, Nat.le_trans wt_write (by have := hr.few; omega)⟩
  refine wc_region ?_
  refine wl_val (v_move' (by conv => (lhs; whnf))) rfl ?_
  refine wl_val (v_move' (by conv => (lhs; whnf))) rfl ?_
  refine wl_val (v_move' (by conv => (lhs; whnf))) rfl ?_
  refine wl_val (v_to (v' := .int .i64 (j : Int)) (v_quo' rfl rfl (by omega) (by omega) rfl (by omega)) (by congr 1; omega)) rfl ?_
  refine wl_val (v_add' (c := ((fst + j : Nat) : Int)) rfl rfl (by omega) (by omega) (by omega)) rfl ?_
  refine wl_val (v_move' (by conv => (lhs; whnf))) rfl ?_
  refine wl_val (v_move' (by conv => (lhs; whnf))) rfl ?_
  refine wl_val (v_move' (by conv => (lhs; whnf))) rfl ?_
  refine wl_val (v_add' (c := ((64 * j + 64 : Nat) : Int)) rfl rfl (by omega) (by omega) (by omega)) rfl ?_
  refine wl_val (v_sls (64 * j) (64 * j + 64) Try.underlying30 TF.t5 rfl ⟨_, _, rfl, rfl⟩ ⟨_, _, rfl, rfl⟩ (by omega) (by omega)) rfl ?_
  refine wl_callv rfl rfl (disk_callI 1 st rfl (c_write ((fst + j : Nat) : Int) st.im (st.at (i := 1) rfl) (st.none (i := 1) rfl) hr.ok hr.fz (by have := hr.few; omega) hjx)) rfl ?_
  rintro v41 w ⟨wv2, d2, st, rfl, rfl⟩
  refine wl_val (v_assign' (by conv => (lhs; whnf))) rfl ?_
  refine wl_nil ?_
  refine then_go ?_
  refine wc_seq ?_
  refine wc_region ?_
  refine wl_val (v_move' (by conv => (lhs; whnf))) rfl ?_
  refine wl_val (v_neq rfl rfl) rfl ?_
  refine wl_nil ?_
  refine then_go ?_
  refine wc_cond rfl (fun h43 => ?_) (fun h43 => ?_)
  ·refine wc_seq ?_
   refine wc_region ?_
   refine wl_val (v_move' (by conv => (lhs; whnf))) rfl ?_
   refine wl_val (v_assign' (by conv => (lhs; whnf))) rfl ?_
   refine wl_nil ?_
   refine then_go ?_
   refine wc_ret (block_ret (then_ret (then_ret (block_ret (then_ret ?_)))))
   have hz : (writeD dj n ((fst + j : Nat) : Int) (chunk x)[j]).2 ≠ 0 := of_decide_eq_true h43
   rw [if_pos hz] at hput
   exact ret1 rfl ⟨wv2, by rw [hput]; exact st, by rw [hput]; rfl⟩
  ·refine wc_skip ?_
   refine block_go (then_go ?_)
   refine wc_region ?_
   refine wl_val (v_move' (by conv => (lhs; whnf))) rfl ?_
   refine wl_val (v_add' (c := ((64 * (j + 1) : Nat) : Int)) rfl rfl (by omega) (by omega) (by omega)) rfl ?_
   refine wl_val (v_assign' (by conv => (lhs; whnf))) rfl ?_
   refine wl_nil ?_
   refine then_go ?_
   have hz : ¬ (writeD dj n ((fst + j : Nat) : Int) (chunk x)[j]).2 ≠ 0 := of_decide_eq_false h43
   rw [if_neg hz] at hput
   exact ⟨q - 1, by simp; omega, j + 1, wv2, _, by omega, rfl, rfl, rfl, rfl, rfl, hput, hwr, st⟩
 ·refine wc_exit (then_exit (then_exit (block_hit ?_)))
  refine then_go ?_
  refine wc_seq ?_
  refine wc_region ?_
  refine wl_val (v_move' (by conv => (lhs; whnf))) rfl ?_
  refine wl_val (v_nil rfl) rfl ?_
  refine wl_val (v_fa TF.f70_0 rfl) rfl ?_
  refine wl_val (v_load rfl (st.reads (v := .pointer (some ⟨b, 0, none⟩)) 0 rfl TF.t23 rfl)) rfl ?_
  have hjc : (chunk x).length ≤ j := by omega
  rw [List.drop_eq_nil_of_le hjc, writesD] at hput
  refine wl_call rfl (disk_callI 1 st rfl (c_sync st.im (st.at (i := 1) rfl) (st.none (i := 1) rfl) hr.ok hr.fz (by have := hr.few; omega))) rfl ?_
  rintro v49 w ⟨wv3, d3, st, rfl, rfl⟩
  refine wl_val (v_assign' (by conv => (lhs; whnf))) rfl ?_
  refine wl_nil ?_
  refine then_go ?_
  refine wc_ret ?_
  exact ret1 rfl ⟨wv3, by rw [hput]; exact st, by rw [hput]; rfl⟩
end
end Go.Proofs.Ytnaoafogdplnaaa

namespace Go.Proofs.Ytnaoafogdplnaaa
open Go Go.RowKit K SH DK JR
theorem JR.Rdy.mono {n k k' : Nat} {d : DS} (h : Rdy n d k) (hk : k ≤ k') : Rdy n d k' := ⟨h.ok, h.fz, Nat.le_trans h.few hk⟩
theorem rdy_done {n : Nat} {d : DS} {i k : Nat} {b : By} (h : Rdy n d k) (h0 : (putD n d i b).2 = 0) : Rdy n (putD n d i b).1 0 := by
 have := rdy_put (i := i) (b := b) h
 exact ⟨this.1.ok, this.1.fz, by rw [this.2 h0]; exact Nat.le_refl _⟩
theorem fst0 {hf n : Nat} (h : hf ≤ 1) : (hf * (n / 2 * 64) + 0) / 64 = hf * (n / 2) := by rcases Nat.le_one_iff_eq_zero_or_eq_one.1 h with h | h <;> rw [h] <;> omega
theorem fst1 {hf n : Nat} (h : hf ≤ 1) : (hf * (n / 2 * 64) + 64) / 64 = hf * (n / 2) + 1 := by rcases Nat.le_one_iff_eq_zero_or_eq_one.1 h with h | h <;> rw [h] <;> omega
theorem madeZ (n : Nat) : madeCells (Value.int .u8 0).cells (n * 1) = (bs (List.replicate n 0)).toArray := by
 rw [show (Value.int .u8 0).cells = Array.replicate (0 + 1) (Value.int .u8 0) from rfl, madeCells_rep, Nat.mul_one]
 simp [bs, u8]
section
variable {m0 m : Mem} {F : List Nat} {w0 w : World} {Es : List Ent}
theorem c_jall {gen : UInt64} {nv : Value} {N : List (By × Value)} (st : St m0 m F w0 w Es) (hN : PcsM m nv N) (hNl : ∀ x ∈ N, x.1.length ≤ 1048576) (hNn : N.length ≤ 1048576) :
  Ret Try.prog 61 #[u64 gen, nv] w fun v w' => St m0 m F w0 w' (byE v (allB gen 0 (N.map (·.1))) :: Es) := by
 obtain ⟨na, nc, hlv⟩ : ∃ a c, nv = .slice a N.length c := by obtain ⟨⟨_, a, c, h, _⟩, _⟩ := hN; exact ⟨a, c, h⟩
 subst hlv
 refine ret_of Try.call61 Try.func61 rfl Try.ntmps61 Try.results61 rfl ?_
 refine wc_seq ?_
 refine wc_region ?_
 refine wl_val (v_assign' (by conv => (lhs; whnf))) rfl ?_
 refine wl_nil ?_
 refine then_go ?_
 refine wc_seq ?_
 refine wc_region ?_
 refine wl_val (v_assign' (by conv => (lhs; whnf))) rfl ?_
 refine wl_nil ?_
 refine then_go ?_
 refine wc_seq ?_
 refine wc_seq ?_
 refine wc_region ?_
 refine wl_val (v_move' (by conv => (lhs; whnf))) rfl ?_
 refine wl_val (v_len_s Try.underlying29 rfl) rfl ?_
 refine wl_val (v_move' (by conv => (lhs; whnf))) rfl ?_
 refine wl_nil ?_
 refine then_go ?_
 refine wc_block ?_
 have st := nilRow st 5 1
 have st : St m0 m F w0 w (byE (.slice none 0 0) [] :: Es) := st
 refine wc_loop (S := Nat) (fun q r w' => ∃ (i : Nat) (v : Value), q + i = N.length ∧ r 0 = u64 gen ∧ r 5 = v ∧ r 8 = .slice na N.length nc ∧ r 9 = .int .i64 N.length ∧ r 10 = .int .i64 i ∧ St m0 m F w0 w' (byE v (allB gen 0 ((N.take i).map (·.1))) :: Es)) id N.length ⟨0, _, by omega, rfl, rfl, rfl, rfl, rfl, st⟩ ?_
 clear st
 rintro q r w2 ⟨i, v, hqi, g0, g5, g8, g9, g10, st⟩
 refine wc_o 0 g0 (wc_o 5 g5 (wc_o 8 g8 (wc_o 9 g9 (wc_o 10 g10 ?_))))
 refine wc_seq ?_
 refine wc_region ?_
 refine wl_val (v_lss rfl rfl) rfl ?_
 refine wl_nil ?_
 refine then_go ?_
 refine wc_seq ?_
 refine wc_if rfl (fun h11 => ?_) (fun h11 => ?_)
 ·refine wc_skip ?_
  refine then_go ?_
  refine wc_seq ?_
  refine wc_block ?_
  refine wc_seq ?_
  have hi : i < N.length := by omega
  obtain ⟨nb, no, _, hnv, hsk, hrk⟩ := hN.elem hi
  cases hnv
  have hxl := hNl _ (List.getElem_mem hi)
  have hsz : sizeL ((N.take i).map (·.1)) ≤ 1048576 * 1048700 := by
   have key : ∀ M : List (By × Value), (∀ x ∈ M, x.1.length ≤ 1048576) → sizeL (M.map (·.1)) ≤ M.length * 1048700 := by
    intro M
    induction M with
    | nil => intro _; exact Nat.zero_le _
    | cons y M ih =>
     intro h
     have h1 := h y List.mem_cons_self
     have h2 := ih fun z hz => h z (List.mem_cons_of_mem _ hz)
     rw [List.map_cons, sizeL_cons, List.length_cons]
     unfold recL
     omega
   refine Nat.le_trans (key _ fun x hx => hNl x (List.mem_of_mem_take hx)) (Nat.mul_le_mul_right _ (by rw [List.length_take]; omega))
  refine wc_region ?_
  refine wl_val (v_move' (by conv => (lhs; whnf))) rfl ?_
  refine wl_val (v_ias i Try.underlying29 TF.t30 rfl rfl (by first | rfl | omega) (by first | omega | (dsimp only at *; omega))) rfl ?_
  refine wl_val (v_load rfl (hrk st.im)) rfl ?_
  refine wl_val (v_assign' (by conv => (lhs; whnf))) rfl ?_
  refine wl_val (v_assign' (by conv => (lhs; whnf))) rfl ?_
  refine wl_nil ?_
  refine then_go ?_
  refine wc_region ?_
  refine wl_val (v_move' (by conv => (lhs; whnf))) rfl ?_
  refine wl_val (v_move' (by conv => (lhs; whnf))) rfl ?_
  refine wl_val (v_move' (by conv => (lhs; whnf))) rfl ?_
  refine wl_val (v_convi_64 Try.underlying3 Try.underlying42 rfl) rfl ?_
  refine wl_val (v_move' (by conv => (lhs; whnf))) rfl ?_
  refine wl_call rfl (c_jrecord (s := UInt64.ofNat i) st hsk (by omega)) rfl ?_
  intro v20 w st
  refine wl_appBi (l2 := recB gen (UInt64.ofNat i) N[i].1) 1 st rfl Try.underlying30 Try.underlying30 (.inr ⟨_, rfl⟩) TF.t5 TF.z5 rfl rfl ((byE_SlM st 0 rfl).src (im_heapM _) (one_bs _)) (by rw [length_allB, length_recB]; unfold recL; omega) (by rw [length_allB, length_recB]; unfold recL; omega) rfl ?_
  intro v21 w st hv21
  have st : St m0 m F w0 w (byE v21 (allB gen 0 ((N.take (i + 1)).map (·.1))) :: Es) := by
   have e : allB gen 0 ((N.take (i + 1)).map (·.1)) = allB gen 0 ((N.take i).map (·.1)) ++ recB gen (UInt64.ofNat i) N[i].1 := by
    rw [List.take_succ_eq_append_getElem hi, List.map_append, List.map_singleton, allB_snoc, Nat.zero_add, List.length_map, List.length_take, Nat.min_eq_left (by omega)]
   rw [e]
   exact st.drop 0
  refine wl_val (v_assign' (by conv => (lhs; whnf))) rfl ?_
  refine wl_nil ?_
  refine block_go (then_go ?_)
  refine wc_region ?_
  refine wl_val (v_add' (c := ((i + 1 : Nat) : Int)) rfl rfl (by omega) (by omega) (by omega)) rfl ?_
  refine wl_val (v_move' (by conv => (lhs; whnf))) rfl ?_
  refine wl_nil ?_
  refine then_go ?_
  exact ⟨q - 1, by simp; omega, i + 1, v21, by omega, rfl, rfl, rfl, rfl, rfl, st⟩
 ·refine wc_exit (then_exit (then_exit (block_hit ?_)))
  refine then_go ?_
  refine wc_seq ?_
  refine wc_region ?_
  refine wl_val (v_move' (by conv => (lhs; whnf))) rfl ?_
  refine wl_val (v_assign' (by conv => (lhs; whnf))) rfl ?_
  refine wl_nil ?_
  refine then_go ?_
  refine wc_ret ?_
  have hiN : i = N.length := by omega
  subst hiN
  rw [List.take_length] at st
  exact ret1 rfl st
def OverOut (m0 m : Mem) (w0 w' : World) (Es : List Ent) (g b s n : Nat) (sl : LG) (lv : Value) (d : DS) (L : List By) (v : Value) : Prop :=
 ∃ m' wv', (∀ k o, m k = some o → m' k = some o) ∧ v = .int .i64 (overD n d sl L).2.2 ∧
  ((overD n d sl L).2.2 ≠ 0 → (overD n d sl L).2.1 = sl ∧ St m0 m' [] w0 w' (logB g b sl lv :: diskO b s n wv' (overD n d sl L).1 :: Es)) ∧
  ((overD n d sl L).2.2 = 0 → ∃ lv' N', Pcs m' N' ∧ N'.map (·.1) = L ∧ St m0 m' [] w0 w' (logB g b (overD n d sl L).2.1 lv' :: lrE lv' N' :: diskO b s n wv' (overD n d sl L).1 :: Es))
theorem OverOut.bad {m0 m m' : Mem} {w0 w' : World} {Es : List Ent} {g b s n : Nat} {sl : LG} {lv wv' : Value} {d d' : DS} {e : Int} {L : List By} (ho : overD n d sl L = (d', sl, e)) (he : e ≠ 0) (hm : ∀ k o, m k = some o → m' k = some o) (st : St m0 m' [] w0 w' (logB g b sl lv :: diskO b s n wv' d' :: Es)) : OverOut m0 m w0 w' Es g b s n sl lv d L (.int .i64 e) := by
 unfold OverOut
 rw [ho]
 exact ⟨m', wv', hm, rfl, fun _ => ⟨rfl, st⟩, fun h => (he h).elim⟩
theorem c_over {g b s n : Nat} {sl : LG} {lv wv nv : Value} {d : DS} {N : List (By × Value)} (st : St m0 m [] w0 w (logB g b sl lv :: diskO b s n wv d :: Es)) (hr : Rdy n d 100000) (hn8 : 8 ≤ n) (hsl : sl.half ≤ 1) (hN : PcsM m nv N) (hNl : ∀ x ∈ N, x.1.length ≤ 1048576) (hNn : N.length ≤ 1048576) :
  Ret Try.prog 44 #[.pointer (some ⟨g, 0, none⟩), nv] w fun v w' => OverOut m0 m w0 w' Es g b s n sl lv d (N.map (·.1)) v := by
 obtain ⟨na, nc, hlv⟩ : ∃ a c, nv = .slice a N.length c := by obtain ⟨⟨_, a, c, h, _⟩, _⟩ := hN; exact ⟨a, c, h⟩
 subst hlv
 have hn := hr.ok.le
 obtain ⟨hf, hhf⟩ : ∃ hf, hf = 1 - sl.half := ⟨_, rfl⟩
 have hf1 : hf ≤ 1 := by omega
 have hfz : (1 : Int) - (sl.half : Int) = (hf : Int) := by omega
 obtain ⟨L, hL⟩ : ∃ L, L = N.map (·.1) := ⟨_, rfl⟩
 rw [← hL]
 have hmm0 : ∀ k o, m k = some o → m k = some o := fun _ _ h => h
 refine ret_of Try.call44 Try.func44 rfl Try.ntmps44 Try.results44 rfl ?_
 refine wc_seq ?_
 refine wc_region ?_
 refine wl_val (v_assign' (by conv => (lhs; whnf))) rfl ?_
 refine wl_nil ?_
 refine then_go ?_
 refine wc_seq ?_
 refine wc_draw TF.mixed ?_
 have st := st.pure (touch_drew _)
 refine fl_val 0 rfl (fun _ => (v_move' (by conv => (lhs; whnf)))) rfl (by kernel_rfl) ?_
 refine fl_val 1 rfl (fun _ => (v_nil rfl)) rfl (by kernel_rfl) ?_
 refine fl_val 2 rfl (fun _ => (v_fa TF.f70_1 rfl)) rfl (by kernel_rfl) ?_
 refine fl_ld 3 rfl (v_load rfl (st.reads (v := .int .i64 sl.half) 0 rfl TF.t3 rfl)) (by kernel_rfl) ?_
 refine fl_val 4 rfl (fun _ => (v_sub' (c := (hf : Int)) rfl rfl hfz (by omega) (by omega))) rfl (by kernel_rfl) ?_
 refine fl_val 5 rfl (fun _ => (v_move' (by conv => (lhs; whnf)))) rfl (by kernel_rfl) ?_
 refine fl_val 6 rfl (fun _ => (v_nil rfl)) rfl (by kernel_rfl) ?_
 refine fl_val 7 rfl (fun _ => (v_fa TF.f70_2 rfl)) rfl (by kernel_rfl) ?_
 refine fl_ld 8 rfl (v_load rfl (st.reads (v := u64 sl.gen) 0 rfl TF.t42 rfl)) (by kernel_rfl) ?_
 refine fl_val 9 rfl (fun _ => (v_add64 (q := 1) rfl rfl)) rfl (by kernel_rfl) ?_
 refine fl_val 10 rfl (fun _ => (v_move' (by conv => (lhs; whnf)))) rfl (by kernel_rfl) ?_
 refine fl_eff1 11 [7, 6, 5, 4, 2, 1, 0] [8, 3] (by kernel_rfl) ⟨obl_ld rfl rfl rfl (v_load rfl (st.reads (v := u64 sl.gen) 0 rfl TF.t42 rfl)), obl_ld rfl rfl rfl (v_load rfl (st.reads (v := .int .i64 sl.half) 0 rfl TF.t3 rfl)), trivial⟩ rfl ?_
 refine wl_call rfl (c_jall (gen := sl.gen + 1) st hN hNl hNn) rfl ?_
 intro v23 w st
 obtain ⟨B, hB⟩ : ∃ B, B = allB (sl.gen + 1) 0 L := ⟨_, rfl⟩
 have hBl : B.length = sizeL L := by rw [hB, length_allB]
 have st : St m0 m [] w0 w (byE v23 B :: logB g b sl lv :: diskO b s n wv d :: Es) := by rw [hB, hL]; exact st
 have st1 := st
 obtain ⟨m1, hg1, hm1, st⟩ := st.freezeR (i := 0) rfl (by simp)
 have hBm : SlM m1 v23 1 B.length (bs B) := row_SlM (m := m1) (st1.at (i := 0) rfl) hm1
 have st : St m0 m1 [] w0 w (logB g b sl lv :: diskO b s n wv d :: Es) := st
 have hmm1 := hg1.le
 have hN := hN.mono hmm1
 obtain ⟨Ba, Bc, hBv, _⟩ := hBm.opn
 subst hBv
 refine wl_nil ⟨rfl, ?_⟩
 refine fl_eff1 12 [7, 6, 5] [8] (by kernel_rfl) ⟨obl_ld rfl rfl rfl (v_load rfl (st.reads (v := u64 sl.gen) 0 rfl TF.t42 rfl)), obl_ld rfl rfl rfl (v_load rfl (st.reads (v := .int .i64 sl.half) 0 rfl TF.t3 rfl)), trivial⟩ rfl ?_
 refine wl_val (v_assign' (by conv => (lhs; whnf))) rfl ?_
 refine wl_nil ⟨rfl, ?_⟩
 refine fl_eff1 13 [] [] (by kernel_rfl) ⟨obl_ld rfl rfl rfl (v_load rfl (st.reads (v := u64 sl.gen) 0 rfl TF.t42 rfl)), trivial⟩ rfl ?_
 refine wl_val (v_assign' (by conv => (lhs; whnf))) rfl ?_
 refine wl_nil ⟨rfl, ?_⟩
 refine fl_nil (by kernel_rfl) trivial ?_
 refine then_go ?_
 refine wc_seq ?_
 refine wc_seq ?_
 refine wc_region ?_
 refine wl_val (v_move' (by conv => (lhs; whnf))) rfl ?_
 refine wl_val (v_len_s Try.underlying30 rfl) rfl ?_
 refine wl_val (v_move' (by conv => (lhs; whnf))) rfl ?_
 refine wl_call rfl (c_lsize st hr.ok) rfl ?_
 rintro v27 w ⟨t27, rfl⟩
 have st := st.pure t27
 refine wl_val (v_sub' (c := ((n / 2 * 64 - 64 : Nat) : Int)) rfl rfl (by omega) (by omega) (by omega)) rfl ?_
 refine wl_val (v_gtr rfl rfl) rfl ?_
 refine wl_nil ?_
 refine then_go ?_
 refine wc_if rfl (fun h29 => ?_) (fun h29 => ?_)
 ·refine wc_seq ?_
  refine wc_region ?_
  refine wl_val (v_assign' (by conv => (lhs; whnf))) rfl ?_
  refine wl_nil ?_
  refine then_go ?_
  refine wc_ret (then_ret ?_)
  exact ret1 rfl (OverOut.bad (e := 13) (by unfold overD; rw [if_pos (by omega)]) (by decide) hmm1 st)
 ·refine wc_skip ?_
  refine then_go ?_
  refine wc_seq ?_
  refine wc_seq ?_
  refine wc_region ?_
  refine wl_val (v_move' (by conv => (lhs; whnf))) rfl ?_
  refine wl_val (v_move' (by conv => (lhs; whnf))) rfl ?_
  refine wl_val (v_move' (by conv => (lhs; whnf))) rfl ?_
  have hfit : ¬ n / 2 * 64 - 64 < sizeL L := by omega
  refine wl_call rfl (c_lsize st hr.ok) rfl ?_
  rintro v33 w ⟨t33, rfl⟩
  have st := st.pure t33
  refine wl_make (l := n / 2 * 64) (c := n / 2 * 64) Try.underlying30 TF.t5 TF.z5 rfl rfl rfl rfl (by omega) (by omega) (by omega) (by omega) st rfl ?_
  intro b34 w st
  rw [madeZ] at st
  obtain ⟨m2, hg2, hm2, st⟩ := st.freeze (i := 0) rfl (by simp)
  have st : St m0 m2 [] w0 w (logB g b sl lv :: diskO b s n wv d :: Es) := st
  obtain ⟨Z, hZ⟩ : ∃ Z : By, Z = List.replicate (n / 2 * 64) 0 := ⟨_, rfl⟩
  have hZl : Z.length = n / 2 * 64 := by rw [hZ, List.length_replicate]
  rw [← hZ] at hm2
  have hZm : SlM m2 (.slice (some ⟨b34, 0, none⟩) (n / 2 * 64) (n / 2 * 64)) 1 Z.length (bs Z) := by
   have := SlM.ofBlock (o := 0) (cap := Z.length) (l := Z) (pre := []) (post := []) hm2 (by simp) rfl (Nat.le_refl _)
   rw [hZl] at this ⊢
   exact this
  have hBm := hBm.mono hg2.le
  have hN := hN.mono hg2.le
  have hmm2 : ∀ k o, m k = some o → m2 k = some o := fun k o h => hg2.le k o (hmm1 k o h)
  refine wl_call rfl (c_put (hf := hf) (at' := 0) st hr hZm (by omega) (by omega) hf1 (by omega)) rfl ?_
  rintro v35 w ⟨wv1, st, rfl⟩
  rw [fst0 hf1] at st ⊢
  have hr1 := rdy_done (i := hf * (n / 2)) (b := Z) hr
  have hd1 : (putD n d ((1 - sl.half) * (n / 2)) (List.replicate (n / 2 * 64) 0)) = putD n d (hf * (n / 2)) Z := by rw [hhf, hZ]
  obtain ⟨P1, hP1⟩ : ∃ P1, P1 = putD n d (hf * (n / 2)) Z := ⟨_, rfl⟩
  rw [← hP1] at st hr1 hd1 ⊢
  refine wl_val (v_assign' (by conv => (lhs; whnf))) rfl ?_
  refine wl_nil ?_
  refine then_go ?_
  refine wc_seq ?_
  refine wc_region ?_
  refine wl_val (v_move' (by conv => (lhs; whnf))) rfl ?_
  refine wl_val (v_neq rfl rfl) rfl ?_
  refine wl_nil ?_
  refine then_go ?_
  refine wc_cond rfl (fun h37 => ?_) (fun h37 => ?_)
  ·refine wc_seq ?_
   refine wc_region ?_
   refine wl_val (v_move' (by conv => (lhs; whnf))) rfl ?_
   refine wl_val (v_assign' (by conv => (lhs; whnf))) rfl ?_
   refine wl_nil ?_
   refine then_go ?_
   refine wc_ret (then_ret ?_)
   have hz := of_decide_eq_true h37
   exact ret1 rfl (OverOut.bad (by unfold overD; rw [if_neg hfit, hd1, if_pos hz]) hz hmm2 st)
  ·refine wc_skip ?_
   refine then_go ?_
   refine wc_seq ?_
   refine wc_seq ?_
   refine wc_region ?_
   refine wl_val (v_move' (by conv => (lhs; whnf))) rfl ?_
   refine wl_val (v_move' (by conv => (lhs; whnf))) rfl ?_
   refine wl_val (v_move' (by conv => (lhs; whnf))) rfl ?_
   have hz1 := of_decide_eq_false h37
   have hr1 := (hr1 (Decidable.not_not.1 hz1)).mono (k' := 100000) (by omega)
   refine wl_call rfl (c_put (hf := hf) (at' := 64) st hr1 hBm (by rw [hBl]; exact sizeL_mod) (by omega) hf1 (by omega)) rfl ?_
   rintro v42 w ⟨wv2, st, rfl⟩
   rw [fst1 hf1] at st ⊢
   have hr2 := rdy_done (i := hf * (n / 2) + 1) (b := B) hr1
   have hd2 : (putD n P1.1 ((1 - sl.half) * (n / 2) + 1) (allB (sl.gen + 1) 0 L)) = putD n P1.1 (hf * (n / 2) + 1) B := by rw [hhf, hB]
   obtain ⟨P2, hP2⟩ : ∃ P2, P2 = putD n P1.1 (hf * (n / 2) + 1) B := ⟨_, rfl⟩
   rw [← hP2] at st hr2 hd2 ⊢
   refine wl_val (v_assign' (by conv => (lhs; whnf))) rfl ?_
   refine wl_nil ?_
   refine then_go ?_
   refine wc_seq ?_
   refine wc_region ?_
   refine wl_val (v_move' (by conv => (lhs; whnf))) rfl ?_
   refine wl_val (v_neq rfl rfl) rfl ?_
   refine wl_nil ?_
   refine then_go ?_
   refine wc_cond rfl (fun h44 => ?_) (fun h44 => ?_)
   ·refine wc_seq ?_
    refine wc_region ?_
    refine wl_val (v_move' (by conv => (lhs; whnf))) rfl ?_
    refine wl_val (v_assign' (by conv => (lhs; whnf))) rfl ?_
    refine wl_nil ?_
    refine then_go ?_
    refine wc_ret (then_ret ?_)
    have hz := of_decide_eq_true h44
    exact ret1 rfl (OverOut.bad (by unfold overD; rw [if_neg hfit, hd1, if_neg hz1, hd2, if_pos hz]) hz hmm2 st)
   ·refine wc_skip ?_
    refine then_go ?_
    refine wc_seq ?_
    refine wc_seq ?_
    refine wc_region ?_
    refine wl_val (v_move' (by conv => (lhs; whnf))) rfl ?_
    refine wl_val (v_move' (by conv => (lhs; whnf))) rfl ?_
    refine wl_val (v_move' (by conv => (lhs; whnf))) rfl ?_
    refine wl_val (v_nil rfl) rfl ?_
    refine wl_val (v_fa TF.f70_2 rfl) rfl ?_
    refine wl_val (v_load rfl (st.reads (v := u64 sl.gen) 0 rfl TF.t42 rfl)) rfl ?_
    refine wl_val (v_add64 (q := 1) rfl rfl) rfl ?_
    have hz2 := of_decide_eq_false h44
    have hr2 := (hr2 (Decidable.not_not.1 hz2)).mono (k' := 100000) (by omega)
    refine wl_call rfl (c_jhead (g := sl.gen + 1) st) rfl ?_
    intro v53 w st
    have st3 := st
    obtain ⟨m3, hg3, hm3, st⟩ := st.freezeR (i := 0) rfl (by simp)
    have hHm : SlM m3 v53 1 (headB (sl.gen + 1)).length (bs (headB (sl.gen + 1))) := row_SlM (m := m3) (st3.at (i := 0) rfl) hm3
    have st : St m0 m3 [] w0 w (logB g b sl lv :: diskO b s n wv2 P2.1 :: Es) := st
    have hN := hN.mono hg3.le
    have hmm3 : ∀ k o, m k = some o → m3 k = some o := fun k o h => hg3.le k o (hmm2 k o h)
    have hHl := length_headB (sl.gen + 1)
    refine wl_call rfl (c_put (hf := hf) (at' := 0) st hr2 hHm (by omega) (by omega) hf1 (by omega)) rfl ?_
    rintro v54 w ⟨wv3, st, rfl⟩
    rw [fst0 hf1] at st ⊢
    have hd3 : (putD n P2.1 ((1 - sl.half) * (n / 2)) (headB (sl.gen + 1))) = putD n P2.1 (hf * (n / 2)) (headB (sl.gen + 1)) := by rw [hhf]
    obtain ⟨P3, hP3⟩ : ∃ P3, P3 = putD n P2.1 (hf * (n / 2)) (headB (sl.gen + 1)) := ⟨_, rfl⟩
    rw [← hP3] at st hd3 ⊢
    refine wl_val (v_assign' (by conv => (lhs; whnf))) rfl ?_
    refine wl_nil ?_
    refine then_go ?_
    refine wc_seq ?_
    refine wc_region ?_
    refine wl_val (v_move' (by conv => (lhs; whnf))) rfl ?_
    refine wl_val (v_neq rfl rfl) rfl ?_
    refine wl_nil ?_
    refine then_go ?_
    refine wc_cond rfl (fun h56 => ?_) (fun h56 => ?_)
    ·refine wc_seq ?_
     refine wc_region ?_
     refine wl_val (v_move' (by conv => (lhs; whnf))) rfl ?_
     refine wl_val (v_assign' (by conv => (lhs; whnf))) rfl ?_
     refine wl_nil ?_
     refine then_go ?_
     refine wc_ret (then_ret ?_)
     have hz := of_decide_eq_true h56
     exact ret1 rfl (OverOut.bad (by unfold overD; rw [if_neg hfit, hd1, if_neg hz1, hd2, if_neg hz2, hd3, if_pos hz]) hz hmm3 st)
    ·refine wc_skip ?_
     refine then_go ?_
     refine wc_seq ?_
     refine wc_region ?_
     refine wl_val (v_move' (by conv => (lhs; whnf))) rfl ?_
     refine wl_val (v_move' (by conv => (lhs; whnf))) rfl ?_
     refine wl_val (v_move' (by conv => (lhs; whnf))) rfl ?_
     refine wl_val (v_move' (by conv => (lhs; whnf))) rfl ?_
     refine wl_val (v_move' (by conv => (lhs; whnf))) rfl ?_
     refine wl_val (v_nil rfl) rfl ?_
     refine wl_val (v_fa TF.f70_2 rfl) rfl ?_
     refine wl_val (v_load rfl (st.reads (v := u64 sl.gen) 0 rfl TF.t42 rfl)) rfl ?_
     refine wl_val (v_add64 (q := 1) rfl rfl) rfl ?_
     refine wl_val (v_move' (by conv => (lhs; whnf))) rfl ?_
     refine wl_val (v_len_s Try.underlying30 rfl) rfl ?_
     refine wl_val (v_add' (c := ((64 + sizeL L : Nat) : Int)) rfl rfl (by omega) (by omega) (by omega)) rfl ?_
     refine wl_val (v_nil rfl) rfl ?_
     refine wl_val (v_fa TF.f70_1 rfl) rfl ?_
     refine wl_store1 0 st rfl TF.t3 rfl (by conv => (lhs; whnf)) rfl (by first | exact lt_ok rfl | decide | simp) ?_
     intro w st
     refine wl_val (v_nil rfl) rfl ?_
     refine wl_val (v_fa TF.f70_2 rfl) rfl ?_
     refine wl_store1 0 st rfl TF.t42 rfl (by conv => (lhs; whnf)) rfl (by first | exact lt_ok rfl | decide | simp) ?_
     intro w st
     refine wl_val (v_nil rfl) rfl ?_
     refine wl_val (v_fa TF.f70_3 rfl) rfl ?_
     refine wl_store1 0 st rfl TF.t3 rfl (by conv => (lhs; whnf)) rfl (by first | exact lt_ok rfl | decide | simp) ?_
     intro w st
     refine wl_nil ?_
     refine then_go ?_
     refine wc_seq ?_
     refine wc_region ?_
     refine wl_val (v_move' (by conv => (lhs; whnf))) rfl ?_
     refine wl_val (v_nil rfl) rfl ?_
     refine wl_val (v_fa TF.f70_4 rfl) rfl ?_
     refine wl_store1 0 st rfl TF.t29 rfl (by conv => (lhs; whnf)) rfl (by first | exact lt_ok rfl | decide | simp) ?_
     intro w st
     have hz3 := of_decide_eq_false h56
     have hfin : overD n d sl L = (P3.1, ⟨hf, sl.gen + 1, 64 + sizeL L⟩, 0) := by unfold overD; rw [if_neg hfit, hd1, if_neg hz1, hd2, if_neg hz2, hd3, if_neg hz3, ← hhf]
     have st : St m0 m3 [] w0 w (logB g b ⟨hf, sl.gen + 1, 64 + sizeL L⟩ (.slice none 0 0) :: diskO b s n wv3 P3.1 :: Es) := st
     refine wl_nil ?_
     refine then_go ?_
     refine wc_seq ?_
     refine wc_seq ?_
     refine wc_region ?_
     refine wl_val (v_move' (by conv => (lhs; whnf))) rfl ?_
     refine wl_val (v_len_s Try.underlying29 rfl) rfl ?_
     refine wl_val (v_move' (by conv => (lhs; whnf))) rfl ?_
     refine wl_nil ?_
     refine then_go ?_
     refine wc_block ?_
     have st := nilRow st 30 1
     have st : St m0 m3 [] w0 w (logB g b ⟨hf, sl.gen + 1, 64 + sizeL L⟩ (.slice none 0 0) :: lrE (.slice none 0 0) [] :: diskO b s n wv3 P3.1 :: Es) := st.perm (List.Perm.swap _ _ _)
     refine wc_loop (S := Nat) (fun q r w' => ∃ (i : Nat) (m' : Mem) (v : Value) (N' : List (By × Value)), q + i = N.length ∧ r 0 = .pointer (some ⟨g, 0, none⟩) ∧ r 79 = .slice na N.length nc ∧ r 80 = .int .i64 N.length ∧ r 81 = .int .i64 i ∧ (∀ k o, m3 k = some o → m' k = some o) ∧ Pcs m' N' ∧ N'.map (·.1) = (N.take i).map (·.1) ∧ St m0 m' [] w0 w' (logB g b ⟨hf, sl.gen + 1, 64 + sizeL L⟩ v :: lrE v N' :: diskO b s n wv3 P3.1 :: Es)) id N.length ⟨0, m3, _, [], by omega, rfl, rfl, rfl, rfl, fun _ _ h => h, (by intro x hx; cases hx), rfl, st⟩ ?_
     clear st
     rintro q r w2 ⟨i, m', v, N', hqi, g0, g79, g80, g81, hmm', hN', hNN', st⟩
     refine wc_o 0 g0 (wc_o 79 g79 (wc_o 80 g80 (wc_o 81 g81 ?_)))
     have hN := hN.mono hmm'
     refine wc_seq ?_
     refine wc_region ?_
     refine wl_val (v_lss rfl rfl) rfl ?_
     refine wl_nil ?_
     refine then_go ?_
     refine wc_seq ?_
     refine wc_if rfl (fun h82 => ?_) (fun h82 => ?_)
     ·refine wc_skip ?_
      refine then_go ?_
      refine wc_seq ?_
      refine wc_block ?_
      refine wc_seq ?_
      have hi : i < N.length := by omega
      obtain ⟨nb, no, _, hnv, hsk, hrk⟩ := hN.elem hi
      cases hnv
      have hxl := hNl _ (List.getElem_mem hi)
      have hN'l : N'.length = i := by have := congrArg List.length hNN'; rw [List.length_map, List.length_map, List.length_take] at this; omega
      refine wc_region ?_
      refine wl_val (v_ias i Try.underlying29 TF.t30 rfl rfl (by first | rfl | omega) (by first | omega | (dsimp only at *; omega))) rfl ?_
      refine wl_val (v_load rfl (hrk st.im)) rfl ?_
      refine wl_val (v_assign' (by conv => (lhs; whnf))) rfl ?_
      refine wl_nil ?_
      refine then_go ?_
      refine wc_draw TF.mixed ?_
      have st := st.pure (touch_drew _)
      refine fl_val 0 rfl (fun _ => (v_move' (by conv => (lhs; whnf)))) rfl (by kernel_rfl) ?_
      refine fl_val 1 rfl (fun _ => (v_move' (by conv => (lhs; whnf)))) rfl (by kernel_rfl) ?_
      refine fl_val 2 rfl (fun _ => (v_nil rfl)) rfl (by kernel_rfl) ?_
      refine fl_val 3 rfl (fun _ => (v_fa TF.f70_4 rfl)) rfl (by kernel_rfl) ?_
      refine fl_ld 4 rfl (v_load rfl (by first | exact st.reads (v := v) 0 rfl TF.t29 rfl | exact st.reads (v := v) 1 rfl TF.t29 rfl)) (by kernel_rfl) ?_
      refine fl_val 5 rfl (fun _ => (v_move' (by conv => (lhs; whnf)))) rfl (by kernel_rfl) ?_
      refine fl_eff1 6 [3, 2, 1, 0] [4] (by kernel_rfl) ⟨obl_ld rfl rfl rfl (v_load rfl (by first | exact st.reads (v := v) 0 rfl TF.t29 rfl | exact st.reads (v := v) 1 rfl TF.t29 rfl)), trivial⟩ rfl ?_
      refine wl_call rfl (c_bclone st.im hsk (by omega)) rfl ?_
      rintro v91 w ⟨t91, m4, hg4, hi4, hxv⟩
      have st := st.grown hg4 t91 hi4
      have hN' := hN'.mono hg4.le
      have hmm' : ∀ k o, m3 k = some o → m4 k = some o := fun k o h => hg4.le k o (hmm' k o h)
      refine wl_nil ⟨rfl, ?_⟩
      refine fl_eff1 7 [3, 2, 1, 0] [4] (by kernel_rfl) ⟨obl_ld rfl rfl rfl (v_load rfl (by first | exact st.reads (v := v) 0 rfl TF.t29 rfl | exact st.reads (v := v) 1 rfl TF.t29 rfl)), trivial⟩ rfl ?_
      refine wl_svOne (v := v91) Try.underlying29 TF.t30 TF.z30 (SlM.one1 hxv) rfl st rfl ?_
      intro b92 w st
      refine wl_nil ⟨rfl, ?_⟩
      refine fl_eff1 8 [3, 2, 1, 0] [] (by kernel_rfl) ⟨obl_ld rfl rfl rfl (v_load rfl (by first | exact st.reads (v := v) 0 rfl TF.t29 rfl | exact st.reads (v := v) 1 rfl TF.t29 rfl)), trivial⟩ rfl ?_
      refine wl_lrApp (x := N[i].1) 1 st rfl (SlM.one1 hxv) rfl rfl (by omega) rfl ?_
      intro v93 w st
      have st : St m0 m4 [] w0 w (logB g b ⟨hf, sl.gen + 1, 64 + sizeL L⟩ v :: lrE v93 (N' ++ [(N[i].1, v91)]) :: diskO b s n wv3 P3.1 :: Es) := st
      refine wl_nil ⟨rfl, ?_⟩
      refine fl_val 9 rfl (fun _ => (v_nil rfl)) rfl (by kernel_rfl) ?_
      refine fl_val 10 rfl (fun _ => (v_fa TF.f70_4 rfl)) rfl (by kernel_rfl) ?_
      refine fl_eff1 11 [9] [] (by kernel_rfl) trivial rfl ?_
      refine wl_store1 (v := v93) 0 st rfl TF.t29 rfl rfl (row_one (st.at (i := 1) rfl)) (lt_ok rfl) ?_
      intro w st
      have st : St m0 m4 [] w0 w (logB g b ⟨hf, sl.gen + 1, 64 + sizeL L⟩ v93 :: lrE v93 (N' ++ [(N[i].1, v91)]) :: diskO b s n wv3 P3.1 :: Es) := st
      refine wl_nil ⟨rfl, ?_⟩
      refine fl_nil (by kernel_rfl) trivial ?_
      refine block_go (then_go ?_)
      refine wc_region ?_
      refine wl_val (v_add' (c := ((i + 1 : Nat) : Int)) rfl rfl (by omega) (by omega) (by omega)) rfl ?_
      refine wl_val (v_move' (by conv => (lhs; whnf))) rfl ?_
      refine wl_nil ?_
      refine then_go ?_
      refine ⟨q - 1, by simp; omega, i + 1, m4, v93, N' ++ [(N[i].1, v91)], by omega, rfl, rfl, rfl, rfl, hmm', hN'.snoc hxv, ?_, st⟩
      rw [List.map_append, hNN', List.take_succ_eq_append_getElem hi, List.map_append]
      rfl
     ·refine wc_exit (then_exit (then_exit (block_hit ?_)))
      refine then_go ?_
      refine wc_seq ?_
      refine wc_region ?_
      refine wl_val (v_assign' (by conv => (lhs; whnf))) rfl ?_
      refine wl_nil ?_
      refine then_go ?_
      refine wc_ret ?_
      have hiN : i = N.length := by omega
      subst hiN
      rw [List.take_length, ← hL] at hNN'
      refine ret1 (v := .int .i64 0) rfl ⟨m', wv3, fun k o h => hmm' k o (hmm3 k o h), by rw [hfin], fun h => (h (by rw [hfin])).elim, fun _ => ⟨v, N', hN', hNN', by rw [hfin]; exact st⟩⟩
end
end Go.Proofs.Ytnaoafogdplnaaa

namespace Go.Proofs.Ytnaoafogdplnaaa
open Go Go.RowKit K SH DK JR
section
variable {m0 m : Mem} {F : List Nat} {w0 w : World} {Es : List Ent}
theorem c_bcloneR {v : Value} {l : By} (st : St m0 m F w0 w Es) (hv : SlM m v 1 l.length (bs l)) (hL : l.length ≤ 1099511627776) :
  Ret Try.prog 40 #[v] w fun v' w' => St m0 m F w0 w' (byE v' l :: Es) := by
 obtain ⟨_, a, cap, rfl, _⟩ := id hv
 refine ret_of Try.call40 Try.func40 rfl Try.ntmps40 Try.results40 rfl ?_
 refine wc_seq ?_
 refine wc_region ?_
 refine wl_val (v_assign' (by conv => (lhs; whnf))) rfl ?_
 refine wl_nil ?_
 refine then_go ?_
 refine wc_seq ?_
 refine wc_seq ?_
 refine wc_region ?_
 refine wl_val (v_move' (by conv => (lhs; whnf))) rfl ?_
 refine wl_val (v_eq_nilS Try.underlying30 rfl rfl) rfl ?_
 refine wl_nil ?_
 refine then_go ?_
 refine wc_cond rfl (fun h4 => ?_) (fun h4 => ?_)
 ·refine wc_seq ?_
  refine wc_region ?_
  refine wl_val (v_assign' (by conv => (lhs; whnf))) rfl ?_
  refine wl_nil ?_
  refine then_go ?_
  refine wc_ret (then_ret ?_)
  have hL0 : l = [] := by
   obtain ⟨_, a', c', he, hk, hn, _⟩ := hv
   cases he
   have := hn (by simpa using h4)
   exact List.eq_nil_of_length_eq_zero (by omega)
  subst hL0
  exact ret1 rfl (nilRow st 5 1)
 ·refine wc_skip ?_
  refine then_go ?_
  refine wc_seq ?_
  refine wc_region ?_
  refine wl_buildSlice0 (size := 1) Try.underlying30 TF.t5 st rfl ?_
  intro v5 w st
  have st : St m0 m F w0 w (byE v5 [] :: Es) := st
  refine wl_val (v_move' (by conv => (lhs; whnf))) rfl ?_
  refine wl_appB (l2 := l) st Try.underlying30 Try.underlying30 (.inr ⟨_, rfl⟩) TF.t5 TF.z5 rfl rfl (hv.src st.im (one_bs _)) (by simp; omega) (by simp; omega) rfl ?_
  intro v7 w st hv7
  refine wl_val (v_assign' (by conv => (lhs; whnf))) rfl ?_
  refine wl_nil ?_
  refine then_go ?_
  refine wc_ret ?_
  exact ret1 rfl st
def LogOut (m0 m : Mem) (w0 w' : World) (Es : List Ent) (g b s n : Nat) (o : DS × LG × Int) (L L' : List By) (v : Value) : Prop :=
 ∃ m' wv' lv' N', (∀ k o, m k = some o → m' k = some o) ∧ v = .int .i64 o.2.2 ∧ Pcs m' N' ∧ N'.map (·.1) = (if o.2.2 = 0 then L' else L) ∧ St m0 m' [] w0 w' (logB g b o.2.1 lv' :: lrE lv' N' :: diskO b s n wv' o.1 :: Es)
theorem p132 {a b c : Ent} {l : List Ent} : List.Perm (a :: b :: c :: l) (a :: c :: b :: l) := List.Perm.cons _ (List.Perm.swap _ _ _)
theorem c_append {g b s n : Nat} {sl : LG} {lv wv bv : Value} {d : DS} {N : List (By × Value)} {x : By} (st : St m0 m [] w0 w (logB g b sl lv :: lrE lv N :: diskO b s n wv d :: Es)) (hr : Rdy n d 100000) (hP : Pcs m N) (hx : SlM m bv 1 x.length (bs x)) (hsl : sl.half ≤ 1) (hf1 : sl.fin ≤ n / 2 * 64) (hNn : N.length ≤ 1048576) :
  Ret Try.prog 19 #[.pointer (some ⟨g, 0, none⟩), bv] w fun v w' => LogOut m0 m w0 w' Es g b s n (appD n d sl (N.map (·.1)) x) (N.map (·.1)) (N.map (·.1) ++ [x]) v := by
 obtain ⟨ba, bc, rfl, hbc⟩ := hx.opn
 have hn := hr.ok.le
 obtain ⟨la, lc, hlv⟩ := row_sl (st.at (i := 1) rfl)
 have hNL : (N.map (·.1)).length = N.length := List.length_map _
 have hrl := length_recB sl.gen (UInt64.ofNat N.length) x
 have hmm0 : ∀ k o, m k = some o → m k = some o := fun _ _ h => h
 have bad : ∀ {d' : DS} {e : Int} {m' : Mem} {wv' : Value} {w' : World}, appD n d sl (N.map (·.1)) x = (d', sl, e) → e ≠ 0 → (∀ k o, m k = some o → m' k = some o) → St m0 m' [] w0 w' (logB g b sl lv :: diskO b s n wv' d' :: lrE lv N :: Es) → LogOut m0 m w0 w' Es g b s n (appD n d sl (N.map (·.1)) x) (N.map (·.1)) (N.map (·.1) ++ [x]) (.int .i64 e) := by
  intro d' e m' wv' w' ho he hmm st
  unfold LogOut
  rw [ho]
  exact ⟨m', wv', lv, N, hmm, rfl, hP.mono hmm, by rw [if_neg he], st.perm p132⟩
 have st : St m0 m [] w0 w (logB g b sl lv :: diskO b s n wv d :: lrE lv N :: Es) := st.perm p132
 refine ret_of Try.call19 Try.func19 rfl Try.ntmps19 Try.results19 rfl ?_
 refine wc_seq ?_
 refine wc_region ?_
 refine wl_val (v_assign' (by conv => (lhs; whnf))) rfl ?_
 refine wl_nil ?_
 refine then_go ?_
 refine wc_seq ?_
 refine wc_seq ?_
 refine wc_region ?_
 refine wl_val (v_move' (by conv => (lhs; whnf))) rfl ?_
 refine wl_call rfl (c_jcheck st.im hx) rfl ?_
 rintro v9 w ⟨t9, rfl⟩
 have st := st.pure t9
 have hck : (if 1 ≤ x.length ∧ x.length ≤ 1048576 then (0 : Int) else 1) = ((checkE x : Nat) : Int) := by unfold checkE; split <;> rfl
 rw [hck]
 refine wl_val (v_assign' (by conv => (lhs; whnf))) rfl ?_
 refine wl_nil ?_
 refine then_go ?_
 refine wc_seq ?_
 refine wc_region ?_
 refine wl_val (v_move' (by conv => (lhs; whnf))) rfl ?_
 refine wl_val (v_neq rfl rfl) rfl ?_
 refine wl_nil ?_
 refine then_go ?_
 refine wc_cond rfl (fun h11 => ?_) (fun h11 => ?_)
 ·refine wc_seq ?_
  refine wc_region ?_
  refine wl_val (v_move' (by conv => (lhs; whnf))) rfl ?_
  refine wl_val (v_assign' (by conv => (lhs; whnf))) rfl ?_
  refine wl_nil ?_
  refine then_go ?_
  refine wc_ret (then_ret ?_)
  have hz := of_decide_eq_true h11
  have h1 : checkE x = 1 := by
   have : checkE x = 0 ∨ checkE x = 1 := by
    unfold checkE
    split
    ·exact .inl rfl
    ·exact .inr rfl
   rcases this with h | h
   ·exact (hz (by rw [h]; rfl)).elim
   ·exact h
  exact ret1 (v := .int .i64 1) (by rw [h1]; rfl) (bad (by unfold appD; rw [if_pos (by omega)]) (by decide) hmm0 st)
 ·refine wc_skip ?_
  refine then_go ?_
  refine wc_seq ?_
  have hc0 : ¬ checkE x ≠ 0 := fun h => of_decide_eq_false h11 (by omega)
  have hxm : 1 ≤ x.length ∧ x.length ≤ 1048576 := by
   unfold checkE at hc0
   split at hc0
   ·assumption
   ·exact (hc0 (by decide)).elim
  have hrl2 : recL x.length ≤ 1048696 := by unfold recL; omega
  refine wc_draw TF.mixed ?_
  have st := st.pure (touch_drew _)
  refine fl_val 0 rfl (fun _ => (v_move' (by conv => (lhs; whnf)))) rfl (by kernel_rfl) ?_
  refine fl_val 1 rfl (fun _ => (v_nil rfl)) rfl (by kernel_rfl) ?_
  refine fl_val 2 rfl (fun _ => (v_fa TF.f70_2 rfl)) rfl (by kernel_rfl) ?_
  refine fl_ld 3 rfl (v_load rfl (by first | exact st.reads (v := u64 sl.gen) 0 rfl TF.t42 rfl | exact st.reads (v := u64 sl.gen) 1 rfl TF.t42 rfl)) (by kernel_rfl) ?_
  refine fl_val 4 rfl (fun _ => (v_move' (by conv => (lhs; whnf)))) rfl (by kernel_rfl) ?_
  refine fl_val 5 rfl (fun _ => (v_nil rfl)) rfl (by kernel_rfl) ?_
  refine fl_val 6 rfl (fun _ => (v_fa TF.f70_4 rfl)) rfl (by kernel_rfl) ?_
  refine fl_ld 7 rfl (v_load rfl (by first | exact st.reads (v := .slice la N.length lc) 0 rfl TF.t29 (by rw [hlv]; rfl) | exact st.reads (v := .slice la N.length lc) 1 rfl TF.t29 (by rw [hlv]; rfl))) (by kernel_rfl) ?_
  refine fl_val 8 rfl (fun _ => (v_len_s Try.underlying29 rfl)) rfl (by kernel_rfl) ?_
  refine fl_val 9 rfl (fun _ => (v_convi_64 Try.underlying3 Try.underlying42 rfl)) rfl (by kernel_rfl) ?_
  refine fl_val 10 rfl (fun _ => (v_move' (by conv => (lhs; whnf)))) rfl (by kernel_rfl) ?_
  refine fl_eff1 11 [8, 6, 5, 4, 2, 1, 0] [7] (by kernel_rfl) ⟨obl_ld rfl rfl rfl (v_load rfl (by first | exact st.reads (v := .slice la N.length lc) 0 rfl TF.t29 (by rw [hlv]; rfl) | exact st.reads (v := .slice la N.length lc) 1 rfl TF.t29 (by rw [hlv]; rfl))), obl_ld rfl rfl rfl (v_load rfl (by first | exact st.reads (v := u64 sl.gen) 0 rfl TF.t42 rfl | exact st.reads (v := u64 sl.gen) 1 rfl TF.t42 rfl)), trivial⟩ rfl ?_
  refine wl_call rfl (c_jrecord (g := sl.gen) (s := UInt64.ofNat N.length) st hx (by omega)) rfl ?_
  intro v24 w st
  have st1 := st
  obtain ⟨m1, hg1, hm1, st⟩ := st.freezeR (i := 0) rfl (by simp)
  obtain ⟨R, hR⟩ : ∃ R, R = recB sl.gen (UInt64.ofNat N.length) x := ⟨_, rfl⟩
  rw [← hR] at hrl st1
  have hRm : SlM m1 v24 1 R.length (bs R) := row_SlM (m := m1) (st1.at (i := 0) rfl) hm1
  have st : St m0 m1 [] w0 w (logB g b sl lv :: diskO b s n wv d :: lrE lv N :: Es) := st
  have hmm1 := hg1.le
  have hx := hx.mono hmm1
  obtain ⟨Ra, Rc, hRv, _⟩ := hRm.opn
  subst hRv
  have hRe : recB sl.gen (UInt64.ofNat (N.map (·.1)).length) x = R := by rw [hNL, hR]
  refine wl_nil ⟨rfl, ?_⟩
  refine fl_eff1 12 [] [] (by kernel_rfl) ⟨obl_ld rfl rfl rfl (v_load rfl (by first | exact st.reads (v := .slice la N.length lc) 0 rfl TF.t29 (by rw [hlv]; rfl) | exact st.reads (v := .slice la N.length lc) 1 rfl TF.t29 (by rw [hlv]; rfl))), trivial⟩ rfl ?_
  refine wl_val (v_assign' (by conv => (lhs; whnf))) rfl ?_
  refine wl_nil ⟨rfl, ?_⟩
  refine fl_nil (by kernel_rfl) trivial ?_
  refine then_go ?_
  refine wc_seq ?_
  refine wc_seq ?_
  refine wc_draw TF.mixed ?_
  have st := st.pure (touch_drew _)
  refine fl_val 0 rfl (fun _ => (v_move' (by conv => (lhs; whnf)))) rfl (by kernel_rfl) ?_
  refine fl_val 1 rfl (fun _ => (v_len_s Try.underlying30 rfl)) rfl (by kernel_rfl) ?_
  refine fl_val 2 rfl (fun _ => (v_move' (by conv => (lhs; whnf)))) rfl (by kernel_rfl) ?_
  refine fl_val 4 rfl (fun _ => (v_move' (by conv => (lhs; whnf)))) rfl (by kernel_rfl) ?_
  refine fl_val 5 rfl (fun _ => (v_nil rfl)) rfl (by kernel_rfl) ?_
  refine fl_val 6 rfl (fun _ => (v_fa TF.f70_3 rfl)) rfl (by kernel_rfl) ?_
  refine fl_ld 7 rfl (v_load rfl (st.reads (v := .int .i64 sl.fin) 0 rfl TF.t3 rfl)) (by kernel_rfl) ?_
  refine fl_eff1 3 [6, 5, 4, 1, 0] [7] (by kernel_rfl) ⟨obl_ld rfl rfl rfl (v_load rfl (st.reads (v := .int .i64 sl.fin) 0 rfl TF.t3 rfl)), trivial⟩ rfl ?_
  refine wl_call rfl (c_lsize st hr.ok) rfl ?_
  rintro v28 w ⟨t28, rfl⟩
  have st := st.pure t28
  refine wl_nil ⟨rfl, ?_⟩
  refine fl_val 8 rfl (fun _ => (v_sub' (c := ((n / 2 * 64 - sl.fin : Nat) : Int)) rfl rfl (by omega) (by omega) (by omega))) rfl (by kernel_rfl) ?_
  refine fl_val 9 rfl (fun _ => (v_gtr rfl rfl)) rfl (by kernel_rfl) ?_
  refine fl_nil (by kernel_rfl) ⟨obl_ld rfl rfl rfl (v_load rfl (st.reads (v := .int .i64 sl.fin) 0 rfl TF.t3 rfl)), trivial⟩ ?_
  refine then_go ?_
  refine wc_if rfl (fun h34 => ?_) (fun h34 => ?_)
  ·refine wc_seq ?_
   refine wc_region ?_
   refine wl_val (v_assign' (by conv => (lhs; whnf))) rfl ?_
   refine wl_nil ?_
   refine then_go ?_
   refine wc_ret (then_ret ?_)
   exact ret1 rfl (bad (e := 13) (by unfold appD; rw [if_neg hc0, if_pos (by omega)]) (by decide) hmm1 st)
  ·refine wc_skip ?_
   refine then_go ?_
   refine wc_seq ?_
   refine wc_seq ?_
   refine wc_draw TF.mixed ?_
   have st := st.pure (touch_drew _)
   refine fl_val 0 rfl (fun _ => (v_move' (by conv => (lhs; whnf)))) rfl (by kernel_rfl) ?_
   refine fl_val 1 rfl (fun _ => (v_move' (by conv => (lhs; whnf)))) rfl (by kernel_rfl) ?_
   refine fl_val 2 rfl (fun _ => (v_nil rfl)) rfl (by kernel_rfl) ?_
   refine fl_val 3 rfl (fun _ => (v_fa TF.f70_1 rfl)) rfl (by kernel_rfl) ?_
   refine fl_ld 4 rfl (v_load rfl (st.reads (v := .int .i64 sl.half) 0 rfl TF.t3 rfl)) (by kernel_rfl) ?_
   refine fl_val 5 rfl (fun _ => (v_move' (by conv => (lhs; whnf)))) rfl (by kernel_rfl) ?_
   refine fl_val 6 rfl (fun _ => (v_nil rfl)) rfl (by kernel_rfl) ?_
   refine fl_val 7 rfl (fun _ => (v_fa TF.f70_3 rfl)) rfl (by kernel_rfl) ?_
   refine fl_ld 8 rfl (v_load rfl (st.reads (v := .int .i64 sl.fin) 0 rfl TF.t3 rfl)) (by kernel_rfl) ?_
   refine fl_val 9 rfl (fun _ => (v_move' (by conv => (lhs; whnf)))) rfl (by kernel_rfl) ?_
   refine fl_eff1 10 [7, 6, 5, 3, 2, 1] [] (by kernel_rfl) ⟨obl_ld rfl rfl rfl (v_load rfl (st.reads (v := .int .i64 sl.fin) 0 rfl TF.t3 rfl)), obl_ld rfl rfl rfl (v_load rfl (st.reads (v := .int .i64 sl.half) 0 rfl TF.t3 rfl)), trivial⟩ rfl ?_
   have hfit : ¬ n / 2 * 64 < sl.fin + recL x.length := by omega
   refine wl_call rfl (c_put (hf := sl.half) (at' := sl.fin) st hr hRm (by rw [hrl]; unfold recL; omega) (by omega) hsl (by omega)) rfl ?_
   rintro v45 w ⟨wv1, st, rfl⟩
   have hd1 : putD n d ((sl.half * (n / 2 * 64) + sl.fin) / 64) (recB sl.gen (UInt64.ofNat (N.map (·.1)).length) x) = putD n d ((sl.half * (n / 2 * 64) + sl.fin) / 64) R := by rw [hRe]
   obtain ⟨P1, hP1⟩ : ∃ P1, P1 = putD n d ((sl.half * (n / 2 * 64) + sl.fin) / 64) R := ⟨_, rfl⟩
   rw [← hP1] at st hd1 ⊢
   refine wl_nil ⟨rfl, ?_⟩
   refine fl_eff1 11 [] [] (by kernel_rfl) trivial rfl ?_
   refine wl_val (v_assign' (by conv => (lhs; whnf))) rfl ?_
   refine wl_nil ⟨rfl, ?_⟩
   refine fl_nil (by kernel_rfl) trivial ?_
   refine then_go ?_
   refine wc_seq ?_
   refine wc_region ?_
   refine wl_val (v_move' (by conv => (lhs; whnf))) rfl ?_
   refine wl_val (v_neq rfl rfl) rfl ?_
   refine wl_nil ?_
   refine then_go ?_
   refine wc_cond rfl (fun h47 => ?_) (fun h47 => ?_)
   ·refine wc_seq ?_
    refine wc_region ?_
    refine wl_val (v_move' (by conv => (lhs; whnf))) rfl ?_
    refine wl_val (v_assign' (by conv => (lhs; whnf))) rfl ?_
    refine wl_nil ?_
    refine then_go ?_
    refine wc_ret (then_ret ?_)
    have hz := of_decide_eq_true h47
    exact ret1 rfl (bad (by unfold appD; rw [if_neg hc0, if_neg hfit, hd1, if_pos hz]) hz hmm1 st)
   ·refine wc_skip ?_
    refine then_go ?_
    refine wc_seq ?_
    refine wc_draw TF.mixed ?_
    have st := st.pure (touch_drew _)
    refine fl_val 0 rfl (fun _ => (v_move' (by conv => (lhs; whnf)))) rfl (by kernel_rfl) ?_
    refine fl_val 1 rfl (fun _ => (v_move' (by conv => (lhs; whnf)))) rfl (by kernel_rfl) ?_
    refine fl_val 2 rfl (fun _ => (v_move' (by conv => (lhs; whnf)))) rfl (by kernel_rfl) ?_
    refine fl_val 3 rfl (fun _ => (v_nil rfl)) rfl (by kernel_rfl) ?_
    refine fl_val 4 rfl (fun _ => (v_fa TF.f70_4 rfl)) rfl (by kernel_rfl) ?_
    refine fl_ld 5 rfl (v_load rfl (by first | exact st.reads (v := lv) 0 rfl TF.t29 rfl | exact st.reads (v := lv) 1 rfl TF.t29 rfl)) (by kernel_rfl) ?_
    refine fl_val 6 rfl (fun _ => (v_move' (by conv => (lhs; whnf)))) rfl (by kernel_rfl) ?_
    refine fl_val 10 rfl (fun _ => (v_move' (by conv => (lhs; whnf)))) rfl (by kernel_rfl) ?_
    refine fl_val 11 rfl (fun _ => (v_nil rfl)) rfl (by kernel_rfl) ?_
    refine fl_val 12 rfl (fun _ => (v_fa TF.f70_3 rfl)) rfl (by kernel_rfl) ?_
    refine fl_ld 13 rfl (v_load rfl (by first | exact st.reads (v := .int .i64 sl.fin) 0 rfl TF.t3 rfl | exact st.reads (v := .int .i64 sl.fin) 1 rfl TF.t3 rfl)) (by kernel_rfl) ?_
    refine fl_val 14 rfl (fun _ => (v_move' (by conv => (lhs; whnf)))) rfl (by kernel_rfl) ?_
    refine fl_val 15 rfl (fun _ => (v_len_s Try.underlying30 rfl)) rfl (by kernel_rfl) ?_
    refine fl_val 16 rfl (fun _ => (v_add' (c := ((sl.fin + recL x.length : Nat) : Int)) rfl rfl (by omega) (by omega) (by omega))) rfl (by kernel_rfl) ?_
    refine fl_eff1 7 [16, 15, 14, 12, 11, 10, 4, 3, 2, 1, 0] [13, 5] (by kernel_rfl) ⟨obl_ld rfl rfl rfl (v_load rfl (by first | exact st.reads (v := .int .i64 sl.fin) 0 rfl TF.t3 rfl | exact st.reads (v := .int .i64 sl.fin) 1 rfl TF.t3 rfl)), obl_ld rfl rfl rfl (v_load rfl (by first | exact st.reads (v := lv) 0 rfl TF.t29 rfl | exact st.reads (v := lv) 1 rfl TF.t29 rfl)), trivial⟩ rfl ?_
    refine wl_call rfl (c_bclone st.im hx (by omega)) rfl ?_
    rintro v56 w ⟨t56, m2, hg2, hi2, hxv⟩
    have st := st.grown hg2 t56 hi2
    have hmm2 : ∀ k o, m k = some o → m2 k = some o := fun k o h => hg2.le k o (hmm1 k o h)
    have hP := hP.mono hmm2
    refine wl_nil ⟨rfl, ?_⟩
    refine fl_eff1 8 [16, 15, 14, 12, 11, 10, 4, 3, 2, 1, 0] [13, 5] (by kernel_rfl) ⟨obl_ld rfl rfl rfl (v_load rfl (by first | exact st.reads (v := .int .i64 sl.fin) 0 rfl TF.t3 rfl | exact st.reads (v := .int .i64 sl.fin) 1 rfl TF.t3 rfl)), obl_ld rfl rfl rfl (v_load rfl (by first | exact st.reads (v := lv) 0 rfl TF.t29 rfl | exact st.reads (v := lv) 1 rfl TF.t29 rfl)), trivial⟩ rfl ?_
    refine wl_svOne (v := v56) Try.underlying29 TF.t30 TF.z30 (SlM.one1 hxv) rfl st rfl ?_
    intro b57 w st
    refine wl_nil ⟨rfl, ?_⟩
    refine fl_eff1 9 [16, 15, 14, 12, 11, 10, 4, 3, 2, 1, 0] [13] (by kernel_rfl) ⟨obl_ld rfl rfl rfl (v_load rfl (by first | exact st.reads (v := .int .i64 sl.fin) 0 rfl TF.t3 rfl | exact st.reads (v := .int .i64 sl.fin) 1 rfl TF.t3 rfl)), obl_ld rfl rfl rfl (v_load rfl (by first | exact st.reads (v := lv) 0 rfl TF.t29 rfl | exact st.reads (v := lv) 1 rfl TF.t29 rfl)), trivial⟩ rfl ?_
    refine wl_lrApp (x := x) 2 st rfl (SlM.one1 hxv) rfl rfl (by omega) rfl ?_
    intro v58 w st
    have st : St m0 m2 [] w0 w (logB g b sl lv :: diskO b s n wv1 P1.1 :: lrE v58 (N ++ [(x, v56)]) :: Es) := st
    refine wl_nil ⟨rfl, ?_⟩
    refine fl_val 17 rfl (fun _ => (v_nil rfl)) rfl (by kernel_rfl) ?_
    refine fl_val 18 rfl (fun _ => (v_fa TF.f70_4 rfl)) rfl (by kernel_rfl) ?_
    refine fl_eff1 19 [17, 16, 15, 14, 12, 11, 10, 1] [] (by kernel_rfl) ⟨obl_ld rfl rfl rfl (v_load rfl (by first | exact st.reads (v := .int .i64 sl.fin) 0 rfl TF.t3 rfl | exact st.reads (v := .int .i64 sl.fin) 1 rfl TF.t3 rfl)), trivial⟩ rfl ?_
    refine wl_store1 (v := v58) 0 st rfl TF.t29 rfl rfl (row_one (st.at (i := 2) rfl)) (lt_ok rfl) ?_
    intro w st
    have st : St m0 m2 [] w0 w (logB g b sl v58 :: diskO b s n wv1 P1.1 :: lrE v58 (N ++ [(x, v56)]) :: Es) := st
    refine wl_nil ⟨rfl, ?_⟩
    refine fl_val 20 rfl (fun _ => (v_nil rfl)) rfl (by kernel_rfl) ?_
    refine fl_val 21 rfl (fun _ => (v_fa TF.f70_3 rfl)) rfl (by kernel_rfl) ?_
    refine fl_eff1 22 [20] [] (by kernel_rfl) trivial rfl ?_
    refine wl_store1 (v := .int .i64 ((sl.fin + recL x.length : Nat) : Int)) 0 st rfl TF.t3 rfl rfl rfl (lt_ok rfl) ?_
    intro w st
    have st : St m0 m2 [] w0 w (logB g b { sl with fin := sl.fin + recL x.length } v58 :: diskO b s n wv1 P1.1 :: lrE v58 (N ++ [(x, v56)]) :: Es) := st
    refine wl_nil ⟨rfl, ?_⟩
    refine fl_nil (by kernel_rfl) trivial ?_
    refine then_go ?_
    refine wc_seq ?_
    refine wc_region ?_
    refine wl_val (v_assign' (by conv => (lhs; whnf))) rfl ?_
    refine wl_nil ?_
    refine then_go ?_
    refine wc_ret ?_
    have hz := of_decide_eq_false h47
    have hfin : appD n d sl (N.map (·.1)) x = (P1.1, { sl with fin := sl.fin + recL x.length }, 0) := by unfold appD; rw [if_neg hc0, if_neg hfit, hd1, if_neg hz]
    refine ret1 (v := .int .i64 0) rfl ?_
    unfold LogOut
    rw [hfin]
    exact ⟨m2, wv1, v58, N ++ [(x, v56)], hmm2, rfl, hP.snoc hxv, by rw [if_pos rfl, List.map_append]; rfl, st.perm p132⟩
def resD (n : Nat) (d : DS) (s : LG) (M : List By) : DS × LG × Int := if ∃ b ∈ M, checkE b ≠ 0 then (d, s, 1) else overD n d s M
theorem checkE_or (x : By) : checkE x = 0 ∨ checkE x = 1 := by
 unfold checkE
 split
 ·exact .inl rfl
 ·exact .inr rfl
theorem checkE_len {x : By} (h : ¬ checkE x ≠ 0) : 1 ≤ x.length ∧ x.length ≤ 1048576 := by
 unfold checkE at h
 split at h
 ·assumption
 ·exact (h (by decide)).elim
theorem c_restart {g b s n : Nat} {sl : LG} {lv wv nv : Value} {d : DS} {N M : List (By × Value)} (st : St m0 m [] w0 w (logB g b sl lv :: lrE lv N :: diskO b s n wv d :: Es)) (hr : Rdy n d 100000) (hP : Pcs m N) (hn8 : 8 ≤ n) (hsl : sl.half ≤ 1) (hM : PcsM m nv M) (hMn : M.length ≤ 1048576) :
  Ret Try.prog 39 #[.pointer (some ⟨g, 0, none⟩), nv] w fun v w' => LogOut m0 m w0 w' Es g b s n (resD n d sl (M.map (·.1))) (N.map (·.1)) (M.map (·.1)) v := by
 obtain ⟨na, nc, hlv⟩ : ∃ a c, nv = .slice a M.length c := by obtain ⟨⟨_, a, c, h, _⟩, _⟩ := hM; exact ⟨a, c, h⟩
 subst hlv
 have hmm0 : ∀ k o, m k = some o → m k = some o := fun _ _ h => h
 refine ret_of Try.call39 Try.func39 rfl Try.ntmps39 Try.results39 rfl ?_
 refine wc_seq ?_
 refine wc_region ?_
 refine wl_val (v_assign' (by conv => (lhs; whnf))) rfl ?_
 refine wl_nil ?_
 refine then_go ?_
 refine wc_seq ?_
 refine wc_seq ?_
 refine wc_region ?_
 refine wl_val (v_move' (by conv => (lhs; whnf))) rfl ?_
 refine wl_val (v_len_s Try.underlying29 rfl) rfl ?_
 refine wl_val (v_move' (by conv => (lhs; whnf))) rfl ?_
 refine wl_nil ?_
 refine then_go ?_
 refine wc_block ?_
 refine wc_loop (S := Nat) (fun q r w' => ∃ (i : Nat), q + i = M.length ∧ r 0 = .pointer (some ⟨g, 0, none⟩) ∧ r 1 = .slice na M.length nc ∧ r 8 = .slice na M.length nc ∧ r 9 = .int .i64 M.length ∧ r 10 = .int .i64 i ∧ (∀ x ∈ M.take i, ¬ checkE x.1 ≠ 0) ∧ St m0 m [] w0 w' (logB g b sl lv :: lrE lv N :: diskO b s n wv d :: Es)) id M.length ⟨0, by omega, rfl, rfl, rfl, rfl, rfl, by simp, st⟩ ?_
 clear st
 rintro q r w2 ⟨i, hqi, g0, g1, g8, g9, g10, hck, st⟩
 refine wc_o 0 g0 (wc_o 1 g1 (wc_o 8 g8 (wc_o 9 g9 (wc_o 10 g10 ?_))))
 refine wc_seq ?_
 refine wc_region ?_
 refine wl_val (v_lss rfl rfl) rfl ?_
 refine wl_nil ?_
 refine then_go ?_
 refine wc_seq ?_
 refine wc_if rfl (fun h11 => ?_) (fun h11 => ?_)
 ·refine wc_skip ?_
  refine then_go ?_
  refine wc_seq ?_
  refine wc_block ?_
  refine wc_seq ?_
  have hi : i < M.length := by omega
  obtain ⟨nb, no, _, hnv, hsk, hrk⟩ := hM.elem hi
  cases hnv
  refine wc_region ?_
  refine wl_val (v_ias i Try.underlying29 TF.t30 rfl rfl (by first | rfl | omega) (by first | omega | (dsimp only at *; omega))) rfl ?_
  refine wl_val (v_load rfl (hrk st.im)) rfl ?_
  refine wl_val (v_assign' (by conv => (lhs; whnf))) rfl ?_
  refine wl_nil ?_
  refine then_go ?_
  refine wc_seq ?_
  refine wc_region ?_
  refine wl_val (v_move' (by conv => (lhs; whnf))) rfl ?_
  refine wl_call rfl (c_jcheck st.im hsk) rfl ?_
  rintro v15 w ⟨t15, rfl⟩
  have st := st.pure t15
  have hcq : (if 1 ≤ M[i].1.length ∧ M[i].1.length ≤ 1048576 then (0 : Int) else 1) = ((checkE M[i].1 : Nat) : Int) := by unfold checkE; split <;> rfl
  rw [hcq]
  refine wl_val (v_assign' (by conv => (lhs; whnf))) rfl ?_
  refine wl_nil ?_
  refine then_go ?_
  refine wc_seq ?_
  refine wc_region ?_
  refine wl_val (v_move' (by conv => (lhs; whnf))) rfl ?_
  refine wl_val (v_neq rfl rfl) rfl ?_
  refine wl_nil ?_
  refine then_go ?_
  refine wc_cond rfl (fun h17 => ?_) (fun h17 => ?_)
  ·refine wc_seq ?_
   refine wc_region ?_
   refine wl_val (v_move' (by conv => (lhs; whnf))) rfl ?_
   refine wl_val (v_assign' (by conv => (lhs; whnf))) rfl ?_
   refine wl_nil ?_
   refine then_go ?_
   refine wc_ret (block_ret (then_ret (then_ret (block_ret (then_ret ?_)))))
   have hz := of_decide_eq_true h17
   have h1 : checkE M[i].1 = 1 := (checkE_or _).resolve_left fun h => hz (by rw [h]; rfl)
   have hfin : resD n d sl (M.map (·.1)) = (d, sl, 1) := by unfold resD; rw [if_pos ⟨_, List.mem_map.2 ⟨_, List.getElem_mem hi, rfl⟩, by omega⟩]
   refine ret1 (v := .int .i64 1) (by rw [h1]; rfl) ?_
   unfold LogOut
   rw [hfin]
   exact ⟨m, wv, lv, N, hmm0, rfl, hP, by rw [if_neg (show ¬ (1 : Int) = 0 by decide)], st⟩
  ·refine wc_skip ?_
   refine block_go (then_go ?_)
   refine wc_region ?_
   refine wl_val (v_add' (c := ((i + 1 : Nat) : Int)) rfl rfl (by omega) (by omega) (by omega)) rfl ?_
   refine wl_val (v_move' (by conv => (lhs; whnf))) rfl ?_
   refine wl_nil ?_
   refine then_go ?_
   refine ⟨q - 1, by simp; omega, i + 1, by omega, rfl, rfl, rfl, rfl, rfl, fun x hx => ?_, st⟩
   rw [List.take_succ_eq_append_getElem hi] at hx
   rcases List.mem_append.1 hx with hx | hx
   ·exact hck x hx
   ·rw [List.mem_singleton.1 hx]
    exact fun h => of_decide_eq_false h17 (by omega)
 ·refine wc_exit (then_exit (then_exit (block_hit ?_)))
  refine then_go ?_
  refine wc_seq ?_
  refine wc_region ?_
  refine wl_val (v_move' (by conv => (lhs; whnf))) rfl ?_
  refine wl_val (v_move' (by conv => (lhs; whnf))) rfl ?_
  have hiN : i = M.length := by omega
  subst hiN
  rw [List.take_length] at hck
  have hfin : resD n d sl (M.map (·.1)) = overD n d sl (M.map (·.1)) := by
   unfold resD
   rw [if_neg]
   rintro ⟨x, hx, hz⟩
   obtain ⟨y, hy, rfl⟩ := List.mem_map.1 hx
   exact hck y hy hz
  have st := st.perm p132
  refine wl_call rfl (c_over st hr hn8 hsl hM (fun x hx => (checkE_len (hck x hx)).2) hMn) rfl ?_
  rintro v22 w ⟨m1, wv1, hmm1, rfl, hbad, hok⟩
  refine wl_val (v_assign' (by conv => (lhs; whnf))) rfl ?_
  refine wl_nil ?_
  refine then_go ?_
  refine wc_ret ?_
  refine ret1 rfl ?_
  unfold LogOut
  rw [hfin]
  by_cases hz : (overD n d sl (M.map (·.1))).2.2 = 0
  ·obtain ⟨lv', N', hP', hNN, st⟩ := hok hz
   refine ⟨m1, wv1, lv', N', hmm1, rfl, hP', by rw [if_pos hz]; exact hNN, ?_⟩
   exact (st.perm (List.perm_middle (l₁ := [_, _, _]))).drop 0
  ·obtain ⟨hs, st⟩ := hbad hz
   refine ⟨m1, wv1, lv, N, hmm1, rfl, hP.mono hmm1, by rw [if_neg hz], ?_⟩
   rw [hs]
   exact st.perm p132
abbrev rowsE (A : List (By × Value)) : List Ent := (A.map fun x => byE x.2 x.1).reverse
theorem rows_freeze : ∀ {A : List (By × Value)} {m : Mem} {Es : List Ent}, St m0 m [] w0 w (rowsE A ++ Es) → ∃ m', (∀ k o, m k = some o → m' k = some o) ∧ Pcs m' A ∧ St m0 m' [] w0 w Es := by
 intro A
 induction h : A.length generalizing A with
 | zero =>
  intro m Es st
  have := List.eq_nil_of_length_eq_zero h
  subst this
  exact ⟨m, fun _ _ h => h, (by intro x hx; cases hx), st⟩
 | succ k ih =>
  intro m Es st
  have hne : A ≠ [] := by intro e; subst e; simp at h
  obtain ⟨B, x, rfl⟩ : ∃ B x, A = B ++ [x] := ⟨A.dropLast, A.getLast hne, (List.dropLast_concat_getLast hne).symm⟩
  have e : rowsE (B ++ [x]) ++ Es = byE x.2 x.1 :: (rowsE B ++ Es) := by simp [rowsE]
  rw [e] at st
  obtain ⟨m1, hg1, hm1, st1⟩ := st.freezeR (i := 0) rfl (by simp)
  have hx : SlM m1 x.2 1 x.1.length (bs x.1) := row_SlM (m := m1) (st.at (i := 0) rfl) hm1
  obtain ⟨m2, h2, hP, st2⟩ := ih (A := B) (by simpa using h) (show St m0 m1 [] w0 w (rowsE B ++ Es) from st1)
  exact ⟨m2, fun k o h => h2 k o (hg1.le k o h), hP.snoc (hx.mono h2), st2⟩
theorem c_logAll {g b : Nat} {sl : LG} {lv : Value} {N : List (By × Value)} (st : St m0 m F w0 w (logB g b sl lv :: lrE lv N :: Es)) (hP : Pcs m N) (hNl : ∀ x ∈ N, x.1.length ≤ 1048576) (hNn : N.length ≤ 1048576) :
  Ret Try.prog 13 #[.pointer (some ⟨g, 0, none⟩)] w fun v w' => ∃ A, A.map (·.1) = N.map (·.1) ∧ St m0 m F w0 w' (lrE v A :: (rowsE A ++ logB g b sl lv :: lrE lv N :: Es)) := by
 obtain ⟨la, lc, hlv⟩ := row_sl (st.at (i := 1) rfl)
 subst hlv
 refine ret_of Try.call13 Try.func13 rfl Try.ntmps13 Try.results13 rfl ?_
 refine wc_seq ?_
 refine wc_region ?_
 refine wl_val (v_assign' (by conv => (lhs; whnf))) rfl ?_
 refine wl_nil ?_
 refine then_go ?_
 refine wc_seq ?_
 refine wc_region ?_
 refine wl_val (v_assign' (by conv => (lhs; whnf))) rfl ?_
 refine wl_nil ?_
 refine then_go ?_
 refine wc_seq ?_
 refine wc_seq ?_
 refine wc_region ?_
 refine wl_val (v_move' (by conv => (lhs; whnf))) rfl ?_
 refine wl_val (v_nil rfl) rfl ?_
 refine wl_val (v_fa TF.f70_4 rfl) rfl ?_
 refine wl_val (v_load rfl (st.reads (v := .slice la N.length lc) 0 rfl TF.t29 rfl)) rfl ?_
 refine wl_val (v_len_s Try.underlying29 rfl) rfl ?_
 refine wl_val (v_move' (by conv => (lhs; whnf))) rfl ?_
 refine wl_nil ?_
 refine then_go ?_
 refine wc_block ?_
 have st := nilRow st 30 1
 refine wc_loop (S := Nat) (fun q r w' => ∃ (i : Nat) (v : Value) (A : List (By × Value)), q + i = N.length ∧ r 3 = v ∧ r 9 = .slice la N.length lc ∧ r 10 = .int .i64 N.length ∧ r 11 = .int .i64 i ∧ A.map (·.1) = (N.take i).map (·.1) ∧ St m0 m F w0 w' (lrE v A :: (rowsE A ++ logB g b sl (.slice la N.length lc) :: lrE (.slice la N.length lc) N :: Es))) id N.length ⟨0, _, [], by omega, rfl, rfl, rfl, rfl, rfl, st⟩ ?_
 clear st
 rintro q r w2 ⟨i, v, A, hqi, g3, g9, g10, g11, hA, st⟩
 refine wc_o 3 g3 (wc_o 9 g9 (wc_o 10 g10 (wc_o 11 g11 ?_)))
 refine wc_seq ?_
 refine wc_region ?_
 refine wl_val (v_lss rfl rfl) rfl ?_
 refine wl_nil ?_
 refine then_go ?_
 refine wc_seq ?_
 refine wc_if rfl (fun h12 => ?_) (fun h12 => ?_)
 ·refine wc_skip ?_
  refine then_go ?_
  refine wc_seq ?_
  refine wc_block ?_
  refine wc_seq ?_
  have hi : i < N.length := by omega
  have hAl : A.length = i := by have := congrArg List.length hA; rw [List.length_map, List.length_map, List.length_take] at this; omega
  have hidx : (lrE v A :: (rowsE A ++ logB g b sl (.slice la N.length lc) :: lrE (.slice la N.length lc) N :: Es))[A.length + 2]? = some (lrE (.slice la N.length lc) N) := by
   rw [List.getElem?_cons_succ, List.getElem?_append_right (by simp)]
   simp
  obtain ⟨nb, no, _, hnv, hsk, hrk⟩ := (lr_PcsM st (A.length + 2) hidx hP).elem hi
  cases hnv
  have hxl := hNl _ (List.getElem_mem hi)
  have hsk := hP _ (List.getElem_mem hi)
  refine wc_region ?_
  refine wl_val (v_ias i Try.underlying29 TF.t30 rfl rfl (by first | rfl | omega) (by first | omega | (dsimp only at *; omega))) rfl ?_
  refine wl_val (v_load rfl (hrk (im_heapM _))) rfl ?_
  refine wl_val (v_assign' (by conv => (lhs; whnf))) rfl ?_
  refine wl_nil ?_
  refine then_go ?_
  refine wc_region ?_
  refine wl_val (v_move' (by conv => (lhs; whnf))) rfl ?_
  refine wl_val (v_move' (by conv => (lhs; whnf))) rfl ?_
  refine wl_call rfl (c_bcloneR st hsk (by omega)) rfl ?_
  intro v17 w st
  refine wl_svOne (v := v17) Try.underlying29 TF.t30 TF.z30 (byE_one st 0 rfl) rfl st rfl ?_
  intro b18 w st
  refine wl_lrApp (x := N[i].1) 1 st rfl (byE_one st 1 rfl) rfl rfl (by omega) rfl ?_
  intro v19 w st
  have st : St m0 m F w0 w (lrE v19 (A ++ [(N[i].1, v17)]) :: (rowsE (A ++ [(N[i].1, v17)]) ++ logB g b sl (.slice (some ⟨nb, no, none⟩) N.length lc) :: lrE (.slice (some ⟨nb, no, none⟩) N.length lc) N :: Es)) := by
   have e : rowsE (A ++ [(N[i].1, v17)]) = byE v17 N[i].1 :: rowsE A := by simp [rowsE]
   rw [e]
   exact st.perm (List.Perm.swap _ _ _)
  refine wl_val (v_assign' (by conv => (lhs; whnf))) rfl ?_
  refine wl_nil ?_
  refine block_go (then_go ?_)
  refine wc_region ?_
  refine wl_val (v_add' (c := ((i + 1 : Nat) : Int)) rfl rfl (by omega) (by omega) (by omega)) rfl ?_
  refine wl_val (v_move' (by conv => (lhs; whnf))) rfl ?_
  refine wl_nil ?_
  refine then_go ?_
  refine ⟨q - 1, by simp; omega, i + 1, v19, A ++ [(N[i].1, v17)], by omega, rfl, rfl, rfl, rfl, ?_, st⟩
  rw [List.map_append, hA, List.take_succ_eq_append_getElem hi, List.map_append]
  rfl
 ·refine wc_exit (then_exit (then_exit (block_hit ?_)))
  refine then_go ?_
  refine wc_seq ?_
  refine wc_region ?_
  refine wl_val (v_move' (by conv => (lhs; whnf))) rfl ?_
  refine wl_val (v_assign' (by conv => (lhs; whnf))) rfl ?_
  refine wl_nil ?_
  refine then_go ?_
  refine wc_ret ?_
  have hiN : i = N.length := by omega
  subst hiN
  rw [List.take_length] at hA
  exact ret1 rfl ⟨A, hA, st⟩
theorem c_logGen {g b : Nat} {sl : LG} {lv : Value} (st : St m0 m F w0 w (logB g b sl lv :: Es)) : Ret Try.prog 24 #[.pointer (some ⟨g, 0, none⟩)] w fun v w' => Tch w w' [] [] ∧ v = u64 sl.gen := by
 refine ret_of Try.call24 Try.func24 rfl Try.ntmps24 Try.results24 rfl ?_
 refine wc_seq ?_
 refine wc_region ?_
 refine wl_val (v_assign' (by conv => (lhs; whnf))) rfl ?_
 refine wl_nil ?_
 refine then_go ?_
 refine wc_seq ?_
 refine wc_region ?_
 refine wl_val (v_move' (by conv => (lhs; whnf))) rfl ?_
 refine wl_val (v_nil rfl) rfl ?_
 refine wl_val (v_fa TF.f70_2 rfl) rfl ?_
 refine wl_val (v_load rfl (st.reads (v := u64 sl.gen) 0 rfl TF.t42 rfl)) rfl ?_
 refine wl_val (v_assign' (by conv => (lhs; whnf))) rfl ?_
 refine wl_nil ?_
 refine then_go ?_
 refine wc_ret ?_
 exact ret1 rfl ⟨Tch.refl _ _, rfl⟩
def roomF (n fin : Nat) : Nat := min (n / 2 * 64 - fin - 57) 1048576
theorem c_logRoom {g b s n : Nat} {sl : LG} {lv wv : Value} {d : DS} (st : St m0 m F w0 w (logB g b sl lv :: diskO b s n wv d :: Es)) (ok : d.ok n) (hf1 : sl.fin ≤ n / 2 * 64) : Ret Try.prog 20 #[.pointer (some ⟨g, 0, none⟩)] w fun v w' => St m0 m F w0 w' (logB g b sl lv :: diskO b s n wv d :: Es) ∧ v = .int .i64 (roomF n sl.fin : Nat) := by
 have hn := ok.le
 refine ret_of Try.call20 Try.func20 rfl Try.ntmps20 Try.results20 rfl ?_
 refine wc_seq ?_
 refine wc_region ?_
 refine wl_val (v_assign' (by conv => (lhs; whnf))) rfl ?_
 refine wl_nil ?_
 refine then_go ?_
 refine wc_seq ?_
 refine wc_draw TF.mixed ?_
 have st := st.pure (touch_drew _)
 refine fl_val 0 rfl (fun _ => (v_move' (by conv => (lhs; whnf)))) rfl (by kernel_rfl) ?_
 refine fl_val 2 rfl (fun _ => (v_move' (by conv => (lhs; whnf)))) rfl (by kernel_rfl) ?_
 refine fl_val 3 rfl (fun _ => (v_nil rfl)) rfl (by kernel_rfl) ?_
 refine fl_val 4 rfl (fun _ => (v_fa TF.f70_3 rfl)) rfl (by kernel_rfl) ?_
 refine fl_ld 5 rfl (v_load rfl (st.reads (v := .int .i64 sl.fin) 0 rfl TF.t3 rfl)) (by kernel_rfl) ?_
 refine fl_eff1 1 [4, 3, 2] [5] (by kernel_rfl) ⟨obl_ld rfl rfl rfl (v_load rfl (st.reads (v := .int .i64 sl.fin) 0 rfl TF.t3 rfl)), trivial⟩ rfl ?_
 refine wl_call rfl (c_lsize st ok) rfl ?_
 rintro v4 w ⟨t4, rfl⟩
 have st := st.pure t4
 refine wl_nil ⟨rfl, ?_⟩
 refine fl_val 6 rfl (fun _ => (v_sub' (c := ((n / 2 * 64 - sl.fin : Nat) : Int)) rfl rfl (by omega) (by omega) (by omega))) rfl (by kernel_rfl) ?_
 refine fl_val 7 rfl (fun _ => (v_sub' (c := ((n / 2 * 64 - sl.fin : Nat) : Int) - 57) rfl rfl (by omega) (by omega) (by omega))) rfl (by kernel_rfl) ?_
 refine fl_val 8 rfl (fun _ => (v_min rfl rfl)) rfl (by kernel_rfl) ?_
 refine fl_val 9 rfl (fun _ => (v_max rfl rfl)) rfl (by kernel_rfl) ?_
 refine fl_eff1 10 [] [] (by kernel_rfl) ⟨obl_ld rfl rfl rfl (v_load rfl (st.reads (v := .int .i64 sl.fin) 0 rfl TF.t3 rfl)), trivial⟩ rfl ?_
 refine wl_val (v_assign' (by conv => (lhs; whnf))) rfl ?_
 refine wl_nil ⟨rfl, ?_⟩
 refine fl_nil (by kernel_rfl) trivial ?_
 refine then_go ?_
 refine wc_ret ?_
 exact ret1 (v := .int .i64 (max 0 (min (((n / 2 * 64 - sl.fin : Nat) : Int) - 57) 1048576))) rfl ⟨st, by congr 1; unfold roomF; omega⟩
end
end Go.Proofs.Ytnaoafogdplnaaa

namespace Go.Proofs.Ytnaoafogdplnaaa
open Go Go.RowKit K SH DK JR
namespace JR
theorem splice_get {S l : By} {o i : Nat} (h : o + l.length ≤ S.length) : (splice S o l)[i]? = if i < o then S[i]? else if i < o + l.length then l[i - o]? else S[i]? := by
 unfold splice
 have h1 : (S.take o).length = o := by rw [List.length_take]; omega
 by_cases a : i < o
 ·rw [if_pos a, List.append_assoc, List.getElem?_append_left (by omega), List.getElem?_take_of_lt a]
 ·rw [if_neg a]
  by_cases c : i < o + l.length
  ·rw [if_pos c, List.getElem?_append_left (by rw [List.length_append]; omega), List.getElem?_append_right (by omega), h1]
  ·rw [if_neg c, List.getElem?_append_right (by rw [List.length_append]; omega), List.length_append, h1, List.getElem?_drop]
   congr 1
   omega
theorem halfB_get {b : By} {n k i : Nat} : (halfB b n k)[i]? = if i < n then b[k * n + i]? else none := by
 unfold halfB
 rw [List.getElem?_take]
 split
 ·rw [List.getElem?_drop]
 ·rfl
theorem halfB_len {b : By} {n k : Nat} (hk : k ≤ 1) (h : 2 * n ≤ b.length) : (halfB b n k).length = n := by
 unfold halfB
 rw [List.length_take, List.length_drop]
 rcases Nat.le_one_iff_eq_zero_or_eq_one.1 hk with h | h <;> subst h <;> omega
theorem half_other {S l : By} {H k a : Nat} (hk : k ≤ 1) (h : 2 * H ≤ S.length) (ha : a + l.length ≤ H) : halfB (splice S (k * H + a) l) H (1 - k) = halfB S H (1 - k) := by
 apply List.ext_getElem?
 intro i
 rw [halfB_get, halfB_get]
 split
 ·rcases Nat.le_one_iff_eq_zero_or_eq_one.1 hk with hk | hk <;> subst hk
  ·rw [splice_get (by omega), if_neg (by omega), if_neg (by omega)]
  ·rw [splice_get (by omega), if_pos (by omega)]
 ·rfl
theorem half_same {S l : By} {H k a : Nat} (hk : k ≤ 1) (h : 2 * H ≤ S.length) (ha : a + l.length ≤ H) : halfB (splice S (k * H + a) l) H k = splice (halfB S H k) a l := by
 have hkl : k * H ≤ H := by rcases Nat.le_one_iff_eq_zero_or_eq_one.1 hk with hk | hk <;> subst hk <;> omega
 apply List.ext_getElem?
 intro i
 have e : (splice (halfB S H k) a l)[i]? = if i < a then (halfB S H k)[i]? else if i < a + l.length then l[i - a]? else (halfB S H k)[i]? := splice_get (by rw [halfB_len hk h]; exact ha)
 rw [e, halfB_get, halfB_get, splice_get (by omega)]
 by_cases c : i < H
 ·simp only [if_pos c]
  by_cases c1 : i < a
  ·rw [if_pos c1, if_pos (by omega)]
  ·rw [if_neg c1, if_neg (by omega)]
   by_cases c2 : i < a + l.length
   ·rw [if_pos c2, if_pos (by omega)]; congr 1; omega
   ·rw [if_neg c2, if_neg (by omega)]
 ·rw [if_neg c, if_neg (by omega), if_neg (by omega), if_neg c]
structure LogOk (n : Nat) (S : By) (s : LG) (L : List By) : Prop where
 len : S.length = 64 * n
 n8 : 8 ≤ n
 nle : n ≤ 16384
 half : s.half ≤ 1
 fin : s.fin = 64 + sizeL L
 fit : 64 + sizeL L ≤ n / 2 * 64
 here : halfB S (n / 2 * 64) s.half = headB s.gen ++ (allB s.gen 0 L ++ List.replicate (n / 2 * 64 - 64 - sizeL L) 0)
 gen : 0 < s.gen.toNat
 other : (begF (halfB S (n / 2 * 64) (1 - s.half))).toNat < s.gen.toNat + (1 - s.half)
 okr : Okr L
theorem nextF_zeros {g s : UInt64} {k : Nat} : nextF g s (List.replicate k 0) = none := nextF_zero (by rw [List.drop_replicate, rd8_zero]; rfl)
section
variable {n : Nat} {S : By} {s : LG} {L : List By}
theorem LogOk.pick (h : LogOk n S s L) : pickF S (n / 2 * 64) = (s.half, s.gen) := by
 have hb : begF (halfB S (n / 2 * 64) s.half) = s.gen := by rw [h.here]; exact begF_head h.gen
 have ho := h.other
 unfold pickF
 rcases Nat.le_one_iff_eq_zero_or_eq_one.1 h.half with hk | hk
 ·rw [hk] at hb ho ⊢
  have ho : (begF (halfB S (n / 2 * 64) 1)).toNat < s.gen.toNat + 1 := ho
  rw [hb, if_neg]
  intro hlt
  have := UInt64.lt_iff_toNat_lt.1 hlt
  omega
 ·rw [hk] at hb ho ⊢
  have ho : (begF (halfB S (n / 2 * 64) 0)).toNat < s.gen.toNat := ho
  rw [hb, if_pos (UInt64.lt_iff_toNat_lt.2 ho)]
theorem okr_small {L : List By} (h : Okr L) : ∀ x ∈ L, 1 ≤ x.length ∧ x.length < 18446744073709551616 := fun x hx => ⟨(h x hx).1, by have := (h x hx).2; omega⟩
theorem recs_here {H : By} {g : UInt64} {L : List By} {k : Nat} (h : H = headB g ++ (allB g 0 L ++ List.replicate k 0)) (ho : Okr L) : recs g H = L := by
 unfold recs
 have e : H.drop 64 = allB g 0 L ++ List.replicate k 0 := by rw [h]; exact List.drop_left' (length_headB g)
 rw [e]
 refine recs_all (okr_small ho) nextF_zeros ?_
 rw [h, List.length_append, List.length_append, length_allB]
 have := sizeL_ge (l := L)
 omega
theorem LogOk.recs (h : LogOk n S s L) : recs s.gen (halfB S (n / 2 * 64) s.half) = L := recs_here h.here h.okr
theorem hlf_eq {n : Nat} : 64 * n / 64 / 2 * 64 = n / 2 * 64 := by omega
theorem LogOk.read (h : LogOk n S s L) : readF S = (s.gen, L, 0) := by
 have hn := h.n8
 unfold readF
 rw [h.len, hlf_eq, if_neg (by omega), h.pick]
 show (if s.gen = 0 then _ else _) = _
 rw [if_neg (fun e => by have := h.gen; rw [e] at this; exact absurd this (by decide)), h.recs]
theorem LogOk.app (h : LogOk n S s L) {x : By} : ∃ S' s', appD n (calm S) s L x = (calm S', s', ((appR L x n : Nat) : Int)) ∧ LogOk n S' s' (if appR L x n = 0 then L ++ [x] else L) ∧ s'.gen = s.gen ∧ s'.half = s.half := by
 have hn := h.n8
 have hfit := h.fit
 have hfin := h.fin
 by_cases hc : checkE x ≠ 0
 ·have hR : appR L x n = 1 := by unfold appR; rw [if_pos hc]
  rw [hR]
  exact ⟨S, s, by unfold appD; rw [if_pos hc]; rfl, by rw [if_neg (by decide)]; exact h, rfl, rfl⟩
 ·by_cases hf : n / 2 * 64 < s.fin + recL x.length
  ·have hR : appR L x n = 13 := by unfold appR; rw [if_neg hc, sizeL_snoc, if_neg (by omega)]
   rw [hR]
   exact ⟨S, s, by unfold appD; rw [if_neg hc, if_pos hf]; rfl, by rw [if_neg (by decide)]; exact h, rfl, rfl⟩
  ·have hR : appR L x n = 0 := by unfold appR; rw [if_neg hc, sizeL_snoc, if_pos (by omega)]
   rw [hR]
   have hrl := length_recB s.gen (UInt64.ofNat L.length) x
   have hk := h.half
   have hmod := sizeL_mod (l := L)
   have hpos : 64 * ((s.half * (n / 2 * 64) + s.fin) / 64) = s.half * (n / 2 * 64) + s.fin := by rcases Nat.le_one_iff_eq_zero_or_eq_one.1 hk with hk | hk <;> rw [hk] <;> omega
   have hle : s.half * (n / 2 * 64) ≤ n / 2 * 64 := by rcases Nat.le_one_iff_eq_zero_or_eq_one.1 hk with hk | hk <;> rw [hk] <;> omega
   have h2 : 2 * (n / 2 * 64) ≤ S.length := by rw [h.len]; omega
   have hput : putD n (calm S) ((s.half * (n / 2 * 64) + s.fin) / 64) (recB s.gen (UInt64.ofNat L.length) x) = (calm (splice S (s.half * (n / 2 * 64) + s.fin) (recB s.gen (UInt64.ofNat L.length) x)), 0) := by
    rw [put_calm h.len (by rw [hrl]; unfold recL; omega) (by rw [hpos, hrl]; omega), hpos]
   refine ⟨splice S (s.half * (n / 2 * 64) + s.fin) (recB s.gen (UInt64.ofNat L.length) x), { s with fin := s.fin + recL x.length }, by unfold appD; rw [if_neg hc, if_neg hf, hput, if_neg (by simp)]; rfl, ?_, rfl, rfl⟩
   rw [if_pos rfl]
   have hz : n / 2 * 64 - 64 - sizeL L = recL x.length + (n / 2 * 64 - 64 - sizeL (L ++ [x])) := by rw [sizeL_snoc]; omega
   refine ⟨by rw [length_splice (by rw [hrl, h.len]; omega)]; exact h.len, hn, h.nle, hk, by rw [sizeL_snoc]; show s.fin + recL x.length = _; omega, by rw [sizeL_snoc]; omega, ?_, h.gen, ?_, ?_⟩
   ·show halfB (splice S (s.half * (n / 2 * 64) + s.fin) _) _ s.half = _
    rw [half_same hk h2 (by rw [hrl]; omega), h.here, hz, ← List.replicate_append_replicate]
    have hl : (headB s.gen ++ allB s.gen 0 L).length = s.fin := by rw [List.length_append, length_headB, length_allB]; omega
    unfold splice
    rw [← List.append_assoc (headB s.gen), ← List.append_assoc (headB s.gen ++ allB s.gen 0 L)]
    rw [List.append_assoc (headB s.gen ++ allB s.gen 0 L), List.take_left' hl, ← List.append_assoc (headB s.gen ++ allB s.gen 0 L)]
    rw [List.drop_left' (by rw [List.length_append, hl, List.length_replicate, hrl])]
    rw [allB_snoc, Nat.zero_add, List.append_assoc, List.append_assoc, List.append_assoc]
   ·show (begF (halfB (splice S (s.half * (n / 2 * 64) + s.fin) _) _ (1 - s.half))).toNat < s.gen.toNat + (1 - s.half)
    rw [half_other hk h2 (by rw [hrl]; omega)]
    exact h.other
   ·intro y hy
    rcases List.mem_append.1 hy with hy | hy
    ·exact h.okr y hy
    ·rw [List.mem_singleton.1 hy]; exact checkE_len hc
theorem over_ok (hl : S.length = 64 * n) (hn : 8 ≤ n) (hn2 : n ≤ 16384) (hk : s.half ≤ 1) (hg : (begF (halfB S (n / 2 * 64) s.half)).toNat ≤ s.gen.toNat) (hg2 : s.gen.toNat + 1 < 18446744073709551616) (ho : Okr L) :
  (sizeL L ≤ n / 2 * 64 - 64 → ∃ S', overD n (calm S) s L = (calm S', ⟨1 - s.half, s.gen + 1, 64 + sizeL L⟩, 0) ∧ LogOk n S' ⟨1 - s.half, s.gen + 1, 64 + sizeL L⟩ L) ∧ (¬ sizeL L ≤ n / 2 * 64 - 64 → overD n (calm S) s L = (calm S, s, 13)) := by
 refine ⟨fun hf => ?_, fun hf => by unfold overD; rw [if_pos (by omega)]⟩
 obtain ⟨hh, hhe⟩ : ∃ hh, hh = 1 - s.half := ⟨_, rfl⟩
 obtain ⟨H, hH⟩ : ∃ H, H = n / 2 * 64 := ⟨_, rfl⟩
 have hh1 : hh ≤ 1 := by omega
 have hback : 1 - hh = s.half := by omega
 have h64 : 64 * (hh * (n / 2)) = hh * H := by rcases Nat.le_one_iff_eq_zero_or_eq_one.1 hh1 with h | h <;> rw [h] <;> omega
 have h65 : 64 * (hh * (n / 2) + 1) = hh * H + 64 := by omega
 have hle : hh * H ≤ H := by rcases Nat.le_one_iff_eq_zero_or_eq_one.1 hh1 with h | h <;> rw [h] <;> omega
 have hmod := sizeL_mod (l := L)
 obtain ⟨Z, hZ⟩ : ∃ Z : By, Z = List.replicate H 0 := ⟨_, rfl⟩
 have hZl : Z.length = H := by rw [hZ, List.length_replicate]
 obtain ⟨B, hB⟩ : ∃ B, B = allB (s.gen + 1) 0 L := ⟨_, rfl⟩
 have hBl : B.length = sizeL L := by rw [hB, length_allB]
 obtain ⟨D, hD⟩ : ∃ D, D = headB (s.gen + 1) := ⟨_, rfl⟩
 have hDl : D.length = 64 := by rw [hD, length_headB]
 have p1 : putD n (calm S) (hh * (n / 2)) Z = (calm (splice S (hh * H + 0) Z), 0) := by rw [put_calm hl (by omega) (by omega), h64, Nat.add_zero]
 have l1 : (splice S (hh * H + 0) Z).length = 64 * n := by rw [length_splice (by omega)]; exact hl
 have p2 : putD n (calm (splice S (hh * H + 0) Z)) (hh * (n / 2) + 1) B = (calm (splice (splice S (hh * H + 0) Z) (hh * H + 64) B), 0) := by rw [put_calm l1 (by omega) (by omega), h65]
 have l2 : (splice (splice S (hh * H + 0) Z) (hh * H + 64) B).length = 64 * n := by rw [length_splice (by omega)]; exact l1
 have p3 : putD n (calm (splice (splice S (hh * H + 0) Z) (hh * H + 64) B)) (hh * (n / 2)) D = (calm (splice (splice (splice S (hh * H + 0) Z) (hh * H + 64) B) (hh * H + 0) D), 0) := by rw [put_calm l2 (by omega) (by omega), h64, Nat.add_zero]
 have hov : overD n (calm S) s L = (calm (splice (splice (splice S (hh * H + 0) Z) (hh * H + 64) B) (hh * H + 0) D), ⟨hh, s.gen + 1, 64 + sizeL L⟩, 0) := by
  unfold overD
  rw [← hhe, ← hH, ← hZ, ← hB, ← hD, if_neg (by omega)]
  simp only [p1, p2, p3]
  rfl
 refine ⟨_, by rw [← hhe]; exact hov, ?_⟩
 rw [← hhe]
 have hgs : (s.gen + 1).toNat = s.gen.toNat + 1 := by rw [UInt64.toNat_add]; show (s.gen.toNat + 1) % 18446744073709551616 = _; omega
 refine ⟨by rw [length_splice (by omega)]; exact l2, hn, hn2, hh1, rfl, by omega, ?_, by show 0 < (s.gen + 1).toNat; omega, ?_, ho⟩
 ·show halfB _ (n / 2 * 64) hh = _
  rw [← hH, half_same hh1 (by omega) (by omega), half_same hh1 (by omega) (by omega), half_same hh1 (by omega) (by omega)]
  have hs := halfB_len (b := S) hh1 (show 2 * H ≤ S.length by omega)
  have e1 : splice (halfB S H hh) 0 Z = Z := by
   unfold splice
   rw [List.drop_of_length_le (by omega)]
   simp
  rw [e1]
  have e2 : splice Z 64 B = List.replicate 64 0 ++ (B ++ List.replicate (H - 64 - sizeL L) 0) := by
   unfold splice
   rw [hZ, List.take_replicate, List.drop_replicate, Nat.min_eq_left (by omega), List.append_assoc, hBl]
   congr 3
   omega
  rw [e2]
  unfold splice
  rw [Nat.zero_add, List.drop_left' (by rw [List.length_replicate, hDl]), List.take_zero, List.nil_append, hD, hB]
 ·show (begF (halfB _ (n / 2 * 64) (1 - hh))).toNat < (s.gen + 1).toNat + (1 - hh)
  rw [← hH, half_other hh1 (by omega) (by omega), half_other hh1 (by omega) (by omega), half_other hh1 (by omega) (by omega), hback, hH]
  omega
theorem LogOk.res (h : LogOk n S s L) (hg2 : s.gen.toNat + 1 < 18446744073709551616) {M : List By} : ∃ S' s', resD n (calm S) s M = (calm S', s', ((resR M n : Nat) : Int)) ∧ LogOk n S' s' (if resR M n = 0 then M else L) ∧ s'.gen = (if resR M n = 0 then s.gen + 1 else s.gen) := by
 unfold resD resR
 by_cases hb : ∃ b ∈ M, checkE b ≠ 0
 ·rw [if_pos hb, if_pos hb]
  exact ⟨S, s, rfl, by rw [if_neg (by decide)]; exact h, by rw [if_neg (by decide)]⟩
 ·rw [if_neg hb, if_neg hb]
  have ho : Okr M := fun x hx => checkE_len fun hz => hb ⟨x, hx, hz⟩
  have hbe : begF (halfB S (n / 2 * 64) s.half) = s.gen := by rw [h.here]; exact begF_head h.gen
  obtain ⟨o1, o2⟩ := over_ok (L := M) h.len h.n8 h.nle h.half (by rw [hbe]; exact Nat.le_refl _) hg2 ho
  by_cases hf : sizeL M ≤ n / 2 * 64 - 64
  ·obtain ⟨S', h1, h2⟩ := o1 hf
   rw [if_pos hf]
   exact ⟨S', _, h1, by rw [if_pos rfl]; exact h2, by rw [if_pos rfl]⟩
  ·rw [if_neg hf]
   exact ⟨S, s, o2 hf, by rw [if_neg (by decide)]; exact h, by rw [if_neg (by decide)]⟩
def openD (n : Nat) (S : By) : DS × LG × List By × Int :=
  if (pickF S (n / 2 * 64)).2 = 0 then ((overD n (calm S) ⟨1, 0, 0⟩ []).1, (overD n (calm S) ⟨1, 0, 0⟩ []).2.1, [], (overD n (calm S) ⟨1, 0, 0⟩ []).2.2) else
  if ∃ c ∈ (halfB S (n / 2 * 64) (pickF S (n / 2 * 64)).1).drop (64 + sizeL (JR.recs (pickF S (n / 2 * 64)).2 (halfB S (n / 2 * 64) (pickF S (n / 2 * 64)).1))), c ≠ 0 then
    ((overD n (calm S) ⟨(pickF S (n / 2 * 64)).1, (pickF S (n / 2 * 64)).2, 64 + sizeL (JR.recs (pickF S (n / 2 * 64)).2 (halfB S (n / 2 * 64) (pickF S (n / 2 * 64)).1))⟩ (JR.recs (pickF S (n / 2 * 64)).2 (halfB S (n / 2 * 64) (pickF S (n / 2 * 64)).1))).1,
     (overD n (calm S) ⟨(pickF S (n / 2 * 64)).1, (pickF S (n / 2 * 64)).2, 64 + sizeL (JR.recs (pickF S (n / 2 * 64)).2 (halfB S (n / 2 * 64) (pickF S (n / 2 * 64)).1))⟩ (JR.recs (pickF S (n / 2 * 64)).2 (halfB S (n / 2 * 64) (pickF S (n / 2 * 64)).1))).2.1,
     JR.recs (pickF S (n / 2 * 64)).2 (halfB S (n / 2 * 64) (pickF S (n / 2 * 64)).1),
     (overD n (calm S) ⟨(pickF S (n / 2 * 64)).1, (pickF S (n / 2 * 64)).2, 64 + sizeL (JR.recs (pickF S (n / 2 * 64)).2 (halfB S (n / 2 * 64) (pickF S (n / 2 * 64)).1))⟩ (JR.recs (pickF S (n / 2 * 64)).2 (halfB S (n / 2 * 64) (pickF S (n / 2 * 64)).1))).2.2)
  else (calm S, ⟨(pickF S (n / 2 * 64)).1, (pickF S (n / 2 * 64)).2, 64 + sizeL (JR.recs (pickF S (n / 2 * 64)).2 (halfB S (n / 2 * 64) (pickF S (n / 2 * 64)).1))⟩, JR.recs (pickF S (n / 2 * 64)).2 (halfB S (n / 2 * 64) (pickF S (n / 2 * 64)).1), 0)
theorem pick_le {H : Nat} : (begF (halfB S H (1 - (pickF S H).1))).toNat ≤ (pickF S H).2.toNat ∧ begF (halfB S H (pickF S H).1) = (pickF S H).2 ∧ ((pickF S H).1 = 1 → (begF (halfB S H 0)).toNat < (pickF S H).2.toNat) := by
 unfold pickF
 split
 ·rename_i h
  have := UInt64.lt_iff_toNat_lt.1 h
  exact ⟨Nat.le_of_lt this, rfl, fun _ => this⟩
 ·rename_i h
  refine ⟨?_, rfl, fun h => by cases h⟩
  rcases Nat.lt_or_ge (begF (halfB S H 0)).toNat (begF (halfB S H 1)).toNat with h' | h'
  ·exact (h (UInt64.lt_iff_toNat_lt.2 h')).elim
  ·exact h'
theorem open_ok (hl : S.length = 64 * n) (hn : 8 ≤ n) (hn2 : n ≤ 16384) (hg : (pickF S (n / 2 * 64)).2.toNat + 1 < 18446744073709551616) :
  ∃ S' s' L, openD n S = (calm S', s', L, 0) ∧ LogOk n S' s' L ∧ (readF S).2.1 = L ∧ (s'.gen = (readF S).1 ∨ s'.gen = (readF S).1 + 1) ∧ s'.gen.toNat ≤ (pickF S (n / 2 * 64)).2.toNat + 1 := by
 obtain ⟨H, hH⟩ : ∃ H, H = n / 2 * 64 := ⟨_, rfl⟩
 have hrd : readF S = if (pickF S H).2 = 0 then (0, [], 0) else ((pickF S H).2, JR.recs (pickF S H).2 (halfB S H (pickF S H).1), 0) := by
  unfold readF
  rw [hl, hlf_eq, ← hH, if_neg (by omega)]
 rw [← hH] at hg
 rw [hrd, ← hH]
 obtain ⟨q1, q2, q3⟩ := pick_le (S := S) (H := H)
 have hk := pickF_le (b := S) (n := H)
 unfold openD
 rw [← hH]
 obtain ⟨k, hke⟩ : ∃ k, k = (pickF S H).1 := ⟨_, rfl⟩
 obtain ⟨g, hge⟩ : ∃ g, g = (pickF S H).2 := ⟨_, rfl⟩
 rw [← hke, ← hge] at q1 q2 q3 ⊢
 rw [← hge] at hg
 rw [← hke] at hk
 by_cases hg0 : g = 0
 ·rw [if_pos hg0, if_pos hg0]
  have hb1 : (begF (halfB S H 1)).toNat ≤ 0 := by
   rw [hg0] at q1 q2
   rcases Nat.le_one_iff_eq_zero_or_eq_one.1 hk with h | h
   ·rw [h] at q1; exact q1
   ·rw [h] at q2; rw [q2]; exact Nat.le_refl _
  obtain ⟨o1, _⟩ := over_ok (n := n) (S := S) (s := ⟨1, 0, 0⟩) (L := []) hl hn hn2 (Nat.le_refl _) (by rw [← hH]; exact hb1) (by decide) (by intro x hx; cases hx)
  obtain ⟨S', h1, h2⟩ := o1 (Nat.zero_le _)
  rw [h1]
  exact ⟨S', _, [], rfl, h2, rfl, .inr rfl, by rw [hg0]; exact Nat.le_refl _⟩
 ·rw [if_neg hg0, if_neg hg0]
  have hgp : 0 < g.toNat := by
   rcases Nat.eq_zero_or_pos g.toNat with h | h
   ·exact (hg0 (UInt64.toNat_inj.1 h)).elim
   ·exact h
  obtain ⟨half, hhf⟩ : ∃ half, half = halfB S H k := ⟨_, rfl⟩
  have hhl : half.length = H := by rw [hhf]; exact halfB_len hk (by omega)
  rw [← hhf] at q2 ⊢
  obtain ⟨r1, r2, r3, r4⟩ := recs_there (g := g) (f := half.length) (k := 0) (b := half.drop 64) (by rw [List.length_drop]; omega)
  have hrl : recsF g half.length 0 (half.drop 64) = JR.recs g half := rfl
  rw [hrl] at r1 r2 r3 r4
  rw [List.length_drop] at r1 r4
  obtain ⟨L, hL⟩ : ∃ L, L = JR.recs g half := ⟨_, rfl⟩
  rw [← hL] at r1 r2 r3 r4 ⊢
  have ho : Okr L := fun x hx => ⟨(r4 x hx).1, by have := (r4 x hx).2; omega⟩
  have hmod := sizeL_mod (l := L)
  by_cases hnz : ∃ c ∈ half.drop (64 + sizeL L), c ≠ 0
  ·rw [if_pos hnz]
   obtain ⟨o1, _⟩ := over_ok (n := n) (S := S) (s := ⟨k, g, 64 + sizeL L⟩) (L := L) hl hn hn2 hk (by rw [← hH, ← hhf, q2]; exact Nat.le_refl _) hg ho
   obtain ⟨S', h1, h2⟩ := o1 (by omega)
   rw [h1]
   exact ⟨S', _, L, rfl, h2, rfl, .inr rfl, by show (g + 1).toNat ≤ _; rw [UInt64.toNat_add]; show (g.toNat + 1) % 18446744073709551616 ≤ _; omega⟩
  ·rw [if_neg hnz]
   refine ⟨S, _, L, rfl, ⟨hl, hn, hn2, hk, rfl, by omega, ?_, hgp, ?_, ho⟩, rfl, .inl rfl, Nat.le_succ _⟩
   ·show halfB S (n / 2 * 64) k = headB g ++ (allB g 0 L ++ List.replicate (n / 2 * 64 - 64 - sizeL L) 0)
    rw [← hH, ← hhf, ← begF_is q2 hgp, ← r2]
    have hz : half.drop (64 + sizeL L) = List.replicate (H - 64 - sizeL L) 0 := by
     rw [List.eq_replicate_iff]
     refine ⟨by rw [List.length_drop]; omega, fun c hc => ?_⟩
     by_cases hc0 : c = 0
     ·exact hc0
     ·exact (hnz ⟨c, hc, hc0⟩).elim
    rw [← hz, ← List.drop_drop, List.take_append_drop, List.take_append_drop]
   ·show (begF (halfB S (n / 2 * 64) (1 - k))).toNat < g.toNat + (1 - k)
    rw [← hH]
    rcases Nat.le_one_iff_eq_zero_or_eq_one.1 hk with h | h
    ·rw [h] at q1 ⊢; omega
    ·rw [h]; exact q3 h
theorem LogOk.opens (h : LogOk n S s L) : openD n S = (calm S, s, L, 0) := by
 have hp := h.pick
 have hr := h.recs
 unfold openD
 rw [hp]
 show (if s.gen = 0 then _ else if ∃ c ∈ (halfB S (n / 2 * 64) s.half).drop (64 + sizeL (JR.recs s.gen (halfB S (n / 2 * 64) s.half))), c ≠ 0 then _ else (calm S, (⟨s.half, s.gen, 64 + sizeL (JR.recs s.gen (halfB S (n / 2 * 64) s.half))⟩ : LG), JR.recs s.gen (halfB S (n / 2 * 64) s.half), (0 : Int))) = _
 rw [hr, if_neg (fun e => by have := h.gen; rw [e] at this; exact absurd this (by decide)), if_neg]
 ·have hf := h.fin
  cases s
  simp only at hf
  rw [hf]
 ·rintro ⟨c, hc, hc0⟩
  rw [h.here, ← List.append_assoc, List.drop_left' (by rw [List.length_append, length_headB, length_allB])] at hc
  exact hc0 (List.mem_replicate.1 hc).2
theorem begF_zeros {k : Nat} : begF (List.replicate k 0) = 0 := by
 unfold begF
 rw [List.drop_replicate, rd8_zero, if_neg (fun h => absurd h.1 (by decide))]
theorem open_new {n : Nat} (hn : 8 ≤ n) (hn2 : n ≤ 16384) : ∃ S' s', openD n (List.replicate (64 * n) 0) = (calm S', s', [], 0) ∧ LogOk n S' s' [] ∧ s'.gen = 1 := by
 have hp : (pickF (List.replicate (64 * n) 0) (n / 2 * 64)).2 = 0 := by
  unfold pickF halfB
  rw [List.drop_replicate, List.take_replicate, List.drop_replicate, List.take_replicate, begF_zeros, begF_zeros]
  rfl
 obtain ⟨S', s', L, h1, h2, h3, _, h5⟩ := open_ok (S := List.replicate (64 * n) 0) (by simp) hn hn2 (by rw [hp]; decide)
 have hL : L = [] := by
  rw [← h3]
  unfold readF
  rw [List.length_replicate, hlf_eq, if_neg (by omega), if_pos hp]
 subst hL
 refine ⟨S', s', h1, h2, ?_⟩
 rw [hp] at h5
 have := h2.gen
 have h5 : s'.gen.toNat ≤ 1 := h5
 exact UInt64.toNat_inj.1 (show s'.gen.toNat = 1 by omega)
end
end JR
end Go.Proofs.Ytnaoafogdplnaaa

namespace Go.Proofs.Ytnaoafogdplnaaa
open Go Go.RowKit K SH DK JR
section
variable {m0 m : Mem} {F : List Nat} {w0 w : World} {Es : List Ent}
theorem ok_calm {n : Nat} {S : By} (hl : S.length = 64 * n) (h1 : 1 ≤ n) (h2 : n ≤ 16384) : (calm S).ok n := ⟨h1, hl, h2, by intro x hx; cases hx⟩
theorem rdy_calm {n k : Nat} {S : By} (hl : S.length = 64 * n) (h1 : 1 ≤ n) (h2 : n ≤ 16384) : Rdy n (calm S) k := ⟨ok_calm hl h1 h2, ⟨Int.le_refl _, show (-1 : Int) ≤ 9223372036854775807 by decide⟩, Nat.zero_le _⟩
def OpenOut (m0 m : Mem) (w0 w' : World) (Es : List Ent) (b s n : Nat) (o : DS × LG × List By × Int) (v : Value) : Prop :=
 ∃ m' wv' g lv' N', (∀ k o, m k = some o → m' k = some o) ∧ v = .tuple #[.pointer (some ⟨g, 0, none⟩), .int .i64 o.2.2.2] ∧ Pcs m' N' ∧ N'.map (·.1) = o.2.2.1 ∧ St m0 m' [] w0 w' (logB g b o.2.1 lv' :: lrE lv' N' :: diskO b s n wv' o.1 :: Es)
theorem c_open {b s n : Nat} {wv : Value} {S : By} (st : St m0 m [] w0 w (diskO b s n wv (calm S) :: Es)) (hl : S.length = 64 * n) (hn : 8 ≤ n) (hn2 : n ≤ 16384) (h0 : (openD n S).2.2.2 = 0) :
  Ret Try.prog 17 #[.pointer (some ⟨b, 0, none⟩)] w fun v w' => OpenOut m0 m w0 w' Es b s n (openD n S) v := by
 have ok := ok_calm (n := n) hl (by omega) hn2
 have hr : Rdy n (calm S) 100000 := rdy_calm hl (by omega) hn2
 have hmm0 : ∀ k o, m k = some o → m k = some o := fun _ _ h => h
 have hop := openD.eq_1 n S
 refine ret_of Try.call17 Try.func17 rfl Try.ntmps17 Try.results17 rfl ?_
 refine wc_seq ?_
 refine wc_region ?_
 refine wl_val (v_assign' (by conv => (lhs; whnf))) rfl ?_
 refine wl_val (v_assign' (by conv => (lhs; whnf))) rfl ?_
 refine wl_nil ?_
 refine then_go ?_
 refine wc_seq ?_
 refine wc_seq ?_
 refine wc_region ?_
 refine wl_val (v_move' (by conv => (lhs; whnf))) rfl ?_
 refine wl_val (v_eq_nil (p := some ⟨b, 0, none⟩) Try.underlying23 rfl rfl) rfl ?_
 refine wl_val (v_move' (by conv => (lhs; whnf))) rfl ?_
 refine wl_on rfl rfl ?_
 refine wl_val (v_move' (by conv => (lhs; whnf))) rfl ?_
 refine wl_on rfl rfl ?_
 refine wl_call rfl (c_size (im_heapM _) (disk_at 0 st rfl ok)) rfl ?_
 rintro v14 w ⟨rfl, rfl⟩
 refine wl_on rfl rfl ?_
 refine wl_val (v_lss rfl rfl) rfl ?_
 refine wl_val (v_pick rfl) rfl ?_
 refine wl_nil ?_
 refine then_go ?_
 refine wc_false (congrArg Value.bool (decide_eq_false (by omega))) ?_
 refine wc_skip ?_
 refine then_go ?_
 refine wc_seq ?_
 refine wc_region ?_
 refine wl_val (v_move' (by conv => (lhs; whnf))) rfl ?_
 refine wl_call rfl (c_dump (im_heapM _) (disk_at 0 st rfl ok)) rfl ?_
 rintro v18 w ⟨t18, m1, hf1, hi1, hS⟩
 obtain ⟨m2, hmm2, hm12, st⟩ := st.absorb t18 hf1 hi1
 have hS : SlM m2 v18 1 S.length (bs S) := hS.mono hm12
 obtain ⟨sa, sc, hv18, hsc⟩ := hS.opn
 subst hv18
 refine wl_val (v_assign' (by conv => (lhs; whnf))) rfl ?_
 refine wl_nil ?_
 refine then_go ?_
 refine wc_seq ?_
 refine wc_region ?_
 refine wl_val (v_move' (by conv => (lhs; whnf))) rfl ?_
 refine wl_val (v_build (c' := #[.pointer (some ⟨b, 0, none⟩), .int .i64 0, .int .u64 0, .int .i64 0, .slice none 0 0]) [(0, .pointer (some ⟨b, 0, none⟩))] TF.z70 TF.p70 rfl ⟨0, 1, rfl, rfl, by decide, rfl⟩) rfl ?_
 refine wl_box (v := .agg #[.pointer (some ⟨b, 0, none⟩), .int .i64 0, .int .u64 0, .int .i64 0, .slice none 0 0]) rfl st rfl ?_
 intro g w st
 have st : St m0 m2 [] w0 w (logB g b ⟨0, 0, 0⟩ (.slice none 0 0) :: diskO b s n wv (calm S) :: Es) := st
 refine wl_val (v_assign' (by conv => (lhs; whnf))) rfl ?_
 refine wl_nil ?_
 refine then_go ?_
 refine wc_seq ?_
 refine wc_region ?_
 refine wl_val (v_move' (by conv => (lhs; whnf))) rfl ?_
 refine wl_call rfl (c_lsize st ok) rfl ?_
 rintro v23 w ⟨t23, rfl⟩
 have st := st.pure t23
 obtain ⟨H, hH⟩ : ∃ H, H = n / 2 * 64 := ⟨_, rfl⟩
 rw [← hH]
 refine wl_val (v_assign' (by conv => (lhs; whnf))) rfl ?_
 refine wl_nil ?_
 refine then_go ?_
 refine wc_seq ?_
 refine wc_region ?_
 refine wl_val (v_move' (by conv => (lhs; whnf))) rfl ?_
 refine wl_val (v_move' (by conv => (lhs; whnf))) rfl ?_
 refine wl_val (v_move' (by conv => (lhs; whnf))) rfl ?_
 refine wl_val (v_move' (by conv => (lhs; whnf))) rfl ?_
 refine wl_call rfl (c_pick (n := H) st.im hS (by omega) (by omega) (by omega)) rfl ?_
 rintro v29 w ⟨t29, rfl⟩
 have st := st.pure t29
 obtain ⟨q1, q2, q3⟩ := pick_le (S := S) (H := H)
 have hk := pickF_le (b := S) (n := H)
 obtain ⟨k, hke⟩ : ∃ k, k = (pickF S H).1 := ⟨_, rfl⟩
 obtain ⟨gn, hge⟩ : ∃ g, g = (pickF S H).2 := ⟨_, rfl⟩
 rw [← hH, ← hke, ← hge] at hop
 rw [← hke, ← hge] at q1 q2 q3 ⊢
 rw [← hke] at hk
 have hkl : k * H ≤ H := by rcases Nat.le_one_iff_eq_zero_or_eq_one.1 hk with h | h <;> rw [h] <;> omega
 refine wl_val (v_move' (by conv => (lhs; whnf))) rfl ?_
 refine wl_val (v_extract rfl rfl) rfl ?_
 refine wl_val (v_extract rfl rfl) rfl ?_
 refine wl_val (v_nil rfl) rfl ?_
 refine wl_val (v_fa TF.f70_1 rfl) rfl ?_
 refine wl_store1 0 st rfl TF.t3 rfl (by conv => (lhs; whnf)) rfl (by first | exact lt_ok rfl | decide | simp) ?_
 intro w st
 refine wl_val (v_nil rfl) rfl ?_
 refine wl_val (v_fa TF.f70_2 rfl) rfl ?_
 refine wl_store1 0 st rfl TF.t42 rfl (by conv => (lhs; whnf)) rfl (by first | exact lt_ok rfl | decide | simp) ?_
 intro w st
 have st : St m0 m2 [] w0 w (logB g b ⟨k, gn, 0⟩ (.slice none 0 0) :: diskO b s n wv (calm S) :: Es) := st
 refine wl_nil ?_
 refine then_go ?_
 refine wc_seq ?_
 refine wc_seq ?_
 refine wc_region ?_
 refine wl_val (v_move' (by conv => (lhs; whnf))) rfl ?_
 refine wl_val (v_nil rfl) rfl ?_
 refine wl_val (v_fa TF.f70_2 rfl) rfl ?_
 refine wl_val (v_load rfl (st.reads (v := u64 gn) 0 rfl TF.t42 rfl)) rfl ?_
 refine wl_val (v_eql64 (q := 0) rfl rfl) rfl ?_
 refine wl_nil ?_
 refine then_go ?_
 refine wc_if rfl (fun h40 => ?_) (fun h40 => ?_)
 ·refine wc_seq ?_
  refine wc_region ?_
  refine wl_val (v_move' (by conv => (lhs; whnf))) rfl ?_
  refine wl_val (v_nil rfl) rfl ?_
  refine wl_val (v_fa TF.f70_1 rfl) rfl ?_
  refine wl_store1 0 st rfl TF.t3 rfl (by conv => (lhs; whnf)) rfl (by first | exact lt_ok rfl | decide | simp) ?_
  intro w st
  have st : St m0 m2 [] w0 w (logB g b ⟨1, gn, 0⟩ (.slice none 0 0) :: diskO b s n wv (calm S) :: Es) := st
  refine wl_nil ?_
  refine then_go ?_
  refine wc_seq ?_
  refine wc_region ?_
  refine wl_val (v_move' (by conv => (lhs; whnf))) rfl ?_
  refine wl_val (v_move' (by conv => (lhs; whnf))) rfl ?_
  rw [if_pos h40] at hop
  rw [h40] at st
  refine wl_call rfl (c_over (N := []) st hr hn (Nat.le_refl _) ⟨SlM.nil, by intro x hx; cases hx⟩ (by intro x hx; cases hx) (Nat.zero_le _)) rfl ?_
  rintro v46 w ⟨m3, wv3, hmm3, rfl, hbad, hok⟩
  have hz : (overD n (calm S) ⟨1, 0, 0⟩ []).2.2 = 0 := by rw [hop] at h0; exact h0
  obtain ⟨lv', N', hP', hNN, st⟩ := hok hz
  refine wl_val (v_assign' (by conv => (lhs; whnf))) rfl ?_
  refine wl_val (v_assign' (by conv => (lhs; whnf))) rfl ?_
  refine wl_nil ?_
  refine then_go ?_
  refine wc_ret (then_ret ?_)
  refine ret2 rfl rfl ⟨m3, wv3, g, lv', N', fun k o h => hmm3 k o (hmm2 k o h), by rw [hop]; rfl, hP', by rw [hop]; exact hNN, by rw [hop]; exact st⟩
 ·refine wc_skip ?_
  refine then_go ?_
  refine wc_seq ?_
  rw [if_neg h40] at hop
  obtain ⟨half, hhf⟩ : ∃ half, half = halfB S H k := ⟨_, rfl⟩
  have hhl : half.length = H := by rw [hhf]; exact halfB_len hk (by omega)
  have hh : SlM m2 (.slice (sliceOff sa sc (k * H) 1) half.length (sc - k * H)) 1 half.length (bs half) := by
   have h := hS.partB (k * H) (k * H + H) (by omega) (by omega)
   rw [Nat.add_sub_cancel_left] at h
   rw [hhl]
   have e : (S.drop (k * H)).take H = half := by rw [hhf]; rfl
   rw [e, hhl] at h
   exact h
  rw [← hhf] at hop q2
  refine wc_draw TF.mixed ?_
  have st := st.pure (touch_drew _)
  refine fl_val 0 rfl (fun _ => (v_move' (by conv => (lhs; whnf)))) rfl (by kernel_rfl) ?_
  refine fl_val 1 rfl (fun _ => (v_move' (by conv => (lhs; whnf)))) rfl (by kernel_rfl) ?_
  refine fl_val 2 rfl (fun _ => (v_nil rfl)) rfl (by kernel_rfl) ?_
  refine fl_val 3 rfl (fun _ => (v_fa TF.f70_1 rfl)) rfl (by kernel_rfl) ?_
  refine fl_ld 4 rfl (v_load rfl (st.reads (v := .int .i64 k) 0 rfl TF.t3 rfl)) (by kernel_rfl) ?_
  refine fl_val 5 rfl (fun _ => (v_move' (by conv => (lhs; whnf)))) rfl (by kernel_rfl) ?_
  refine fl_val 6 rfl (fun _ => (v_mul' (c := ((k * H : Nat) : Int)) rfl rfl (Int.natCast_mul _ _).symm (by omega) (by omega))) rfl (by kernel_rfl) ?_
  refine fl_val 7 rfl (fun _ => (v_move' (by conv => (lhs; whnf)))) rfl (by kernel_rfl) ?_
  refine fl_val 8 rfl (fun _ => (v_nil rfl)) rfl (by kernel_rfl) ?_
  refine fl_val 9 rfl (fun _ => (v_fa TF.f70_1 rfl)) rfl (by kernel_rfl) ?_
  refine fl_ld 10 rfl (v_load rfl (st.reads (v := .int .i64 k) 0 rfl TF.t3 rfl)) (by kernel_rfl) ?_
  refine fl_val 11 rfl (fun _ => (v_add' (c := ((k + 1 : Nat) : Int)) rfl rfl (by omega) (by omega) (by omega))) rfl (by kernel_rfl) ?_
  refine fl_val 12 rfl (fun _ => (v_move' (by conv => (lhs; whnf)))) rfl (by kernel_rfl) ?_
  refine fl_val 13 rfl (fun _ => (v_mul' (c := ((k * H + H : Nat) : Int)) rfl rfl (by rw [Int.natCast_add, Int.natCast_add, Int.natCast_mul, Int.add_mul]; omega) (by omega) (by omega))) rfl (by kernel_rfl) ?_
  refine fl_val 14 rfl (fun _ => (v_to (v' := .slice (sliceOff sa sc (k * H) 1) half.length (sc - k * H)) (v_sls (k * H) (k * H + H) Try.underlying30 TF.t5 rfl ⟨_, _, rfl, rfl⟩ ⟨_, _, rfl, rfl⟩ (by omega) (by omega)) (by rw [Nat.add_sub_cancel_left, hhl]))) rfl (by kernel_rfl) ?_
  refine fl_eff1 15 [] [] (by kernel_rfl) ⟨obl_ld rfl rfl rfl (v_load rfl (st.reads (v := .int .i64 k) 0 rfl TF.t3 rfl)), obl_ld rfl rfl rfl (v_load rfl (st.reads (v := .int .i64 k) 0 rfl TF.t3 rfl)), trivial⟩ rfl ?_
  refine wl_val (v_assign' (by conv => (lhs; whnf))) rfl ?_
  refine wl_nil ⟨rfl, ?_⟩
  refine fl_nil (by kernel_rfl) trivial ?_
  refine then_go ?_
  refine wc_seq ?_
  refine wc_region ?_
  refine wl_val (v_move' (by conv => (lhs; whnf))) rfl ?_
  refine wl_val (v_move' (by conv => (lhs; whnf))) rfl ?_
  refine wl_val (v_move' (by conv => (lhs; whnf))) rfl ?_
  refine wl_val (v_nil rfl) rfl ?_
  refine wl_val (v_fa TF.f70_2 rfl) rfl ?_
  refine wl_val (v_load rfl (st.reads (v := u64 gn) 0 rfl TF.t42 rfl)) rfl ?_
  refine wl_val (v_move' (by conv => (lhs; whnf))) rfl ?_
  obtain ⟨L, hL⟩ : ∃ L, L = recs gn half := ⟨_, rfl⟩
  refine wl_call rfl (c_jread st hh (by omega) (by omega)) rfl ?_
  rintro v70 w ⟨m3, lv, N, st, hmm3, hP, hNN, rfl⟩
  obtain ⟨r1, _, _, r4⟩ := recs_there (g := gn) (f := half.length) (k := 0) (b := half.drop 64) (by rw [List.length_drop]; omega)
  have hrl : recsF gn half.length 0 (half.drop 64) = recs gn half := rfl
  rw [hrl, ← hL, List.length_drop] at r1 r4
  rw [← hL] at hNN hop ⊢
  have hLg := sizeL_ge (l := L)
  have hNL : L.length = N.length := by rw [← hNN, List.length_map]
  have st : St m0 m3 [] w0 w (logB g b ⟨k, gn, 0⟩ (.slice none 0 0) :: lrE lv N :: diskO b s n wv (calm S) :: Es) := st.perm (List.Perm.swap _ _ _)
  have hh := hh.mono hmm3
  have hmm3 : ∀ k o, m k = some o → m3 k = some o := fun k o h => hmm3 k o (hmm2 k o h)
  refine wl_val (v_move' (by conv => (lhs; whnf))) rfl ?_
  refine wl_val (v_extract rfl rfl) rfl ?_
  refine wl_val (v_extract rfl rfl) rfl ?_
  refine wl_val (v_nil rfl) rfl ?_
  refine wl_val (v_fa TF.f70_4 rfl) rfl ?_
  refine wl_store1 (v := lv) 0 st rfl TF.t29 rfl rfl (row_one (st.at (i := 1) rfl)) (lt_ok rfl) ?_
  intro w st
  have st : St m0 m3 [] w0 w (logB g b ⟨k, gn, 0⟩ lv :: lrE lv N :: diskO b s n wv (calm S) :: Es) := st
  refine wl_val (v_nil rfl) rfl ?_
  refine wl_val (v_fa TF.f70_3 rfl) rfl ?_
  refine wl_store1 (v := .int .i64 ((64 + sizeL L : Nat) : Int)) 0 st rfl TF.t3 rfl rfl rfl (lt_ok rfl) ?_
  intro w st
  have st : St m0 m3 [] w0 w (logB g b ⟨k, gn, 64 + sizeL L⟩ lv :: lrE lv N :: diskO b s n wv (calm S) :: Es) := st
  refine wl_nil ?_
  refine then_go ?_
  refine wc_seq ?_
  refine wc_seq ?_
  refine wc_region ?_
  refine wl_val (v_move' (by conv => (lhs; whnf))) rfl ?_
  refine wl_val (v_move' (by conv => (lhs; whnf))) rfl ?_
  refine wl_val (v_nil rfl) rfl ?_
  refine wl_val (v_fa TF.f70_3 rfl) rfl ?_
  refine wl_val (v_load rfl (st.reads (v := .int .i64 ((64 + sizeL L : Nat) : Int)) 0 rfl TF.t3 rfl)) rfl ?_
  refine wl_val (v_sls (64 + sizeL L) half.length Try.underlying30 TF.t5 rfl ⟨_, _, rfl, rfl⟩ rfl (by omega) (by omega)) rfl ?_
  refine wl_val (v_len_s Try.underlying30 rfl) rfl ?_
  refine wl_val (v_move' (by conv => (lhs; whnf))) rfl ?_
  refine wl_nil ?_
  refine then_go ?_
  refine wc_block ?_
  have htl := hh.tailB (64 + sizeL L) (by omega)
  obtain ⟨tl, htle⟩ : ∃ tl, tl = half.drop (64 + sizeL L) := ⟨_, rfl⟩
  have htll : tl.length = half.length - (64 + sizeL L) := by rw [htle, List.length_drop]
  rw [← htle] at htl hop
  rw [← htll] at htl ⊢
  obtain ⟨ta, tc, htv⟩ : ∃ a c, Value.slice (sliceOff (sliceOff sa sc (k * H) 1) (sc - k * H) (64 + sizeL L) 1) tl.length (sc - k * H - (64 + sizeL L)) = .slice a tl.length c := ⟨_, _, rfl⟩
  rw [htv] at htl ⊢
  refine wc_loop (S := Nat) (fun q r w' => ∃ (i : Nat), q + i = tl.length ∧ r 5 = .pointer (some ⟨g, 0, none⟩) ∧ r 82 = .slice ta tl.length tc ∧ r 83 = .int .i64 tl.length ∧ r 84 = .int .i64 i ∧ (∀ c ∈ tl.take i, c = 0) ∧ St m0 m3 [] w0 w' (logB g b ⟨k, gn, 64 + sizeL L⟩ lv :: lrE lv N :: diskO b s n wv (calm S) :: Es)) id tl.length ⟨0, by omega, rfl, rfl, rfl, rfl, by simp, st⟩ ?_
  clear st
  rintro q r w2 ⟨i, hqi, g5, g82, g83, g84, hz, st⟩
  refine wc_o 5 g5 (wc_o 82 g82 (wc_o 83 g83 (wc_o 84 g84 ?_)))
  refine wc_seq ?_
  refine wc_region ?_
  refine wl_val (v_lss rfl rfl) rfl ?_
  refine wl_nil ?_
  refine then_go ?_
  refine wc_seq ?_
  refine wc_if rfl (fun h85 => ?_) (fun h85 => ?_)
  ·refine wc_skip ?_
   refine then_go ?_
   refine wc_seq ?_
   refine wc_block ?_
   refine wc_seq ?_
   have hi : i < tl.length := by omega
   obtain ⟨tb, to, tcc, htb, _⟩ := htl.ptr1 (by omega) (by decide)
   cases htb
   refine wc_region ?_
   refine wl_val (v_ias i Try.underlying30 TF.t5 rfl rfl (by first | rfl | omega) (by first | omega | (dsimp only at *; omega))) rfl ?_
   refine wl_val (v_load rfl (SlM.rdB TF.t5 i htl hi st.im)) rfl ?_
   refine wl_val (v_assign' (by conv => (lhs; whnf))) rfl ?_
   refine wl_nil ?_
   refine then_go ?_
   refine wc_seq ?_
   refine wc_region ?_
   refine wl_val (v_move' (by conv => (lhs; whnf))) rfl ?_
   refine wl_val (v_neq rfl rfl) rfl ?_
   refine wl_nil ?_
   refine then_go ?_
   refine wc_if rfl (fun h89 => ?_) (fun h89 => ?_)
   ·refine wc_seq ?_
    refine wc_region ?_
    refine wl_val (v_move' (by conv => (lhs; whnf))) rfl ?_
    refine wl_val (v_move' (by conv => (lhs; whnf))) rfl ?_
    refine wl_val (v_move' (by conv => (lhs; whnf))) rfl ?_
    refine wl_val (v_nil rfl) rfl ?_
    refine wl_val (v_fa TF.f70_4 rfl) rfl ?_
    refine wl_val (v_load rfl (st.reads (v := lv) 0 rfl TF.t29 rfl)) rfl ?_
    have hnz : ∃ c ∈ tl, c ≠ 0 := ⟨tl[i], List.getElem_mem hi, fun e => h89 (by rw [e]; rfl)⟩
    rw [if_pos hnz] at hop
    have st1 := st
    obtain ⟨m4, hg4, hm4, st⟩ := st.freezeR (i := 1) rfl (by simp)
    have hNM : PcsM m4 lv N := ⟨row_SlM (m := m4) (st1.at (i := 1) rfl) hm4, hP.mono hg4.le⟩
    have st : St m0 m4 [] w0 _ (logB g b ⟨k, gn, 64 + sizeL L⟩ lv :: diskO b s n wv (calm S) :: Es) := st
    refine wl_call rfl (c_over (sl := ⟨k, gn, 64 + sizeL L⟩) st hr hn hk hNM (fun x hx => by have := (r4 x.1 (by rw [← hNN]; exact List.mem_map.2 ⟨x, hx, rfl⟩)).2; omega) (by omega)) rfl ?_
    rintro v96 w ⟨m5, wv5, hmm5, rfl, hbad, hok⟩
    rw [hNN] at hbad hok ⊢
    have hz : (overD n (calm S) ⟨k, gn, 64 + sizeL L⟩ L).2.2 = 0 := by rw [hop] at h0; exact h0
    obtain ⟨lv', N', hP', hNN', st⟩ := hok hz
    refine wl_val (v_assign' (by conv => (lhs; whnf))) rfl ?_
    refine wl_val (v_assign' (by conv => (lhs; whnf))) rfl ?_
    refine wl_nil ?_
    refine then_go ?_
    refine wc_ret (block_ret (then_ret (then_ret (block_ret (then_ret ?_)))))
    refine ret2 rfl rfl ⟨m5, wv5, g, lv', N', fun k o h => hmm5 k o (hg4.le k o (hmm3 k o h)), by rw [hop]; rfl, hP', by rw [hop]; exact hNN', by rw [hop]; exact st⟩
   ·refine wc_skip ?_
    refine block_go (then_go ?_)
    refine wc_region ?_
    refine wl_val (v_add' (c := ((i + 1 : Nat) : Int)) rfl rfl (by omega) (by omega) (by omega)) rfl ?_
    refine wl_val (v_move' (by conv => (lhs; whnf))) rfl ?_
    refine wl_nil ?_
    refine then_go ?_
    refine ⟨q - 1, by simp; omega, i + 1, by omega, rfl, rfl, rfl, rfl, fun c hc => ?_, st⟩
    rw [List.take_succ_eq_append_getElem hi] at hc
    rcases List.mem_append.1 hc with hc | hc
    ·exact hz c hc
    ·rw [List.mem_singleton.1 hc]
     have : tl[i].toNat = 0 := by have := Decidable.not_not.1 h89; omega
     exact UInt8.toNat_inj.1 this
  ·refine wc_exit (then_exit (then_exit (block_hit ?_)))
   refine then_go ?_
   refine wc_seq ?_
   refine wc_region ?_
   refine wl_val (v_move' (by conv => (lhs; whnf))) rfl ?_
   refine wl_val (v_assign' (by conv => (lhs; whnf))) rfl ?_
   refine wl_val (v_assign' (by conv => (lhs; whnf))) rfl ?_
   refine wl_nil ?_
   refine then_go ?_
   refine wc_ret ?_
   have hiN : i = tl.length := by omega
   subst hiN
   rw [List.take_length] at hz
   rw [if_neg (by rintro ⟨c, hc, hc0⟩; exact hc0 (hz c hc))] at hop
   refine ret2 rfl rfl ⟨m3, wv, g, lv, N, hmm3, by rw [hop]; rfl, hP, by rw [hop]; exact hNN, by rw [hop]; exact st⟩
end
end Go.Proofs.Ytnaoafogdplnaaa
