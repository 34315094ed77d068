/-
  Several texts as one: Lb Lc Ld V Le Lf Lg Lh Li Qa.
-/
import Derived.ProofKit
import Derived.Deep.Slices
import Derived.Laws.StructEq
import Derived.Test.YtjjpakjgppmmdaaMNrc2

namespace Go.Proofs.Ytjjpakjgppmmdaa
open Go Go.RowKit K SH PT
def opPart (sig : By) (i : Nat) : By := sum ((sig.drop (64 * i)).take 32)
def opAway (sig : By) (i : Nat) : By := (sig.drop (64 * i + 32)).take 32
def opStep (d sig : By) (i : Nat) : By := if bit d i = true then opAway sig i ++ opPart sig i else opPart sig i ++ opAway sig i
def openedK (d sig : By) (k : Nat) : By := 80 :: (List.range k).flatMap (opStep d sig)
theorem openedK_succ {d sig : By} {k : Nat} : openedK d sig (k + 1) = openedK d sig k ++ opStep d sig k := by simp [openedK, List.range_succ]
theorem length_away {sig : By} {i : Nat} (h : sig.length = 16384) (hi : i < 256) : (opAway sig i).length = 32 := by
 simp only [opAway, List.length_take, List.length_drop]; omega
theorem length_part {sig : By} {i : Nat} : (opPart sig i).length = 32 := length_sum _
theorem length_opStep {d sig : By} {i : Nat} (h : sig.length = 16384) (hi : i < 256) : (opStep d sig i).length = 64 := by
 unfold opStep
 split <;> simp [length_away h hi, length_part]
theorem length_openedK {d sig : By} (h : sig.length = 16384) : ∀ {k : Nat}, k ≤ 256 → (openedK d sig k).length = 1 + 64 * k
 | 0, _ => rfl
 | k + 1, hk => by
  rw [openedK_succ, List.length_append, length_openedK h (by omega), length_opStep h (by omega)]
  omega
section
variable {m : Mem} {wI : World}
theorem c_opened {bv sv : Value} {b sig : By} (him : Im m wI) (hb : SlM m bv 1 b.length (bs b)) (hbl : b.length ≤ 1099511627776) (hs : SlM m sv 1 sig.length (bs sig)) :
  Ret Try.prog 90 #[bv, sv] wI fun v' w' => Out m wI w' fun m' => ∃ v e, v' = .tuple #[v, .int .i64 e] ∧ ((sig.length = 16384 ∧ e = 0 ∧ SlM m' v 1 (openedK (sum b) sig 256).length (bs (openedK (sum b) sig 256))) ∨ (sig.length ≠ 16384 ∧ e = 15 ∧ v = .slice none 0 0)) := by
 have st := St.start him
 have hs0 := hs
 obtain ⟨_, sa, sc, rfl, hsk, _⟩ := hs
 refine ret_ofX Try.call90 Try.func90 rfl Try.ntmps90 Try.results90 rfl ?_
 refine wx_seqc ?_
 refine wc_region ?_
 refine wl_box (v := .slice sa sig.length sc) rfl st rfl ?_
 intro b3 w st
 refine wl_val (v_assign' (by conv => (lhs; whnf))) rfl ?_
 refine wl_val (v_assign' (by conv => (lhs; whnf))) rfl ?_
 refine wl_nil ?_
 refine then_go ?_
 refine wx_scope (fun _ _ _ _ h => h) ?_
 refine wx_seqc ?_
 refine wc_seq ?_
 refine wc_region ?_
 refine wl_val (v_load rfl (st.reads (v := .slice sa sig.length sc) 0 rfl TF.t41 rfl)) rfl ?_
 refine wl_val (v_len_s Try.underlying41 rfl) rfl ?_
 refine wl_val (v_neq rfl rfl) rfl ?_
 refine wl_nil ?_
 refine then_go ?_
 refine wc_if rfl (fun h13 => ?_) (fun h13 => ?_)
 ·refine wc_seq ?_
  refine wc_region ?_
  refine wl_val (v_assign' (by conv => (lhs; whnf))) rfl ?_
  refine wl_val (v_assign' (by conv => (lhs; whnf))) rfl ?_
  refine wl_nil ?_
  refine then_go ?_
  refine wc_ret (then_ret ?_)
  show bodyQ Try.prog [.tmp 4, .tmp 5] (fun v' w' => Out m wI w' fun m' => ∃ v e, v' = .tuple #[v, .int .i64 e] ∧ ((sig.length = 16384 ∧ e = 0 ∧ SlM m' v 1 (openedK (sum b) sig 256).length (bs (openedK (sum b) sig 256))) ∨ (sig.length ≠ 16384 ∧ e = 15 ∧ v = .slice none 0 0))) .ret _ _
  exact ret2 rfl rfl ((st.keepOnly (l := []) (List.nil_sublist _)).out ⟨_, _, rfl, .inr ⟨by omega, rfl, rfl⟩⟩)
 ·refine wc_skip ?_
  refine then_go ?_
  refine wx_seqc ?_
  refine wc_region ?_
  have hlen : sig.length = 16384 := by omega
  refine wl_byte1 80 Try.underlying41 TF.t5 TF.z5 rfl st rfl ?_
  intro b14 w st
  refine wl_alloc TF.z41 st rfl ?_
  intro b6 w st
  refine wl_store1 0 st rfl TF.t41 rfl (by conv => (lhs; whnf)) rfl (by first | exact lt_ok rfl | decide | simp) ?_
  intro w st
  have st := st.rowShut 1 (b := b14) (k := 1) (cap := 1) (size := 1) (xs := bs (openedK (sum b) sig 0)) rfl (by omega) rfl (by omega) rfl
  refine wl_nil ?_
  refine then_go ?_
  refine wx_seqc ?_
  refine wc_label ?_
  refine then_go ?_
  refine wx_cut (fun ds r w' => ∃ (D l : Nat) (o : Obj) (m' : Mem) (v : Value) (x : Value), ds = [K.mark D] ∧ r 6 = .pointer (some ⟨b6, 0, none⟩) ∧ St m m' [] wI w' [objE l o, objE D (.deferred (some [])), K.blk b6 #[v] 41, rowE v 5 1 (openedK (sum b) sig 256).length (bs (openedK (sum b) sig 256)), K.blk b3 #[x] 41]) ?_ ?_
  ·refine wx_seqc ?_
   refine wc_region ?_
   refine wl_val (v_move' (by conv => (lhs; whnf))) rfl ?_
   refine wl_call rfl (by first | exact c_tagsof st.im hb hbl | exact c_tagsof (b := (sig.drop (64 * i)).take 32) st.im hsA (by rw [hlA]; omega)) rfl ?_
   rintro v16 w ⟨t16, rfl⟩
   have st := st.pure t16
   refine wl_call rfl (c_bits st.im) rfl ?_
   rintro v17 w ⟨b9, rfl, t9, hE⟩
   have st := st.new (E := K.blk b9 _ _) t9 hE
   obtain ⟨m1, hg1, hm1, st⟩ := st.freeze (i := 0) rfl (by simp)
   have hs1 := hs0.mono hg1.le
   change St _ _ _ _ _ [_, _, _] at st
   refine wl_nil ?_
   refine then_go ?_
   refine wx_block ?_
   refine wx_range (lb := [.pointer (some ⟨b9, 0, none⟩)]) rfl Try.call111 st ?_
   intro l D fn tmps rec w1 hrec htm hval st
   refine Calls.mono (c_bits1 (d := sum b) (l := l) (b1 := b9) (length_sum _)
    (fun i W => ∃ (v : Value) (a : Option Addr) (cap : Nat), SlM m1 (.slice a (sig.drop (64 * i)).length cap) 1 (sig.drop (64 * i)).length (bs (sig.drop (64 * i))) ∧ St m m1 [] wI W [objE l (.loop (rec .ready none)), objE D (.deferred (some [])), K.blk b6 #[v] 41, rowE v 5 1 (openedK (sum b) sig i).length (bs (openedK (sum b) sig i)), K.blk b3 #[.slice a (sig.drop (64 * i)).length cap] 41])
    (fun _ _ => False) ?_ ?_ ⟨_, sa, sc, hs1, st⟩).2 ?_
   ·rintro i W ⟨_, _, _, _, st⟩
    exact st.readm hm1 TF.t23 (getV_all (by simp [arr, Value.cells, bs, length_sum]))
   rintro i W hi ⟨v, a, cap, hsl, st⟩
   have hkc : (sig.drop (64 * i)).length ≤ cap := by obtain ⟨_, a', c', he, hk, _⟩ := hsl; cases he; exact hk
   have hll : (sig.drop (64 * i)).length = 16384 - 64 * i := by rw [List.length_drop, hlen]
   refine yield_round hrec (st.at (i := 0) rfl) rfl htm hval rfl ?_
   ·refine wi_region (by kernel_rfl) (fun _ _ h => h) ?_
    refine wl_val (v_assign' (by conv => (lhs; whnf))) rfl ?_
    refine wl_nil ?_
    refine then_go ⟨st.at (i := 0) rfl, ?_⟩
    have st := st.putObj 0 (.loop (rec .busy none)) rfl
    have hsA := hsl.subB 0 32 (by omega) (by omega)
    have hsB := hsl.subB 32 64 (by omega) (by omega)
    have hsC := hsl.subB 64 (sig.drop (64 * i)).length (by omega) (by omega)
    have hlA : ((sig.drop (64 * i)).take 32).length = 32 := by simp; omega
    have hA : ((sig.drop (64 * i)).drop 0).take (32 - 0) = (sig.drop (64 * i)).take 32 := rfl
    have hB : ((sig.drop (64 * i)).drop 32).take (64 - 32) = opAway sig i := by rw [List.drop_drop]; rfl
    have hC : ((sig.drop (64 * i)).drop 64).take ((sig.drop (64 * i)).length - 64) = sig.drop (64 * (i + 1)) := by
     rw [List.drop_drop, List.take_of_length_le (by simp; omega)]
     congr 1
    have hlC : (sig.drop (64 * (i + 1))).length = (sig.drop (64 * i)).length - 64 := by simp; omega
    rw [hA] at hsA
    rw [hB] at hsB
    rw [hC] at hsC
    rw [← hlC] at hsC
    have hlB := length_away hlen hi
    have hlO := length_openedK (d := sum b) hlen (k := i) (by omega)
    rw [show (32 - 0 : Nat) = ((sig.drop (64 * i)).take 32).length by omega] at hsA
    rw [show (64 - 32 : Nat) = (opAway sig i).length by omega] at hsB
    refine wi_block ?_
    refine wi_seq ?_
    refine wi_draw TF.mixed (by kernel_rfl) (fun _ _ h => h) ?_
    have st := st.pure (touch_drew _)
    refine fl_ld 0 rfl (v_load rfl (by first | exact st.reads (v := .slice a (sig.drop (64 * i)).length cap) 4 rfl TF.t41 rfl | exact st.reads (v := .slice a (sig.drop (64 * i)).length cap) 5 rfl TF.t41 rfl)) (by kernel_rfl) ?_
    refine fl_val 1 rfl (fun _ => (v_to (v' := .slice (sliceOff a cap 0 1) ((sig.drop (64 * i)).take 32).length (cap - 0)) (v_slice_s (l := 0) (h := 32) Try.underlying41 TF.t5 rfl rfl ⟨_, _, rfl, rfl⟩ (by omega) (by omega)) (by rw [hlA]))) rfl (by kernel_rfl) ?_
    refine fl_ld 3 rfl (v_load rfl (by first | exact st.reads (v := .slice a (sig.drop (64 * i)).length cap) 4 rfl TF.t41 rfl | exact st.reads (v := .slice a (sig.drop (64 * i)).length cap) 5 rfl TF.t41 rfl)) (by kernel_rfl) ?_
    refine fl_val 4 rfl (fun _ => (v_to (v' := .slice (sliceOff a cap 32 1) (opAway sig i).length (cap - 32)) (v_slice_s (l := 32) (h := 64) Try.underlying41 TF.t5 rfl ⟨_, _, rfl, rfl⟩ ⟨_, _, rfl, rfl⟩ (by omega) (by omega)) (by rw [hlB]))) rfl (by kernel_rfl) ?_
    refine fl_effs [2, 5] (by kernel_rfl) ⟨obl_ld rfl rfl rfl (v_load rfl (by first | exact st.reads (v := .slice a (sig.drop (64 * i)).length cap) 4 rfl TF.t41 rfl | exact st.reads (v := .slice a (sig.drop (64 * i)).length cap) 5 rfl TF.t41 rfl)), obl_ld rfl rfl rfl (v_load rfl (by first | exact st.reads (v := .slice a (sig.drop (64 * i)).length cap) 4 rfl TF.t41 rfl | exact st.reads (v := .slice a (sig.drop (64 * i)).length cap) 5 rfl TF.t41 rfl)), trivial⟩ (all2 ?_ ?_)
    ·refine stepE 2 (pure' := [4]) (lds' := [3, 0]) rfl (by kernel_rfl) (by kernel_rfl) ?_
     refine wl_call rfl (by first | exact c_tagsof st.im hb hbl | exact c_tagsof (b := (sig.drop (64 * i)).take 32) st.im hsA (by rw [hlA]; omega)) rfl ?_
     rintro v16 w ⟨t16, rfl⟩
     have st := st.pure t16
     refine wl_nil ⟨rfl, ?_⟩
     refine fl_eff1 5 [4] [3, 0] (by kernel_rfl) ⟨obl_ld rfl rfl rfl (v_load rfl (by first | exact st.reads (v := .slice a (sig.drop (64 * i)).length cap) 4 rfl TF.t41 rfl | exact st.reads (v := .slice a (sig.drop (64 * i)).length cap) 5 rfl TF.t41 rfl)), obl_ld rfl rfl rfl (v_load rfl (by first | exact st.reads (v := .slice a (sig.drop (64 * i)).length cap) 4 rfl TF.t41 rfl | exact st.reads (v := .slice a (sig.drop (64 * i)).length cap) 5 rfl TF.t41 rfl)), trivial⟩ rfl ?_
     refine wl_alloc TF.z23 st rfl ?_
     intro b9 w st
     refine wl_nil ⟨rfl, ?_⟩
     refine fl_eff1 6 [4] [3] (by kernel_rfl) ⟨obl_ld rfl rfl rfl (v_load rfl (by first | exact st.reads (v := .slice a (sig.drop (64 * i)).length cap) 4 rfl TF.t41 rfl | exact st.reads (v := .slice a (sig.drop (64 * i)).length cap) 5 rfl TF.t41 rfl)), obl_ld rfl rfl rfl (v_load rfl (by first | exact st.reads (v := .slice a (sig.drop (64 * i)).length cap) 4 rfl TF.t41 rfl | exact st.reads (v := .slice a (sig.drop (64 * i)).length cap) 5 rfl TF.t41 rfl)), trivial⟩ rfl ?_
     refine wl_storeW (cs := (bs (opPart sig i)).toArray) 0 st rfl TF.t23 rfl rfl (by simp [length_bs, length_part]) rfl (fun u hu => one_bs _ u (by simpa using hu)) ?_
     intro w st
     refine wl_nil ⟨rfl, ?_⟩
     refine fl_eff1 7 [] [] (by kernel_rfl) ⟨obl_ld rfl rfl rfl (v_load rfl (by first | exact st.reads (v := .slice a (sig.drop (64 * i)).length cap) 4 rfl TF.t41 rfl | exact st.reads (v := .slice a (sig.drop (64 * i)).length cap) 5 rfl TF.t41 rfl)), trivial⟩ rfl ?_
     refine wl_val (v_assign' (by conv => (lhs; whnf))) rfl ?_
     refine wl_nil ⟨rfl, ?_⟩
     refine fl_nil (by kernel_rfl) trivial ?_
     refine then_go ?_
     refine wi_seq ?_
     refine wi_region (by kernel_rfl) (fun _ _ h => h) ?_
     refine wl_val (v_load rfl (st.reads (v := .slice a (sig.drop (64 * i)).length cap) 5 rfl TF.t41 rfl)) rfl ?_
     refine wl_val (v_to (v' := .slice (sliceOff a cap 64 1) (sig.drop (64 * (i + 1))).length (cap - 64)) (v_slice_s (l := 64) (h := (sig.drop (64 * i)).length) Try.underlying41 TF.t5 rfl ⟨_, _, rfl, rfl⟩ rfl (by omega) (by omega)) (by rw [hlC])) rfl ?_
     refine wl_store1 5 st rfl TF.t41 rfl (by conv => (lhs; whnf)) rfl (by first | exact lt_ok rfl | decide | simp) ?_
     intro w st
     refine wl_nil ?_
     refine then_go ?_
     refine wi_seq ?_
     refine wi_seq ?_
     refine wi_region (by kernel_rfl) (fun _ _ h => h) ?_
     refine wl_val (v_move' (by conv => (lhs; whnf))) rfl ?_
     refine wl_nil ?_
     refine then_go ?_
     refine wi_cond rfl (fun h27 => ?_) (fun h27 => ?_)
     ·refine wi_seq ?_
      refine wi_draw TF.mixed (by kernel_rfl) (fun _ _ h => h) ?_
      have st := st.pure (touch_drew _)
      refine fl_ld 0 rfl (v_load rfl (st.reads (v := v) 3 rfl TF.t41 rfl)) (by kernel_rfl) ?_
      refine fl_val 1 rfl (fun _ => (v_move' (by conv => (lhs; whnf)))) rfl (by kernel_rfl) ?_
      refine fl_val 3 rfl (fun _ => (v_sla 0 32 Try.underlying23 TF.t5 rfl rfl rfl (by omega) (by omega) (by omega))) rfl (by kernel_rfl) ?_
      refine fl_eff1 2 [3] [] (by kernel_rfl) ⟨obl_ld rfl rfl rfl (v_load rfl (st.reads (v := v) 3 rfl TF.t41 rfl)), trivial⟩ rfl ?_
      refine wl_appBi 4 (l2 := opAway sig i) st rfl Try.underlying41 Try.underlying41 (.inr ⟨_, rfl⟩) TF.t5 TF.z5 rfl rfl (hsB.src st.im (one_bs _)) (by omega) (by omega) rfl ?_
      intro v1 w st hv1
      refine wl_nil ⟨rfl, ?_⟩
      refine fl_eff1 4 [] [] (by kernel_rfl) trivial rfl ?_
      refine wl_appBi 4 (l2 := opPart sig i) st rfl Try.underlying41 Try.underlying41 (.inr ⟨_, rfl⟩) TF.t5 TF.z5 rfl rfl (st.srcArr (off := 0) 0 rfl (by rw [length_bs, length_part]) (fun j u hj => by simpa using hj) (one_bs _)) (by rw [List.length_append, length_part]; omega) (by rw [List.length_append, length_part]; omega) rfl ?_
      intro v1 w st hv1
      refine wl_nil ⟨rfl, ?_⟩
      refine fl_eff1 5 [] [] (by kernel_rfl) trivial rfl ?_
      refine wl_store1 3 st rfl TF.t41 rfl (by conv => (lhs; whnf)) hv1 (by first | exact lt_ok rfl | decide | simp) ?_
      intro w st
      have hO : openedK (sum b) sig i ++ opAway sig i ++ opPart sig i = openedK (sum b) sig (i + 1) := by rw [openedK_succ, opStep, if_pos h27, List.append_assoc]
      rw [hO] at st
      refine wl_nil ⟨rfl, ?_⟩
      refine fl_nil (by kernel_rfl) trivial ?_
      refine then_go ?_
      refine wi_exit (then_exit (block_hit ?_))
      exact ⟨st.at (i := 1) rfl, .inl ⟨rfl, v1, _, _, hsC, (st.putObj 1 _ rfl).drop 0⟩⟩
     ·refine wi_skip ?_
      refine then_go ?_
      refine wi_draw TF.mixed (by kernel_rfl) (fun _ _ h => h) ?_
      have st := st.pure (touch_drew _)
      refine fl_ld 0 rfl (v_load rfl (st.reads (v := v) 3 rfl TF.t41 rfl)) (by kernel_rfl) ?_
      refine fl_val 1 rfl (fun _ => (v_sla 0 32 Try.underlying23 TF.t5 rfl rfl rfl (by omega) (by omega) (by omega))) rfl (by kernel_rfl) ?_
      refine fl_val 3 rfl (fun _ => (v_move' (by conv => (lhs; whnf)))) rfl (by kernel_rfl) ?_
      refine fl_eff1 2 [3] [] (by kernel_rfl) ⟨obl_ld rfl rfl rfl (v_load rfl (st.reads (v := v) 3 rfl TF.t41 rfl)), trivial⟩ rfl ?_
      refine wl_appBi 4 (l2 := opPart sig i) st rfl Try.underlying41 Try.underlying41 (.inr ⟨_, rfl⟩) TF.t5 TF.z5 rfl rfl (st.srcArr (off := 0) 0 rfl (by rw [length_bs, length_part]) (fun j u hj => by simpa using hj) (one_bs _)) (by rw [length_part]; omega) (by rw [length_part]; omega) rfl ?_
      intro v1 w st hv1
      refine wl_nil ⟨rfl, ?_⟩
      refine fl_eff1 4 [] [] (by kernel_rfl) trivial rfl ?_
      refine wl_appBi 4 (l2 := opAway sig i) st rfl Try.underlying41 Try.underlying41 (.inr ⟨_, rfl⟩) TF.t5 TF.z5 rfl rfl (hsB.src st.im (one_bs _)) (by rw [List.length_append, length_part]; omega) (by rw [List.length_append, length_part]; omega) rfl ?_
      intro v1 w st hv1
      refine wl_nil ⟨rfl, ?_⟩
      refine fl_eff1 5 [] [] (by kernel_rfl) trivial rfl ?_
      refine wl_store1 3 st rfl TF.t41 rfl (by conv => (lhs; whnf)) hv1 (by first | exact lt_ok rfl | decide | simp) ?_
      intro w st
      have hO : openedK (sum b) sig i ++ opPart sig i ++ opAway sig i = openedK (sum b) sig (i + 1) := by rw [openedK_succ, opStep, if_neg (by rw [h27]; simp), List.append_assoc]
      rw [hO] at st
      refine wl_nil ⟨rfl, ?_⟩
      refine fl_nil (by kernel_rfl) trivial ?_
      refine block_go ?_
      exact ⟨st.at (i := 1) rfl, .inl ⟨rfl, v1, _, _, hsC, (st.putObj 1 _ rfl).drop 0⟩⟩
    ·refine stepE 5 (pure' := [4, 1]) (lds' := [3, 0]) rfl (by kernel_rfl) (by kernel_rfl) ?_
     refine wl_alloc TF.z23 st rfl ?_
     intro b9 w st
     refine wl_nil ⟨rfl, ?_⟩
     refine fl_eff1 2 [4] [3, 0] (by kernel_rfl) ⟨obl_ld rfl rfl rfl (v_load rfl (by first | exact st.reads (v := .slice a (sig.drop (64 * i)).length cap) 4 rfl TF.t41 rfl | exact st.reads (v := .slice a (sig.drop (64 * i)).length cap) 5 rfl TF.t41 rfl)), obl_ld rfl rfl rfl (v_load rfl (by first | exact st.reads (v := .slice a (sig.drop (64 * i)).length cap) 4 rfl TF.t41 rfl | exact st.reads (v := .slice a (sig.drop (64 * i)).length cap) 5 rfl TF.t41 rfl)), trivial⟩ rfl ?_
     refine wl_call rfl (by first | exact c_tagsof st.im hb hbl | exact c_tagsof (b := (sig.drop (64 * i)).take 32) st.im hsA (by rw [hlA]; omega)) rfl ?_
     rintro v16 w ⟨t16, rfl⟩
     have st := st.pure t16
     refine wl_nil ⟨rfl, ?_⟩
     refine fl_eff1 6 [4] [3] (by kernel_rfl) ⟨obl_ld rfl rfl rfl (v_load rfl (by first | exact st.reads (v := .slice a (sig.drop (64 * i)).length cap) 4 rfl TF.t41 rfl | exact st.reads (v := .slice a (sig.drop (64 * i)).length cap) 5 rfl TF.t41 rfl)), obl_ld rfl rfl rfl (v_load rfl (by first | exact st.reads (v := .slice a (sig.drop (64 * i)).length cap) 4 rfl TF.t41 rfl | exact st.reads (v := .slice a (sig.drop (64 * i)).length cap) 5 rfl TF.t41 rfl)), trivial⟩ rfl ?_
     refine wl_storeW (cs := (bs (opPart sig i)).toArray) 0 st rfl TF.t23 rfl rfl (by simp [length_bs, length_part]) rfl (fun u hu => one_bs _ u (by simpa using hu)) ?_
     intro w st
     refine wl_nil ⟨rfl, ?_⟩
     refine fl_eff1 7 [] [] (by kernel_rfl) ⟨obl_ld rfl rfl rfl (v_load rfl (by first | exact st.reads (v := .slice a (sig.drop (64 * i)).length cap) 4 rfl TF.t41 rfl | exact st.reads (v := .slice a (sig.drop (64 * i)).length cap) 5 rfl TF.t41 rfl)), trivial⟩ rfl ?_
     refine wl_val (v_assign' (by conv => (lhs; whnf))) rfl ?_
     refine wl_nil ⟨rfl, ?_⟩
     refine fl_nil (by kernel_rfl) trivial ?_
     refine then_go ?_
     refine wi_seq ?_
     refine wi_region (by kernel_rfl) (fun _ _ h => h) ?_
     refine wl_val (v_load rfl (st.reads (v := .slice a (sig.drop (64 * i)).length cap) 5 rfl TF.t41 rfl)) rfl ?_
     refine wl_val (v_to (v' := .slice (sliceOff a cap 64 1) (sig.drop (64 * (i + 1))).length (cap - 64)) (v_slice_s (l := 64) (h := (sig.drop (64 * i)).length) Try.underlying41 TF.t5 rfl ⟨_, _, rfl, rfl⟩ rfl (by omega) (by omega)) (by rw [hlC])) rfl ?_
     refine wl_store1 5 st rfl TF.t41 rfl (by conv => (lhs; whnf)) rfl (by first | exact lt_ok rfl | decide | simp) ?_
     intro w st
     refine wl_nil ?_
     refine then_go ?_
     refine wi_seq ?_
     refine wi_seq ?_
     refine wi_region (by kernel_rfl) (fun _ _ h => h) ?_
     refine wl_val (v_move' (by conv => (lhs; whnf))) rfl ?_
     refine wl_nil ?_
     refine then_go ?_
     refine wi_cond rfl (fun h27 => ?_) (fun h27 => ?_)
     ·refine wi_seq ?_
      refine wi_draw TF.mixed (by kernel_rfl) (fun _ _ h => h) ?_
      have st := st.pure (touch_drew _)
      refine fl_ld 0 rfl (v_load rfl (st.reads (v := v) 3 rfl TF.t41 rfl)) (by kernel_rfl) ?_
      refine fl_val 1 rfl (fun _ => (v_move' (by conv => (lhs; whnf)))) rfl (by kernel_rfl) ?_
      refine fl_val 3 rfl (fun _ => (v_sla 0 32 Try.underlying23 TF.t5 rfl rfl rfl (by omega) (by omega) (by omega))) rfl (by kernel_rfl) ?_
      refine fl_eff1 2 [3] [] (by kernel_rfl) ⟨obl_ld rfl rfl rfl (v_load rfl (st.reads (v := v) 3 rfl TF.t41 rfl)), trivial⟩ rfl ?_
      refine wl_appBi 4 (l2 := opAway sig i) st rfl Try.underlying41 Try.underlying41 (.inr ⟨_, rfl⟩) TF.t5 TF.z5 rfl rfl (hsB.src st.im (one_bs _)) (by omega) (by omega) rfl ?_
      intro v1 w st hv1
      refine wl_nil ⟨rfl, ?_⟩
      refine fl_eff1 4 [] [] (by kernel_rfl) trivial rfl ?_
      refine wl_appBi 4 (l2 := opPart sig i) st rfl Try.underlying41 Try.underlying41 (.inr ⟨_, rfl⟩) TF.t5 TF.z5 rfl rfl (st.srcArr (off := 0) 0 rfl (by rw [length_bs, length_part]) (fun j u hj => by simpa using hj) (one_bs _)) (by rw [List.length_append, length_part]; omega) (by rw [List.length_append, length_part]; omega) rfl ?_
      intro v1 w st hv1
      refine wl_nil ⟨rfl, ?_⟩
      refine fl_eff1 5 [] [] (by kernel_rfl) trivial rfl ?_
      refine wl_store1 3 st rfl TF.t41 rfl (by conv => (lhs; whnf)) hv1 (by first | exact lt_ok rfl | decide | simp) ?_
      intro w st
      have hO : openedK (sum b) sig i ++ opAway sig i ++ opPart sig i = openedK (sum b) sig (i + 1) := by rw [openedK_succ, opStep, if_pos h27, List.append_assoc]
      rw [hO] at st
      refine wl_nil ⟨rfl, ?_⟩
      refine fl_nil (by kernel_rfl) trivial ?_
      refine then_go ?_
      refine wi_exit (then_exit (block_hit ?_))
      exact ⟨st.at (i := 1) rfl, .inl ⟨rfl, v1, _, _, hsC, (st.putObj 1 _ rfl).drop 0⟩⟩
     ·refine wi_skip ?_
      refine then_go ?_
      refine wi_draw TF.mixed (by kernel_rfl) (fun _ _ h => h) ?_
      have st := st.pure (touch_drew _)
      refine fl_ld 0 rfl (v_load rfl (st.reads (v := v) 3 rfl TF.t41 rfl)) (by kernel_rfl) ?_
      refine fl_val 1 rfl (fun _ => (v_sla 0 32 Try.underlying23 TF.t5 rfl rfl rfl (by omega) (by omega) (by omega))) rfl (by kernel_rfl) ?_
      refine fl_val 3 rfl (fun _ => (v_move' (by conv => (lhs; whnf)))) rfl (by kernel_rfl) ?_
      refine fl_eff1 2 [3] [] (by kernel_rfl) ⟨obl_ld rfl rfl rfl (v_load rfl (st.reads (v := v) 3 rfl TF.t41 rfl)), trivial⟩ rfl ?_
      refine wl_appBi 4 (l2 := opPart sig i) st rfl Try.underlying41 Try.underlying41 (.inr ⟨_, rfl⟩) TF.t5 TF.z5 rfl rfl (st.srcArr (off := 0) 0 rfl (by rw [length_bs, length_part]) (fun j u hj => by simpa using hj) (one_bs _)) (by rw [length_part]; omega) (by rw [length_part]; omega) rfl ?_
      intro v1 w st hv1
      refine wl_nil ⟨rfl, ?_⟩
      refine fl_eff1 4 [] [] (by kernel_rfl) trivial rfl ?_
      refine wl_appBi 4 (l2 := opAway sig i) st rfl Try.underlying41 Try.underlying41 (.inr ⟨_, rfl⟩) TF.t5 TF.z5 rfl rfl (hsB.src st.im (one_bs _)) (by rw [List.length_append, length_part]; omega) (by rw [List.length_append, length_part]; omega) rfl ?_
      intro v1 w st hv1
      refine wl_nil ⟨rfl, ?_⟩
      refine fl_eff1 5 [] [] (by kernel_rfl) trivial rfl ?_
      refine wl_store1 3 st rfl TF.t41 rfl (by conv => (lhs; whnf)) hv1 (by first | exact lt_ok rfl | decide | simp) ?_
      intro w st
      have hO : openedK (sum b) sig i ++ opPart sig i ++ opAway sig i = openedK (sum b) sig (i + 1) := by rw [openedK_succ, opStep, if_neg (by rw [h27]; simp), List.append_assoc]
      rw [hO] at st
      refine wl_nil ⟨rfl, ?_⟩
      refine fl_nil (by kernel_rfl) trivial ?_
      refine block_go ?_
      exact ⟨st.at (i := 1) rfl, .inl ⟨rfl, v1, _, _, hsC, (st.putObj 1 _ rfl).drop 0⟩⟩
   rintro e W ⟨v, rfl, ⟨v1, a, cap, hsl, st⟩ | ⟨i, hi, hF⟩⟩
   ·have st2 := st.putObj 0 (.loop (rec .exhausted none)) rfl
    exact ⟨v, rfl, .ready, none, by simp, st.at (i := 0) rfl, D, l, _, m1, v1, _, rfl, rfl, st2⟩
   ·exact hF.elim
  ·rintro ds r w ⟨D, l, o, m', v, x, rfl, g6, st⟩
   refine wx_of_wc (wc_o 6 g6 ?_)
   refine wc_seq ?_
   refine wc_region ?_
   refine wl_val (v_load rfl (st.reads (v := v) 2 rfl TF.t41 rfl)) rfl ?_
   refine wl_val (v_assign' (by conv => (lhs; whnf))) rfl ?_
   refine wl_val (v_assign' (by conv => (lhs; whnf))) rfl ?_
   refine wl_nil ?_
   refine then_go ?_
   refine wc_ret ?_
   have hD := st.at (i := 1) rfl
   have st := st.putObj 1 (.deferred none) rfl
   obtain ⟨m2, hg2, hq2, st⟩ := st.keepB (i := 3) rfl
   exact retX1 hD (ret2 rfl rfl ((st.keepOnly (l := []) (List.nil_sublist _)).out ⟨_, _, rfl, .inl ⟨hlen, rfl, hq2⟩⟩))
end
end Go.Proofs.Ytjjpakjgppmmdaa

namespace Go.Proofs.Ytjjpakjgppmmdaa
open Go Go.RowKit K SH PT
section
variable {m : Mem} {wI : World}
theorem c_ropened {bv sv : Value} {b sig : By} (him : Im m wI) (hb : SlM m bv 1 b.length (bs b)) (hbl : b.length ≤ 1099511627776) (hs : SlM m sv 1 sig.length (bs sig)) :
  Ret Try.prog 92 #[bv, sv] wI fun v' w' => Out m wI w' fun m' => ∃ v e, v' = .tuple #[v, .int .i64 e] ∧ ((sig.length = 16384 ∧ e = 0 ∧ SlM m' v 1 (openedK (sum b) sig 256).length (bs (openedK (sum b) sig 256))) ∨ (sig.length ≠ 16384 ∧ e = 15 ∧ v = .slice none 0 0)) := by
 have st := St.start him
 have hs0 := hs
 obtain ⟨_, sa, sc, rfl, hsk, _⟩ := hs
 refine ret_of Try.call92 Try.func92 rfl Try.ntmps92 Try.results92 rfl ?_
 refine wc_seq ?_
 refine wc_region ?_
 refine wl_val (v_assign' (by conv => (lhs; whnf))) rfl ?_
 refine wl_val (v_assign' (by conv => (lhs; whnf))) rfl ?_
 refine wl_nil ?_
 refine then_go ?_
 refine wc_seq ?_
 refine wc_seq ?_
 refine wc_region ?_
 refine wl_val (v_move' (by conv => (lhs; whnf))) rfl ?_
 refine wl_val (v_len_s Try.underlying41 rfl) rfl ?_
 refine wl_val (v_neq rfl rfl) rfl ?_
 refine wl_nil ?_
 refine then_go ?_
 refine wc_if rfl (fun h13 => ?_) (fun h13 => ?_)
 ·refine wc_seq ?_
  refine wc_region ?_
  refine wl_val (v_assign' (by conv => (lhs; whnf))) rfl ?_
  refine wl_val (v_assign' (by conv => (lhs; whnf))) rfl ?_
  refine wl_nil ?_
  refine then_go ?_
  refine wc_ret (then_ret ?_)
  exact ret2 rfl rfl (st.out ⟨_, _, rfl, .inr ⟨by omega, rfl, rfl⟩⟩)
 ·refine wc_skip ?_
  refine then_go ?_
  refine wc_seq ?_
  refine wc_region ?_
  refine wl_val (v_move' (by conv => (lhs; whnf))) rfl ?_
  have hlen : sig.length = 16384 := by omega
  refine wl_call rfl (c_ref3of st.im hb hbl) rfl ?_
  rintro v15 w ⟨t15, rfl⟩
  have st := st.pure t15
  refine wl_alloc TF.z23 st rfl ?_
  intro b6 w st
  refine wl_storeW (cs := (bs (sum b)).toArray) 0 st rfl TF.t23 rfl rfl (by simp [length_bs, length_sum]) rfl (fun u hu => one_bs _ u (by simpa using hu)) ?_
  intro w st
  refine wl_nil ?_
  refine then_go ?_
  refine wc_seq ?_
  refine wc_region ?_
  refine wl_make (l := 1) (c := 16385) Try.underlying41 TF.t5 TF.z5 rfl rfl rfl rfl (by omega) (by omega) (by omega) (by omega) st rfl ?_
  intro b7 w st
  have e7 : madeCells (Value.int .u8 0).cells (16385 * 1) = (u8 0 :: List.replicate 16384 (u8 0)).toArray := by
   rw [show (Value.int .u8 0).cells = Array.replicate (0 + 1) (Value.int .u8 0) from rfl, madeCells_rep, show 16385 * 1 = 16384 + 1 from rfl, List.replicate_succ]
   rfl
  rw [e7] at st
  obtain ⟨R, hRl, hR⟩ : ∃ R : List Value, R.length = 16384 ∧ R = List.replicate 16384 (u8 0) := ⟨_, List.length_replicate, rfl⟩
  rw [← hR] at st
  clear hR e7
  refine wl_val (v_assign' (by conv => (lhs; whnf))) rfl ?_
  refine wl_nil ?_
  refine then_go ?_
  refine wc_seq ?_
  refine wc_region ?_
  refine wl_val (v_move' (by conv => (lhs; whnf))) rfl ?_
  refine wl_val (v_ias 0 Try.underlying41 TF.t5 rfl rfl (by first | rfl | omega) (by first | omega | (dsimp only at *; omega))) rfl ?_
  refine wl_store1 (off := 0 + 0 * 1) 0 st rfl TF.t5 rfl (by conv => (lhs; whnf)) rfl (by simp) ?_
  intro w st
  have e8 : (u8 0 :: R).toArray.setIfInBounds (0 + 0 * 1) (Value.int .u8 80) = (u8 80 :: R).toArray := by simp; rfl
  rw [e8] at st
  have st := st.rowShut 0 (b := b7) (k := 1) (cap := 16385) (size := 1) (xs := bs (openedK (sum b) sig 0)) rfl (by omega) (by simp [hRl]) (by omega) (by simp [openedK, bs])
  change St _ _ _ _ _ [rowE _ _ _ _ _, _] at st
  refine wl_nil ?_
  refine then_go ?_
  refine wc_seq ?_
  refine wc_seq ?_
  refine wc_region ?_
  refine wl_val (v_assign' (by conv => (lhs; whnf))) rfl ?_
  refine wl_nil ?_
  refine then_go ?_
  refine wc_block ?_
  refine wc_loop (S := Nat) (fun q r w' => ∃ (i : Nat) (v : Value), q + i = 256 ∧ r 1 = .slice sa sig.length sc ∧ r 6 = .pointer (some ⟨b6, 0, none⟩) ∧ r 7 = v ∧ r 8 = .int .i64 i ∧ St m m [] wI w' [rowE v 5 1 (openedK (sum b) sig i).length (bs (openedK (sum b) sig i)), K.blk b6 (bs (sum b)).toArray 23]) id 256 ⟨0, _, rfl, rfl, rfl, rfl, rfl, st⟩ ?_
  rintro q r w2 ⟨i, v, hqi, g1, g6, g7, g8, st⟩
  refine wc_o 1 g1 (wc_o 6 g6 (wc_o 7 g7 (wc_o 8 g8 ?_)))
  refine wc_seq ?_
  refine wc_seq ?_
  refine wc_region ?_
  refine wl_val (v_move' (by conv => (lhs; whnf))) rfl ?_
  refine wl_val (v_lss rfl rfl) rfl ?_
  refine wl_nil ?_
  refine then_go ?_
  refine wc_if rfl (fun h20 => ?_) (fun h20 => ?_)
  ·refine wc_skip ?_
   refine then_go ?_
   refine wc_seq ?_
   refine wc_block ?_
   refine wc_seq ?_
   have hi : i < 256 := by omega
   have hsA := hs0.subB (64 * i) (64 * i + 32) (by omega) (by omega)
   have hsB := hs0.subB (64 * i + 32) (64 * i + 64) (by omega) (by omega)
   have hlA : ((sig.drop (64 * i)).take 32).length = 32 := by simp; omega
   have hlB := length_away hlen hi
   have hlO := length_openedK (d := sum b) hlen (k := i) (by omega)
   rw [show 64 * i + 32 - 64 * i = 32 by omega] at hsA
   rw [show 64 * i + 64 - (64 * i + 32) = 32 by omega] at hsB
   have hsA : SlM m (.slice (sliceOff sa sc (64 * i) 1) ((sig.drop (64 * i)).take 32).length (sc - 64 * i)) 1 ((sig.drop (64 * i)).take 32).length (bs ((sig.drop (64 * i)).take 32)) := by rw [hlA]; exact hsA
   have hsB : SlM m (.slice (sliceOff sa sc (64 * i + 32) 1) (opAway sig i).length (sc - (64 * i + 32))) 1 (opAway sig i).length (bs (opAway sig i)) := by rw [hlB]; exact hsB
   refine wc_region ?_
   refine wl_val (v_move' (by conv => (lhs; whnf))) rfl ?_
   refine wl_val (v_move' (by conv => (lhs; whnf))) rfl ?_
   refine wl_val (v_mul' (c := ((64 * i : Nat) : Int)) rfl rfl (by omega) (by omega) (by omega)) rfl ?_
   refine wl_val (v_move' (by conv => (lhs; whnf))) rfl ?_
   refine wl_val (v_mul' (c := ((64 * i : Nat) : Int)) rfl rfl (by omega) (by omega) (by omega)) rfl ?_
   refine wl_val (v_add' (c := ((64 * i + 32 : Nat) : Int)) rfl rfl (by omega) (by omega) (by omega)) rfl ?_
   refine wl_val (v_to (v' := .slice (sliceOff sa sc (64 * i) 1) ((sig.drop (64 * i)).take 32).length (sc - 64 * i)) (v_slice_s (l := 64 * i) (h := 64 * i + 32) Try.underlying41 TF.t5 rfl ⟨_, _, rfl, rfl⟩ ⟨_, _, rfl, rfl⟩ (by omega) (by omega)) (by rw [hlA, show 64 * i + 32 - 64 * i = 32 by omega])) rfl ?_
   refine wl_call rfl (c_ref3of (b := (sig.drop (64 * i)).take 32) st.im hsA (by rw [hlA]; omega)) rfl ?_
   rintro v30 w ⟨t30, rfl⟩
   have st := st.pure t30
   refine wl_alloc TF.z23 st rfl ?_
   intro b9 w st
   refine wl_storeW (cs := (bs (opPart sig i)).toArray) 0 st rfl TF.t23 rfl rfl (by simp [length_bs, length_part]) rfl (fun u hu => one_bs _ u (by simpa using hu)) ?_
   intro w st
   refine wl_nil ?_
   refine then_go ?_
   refine wc_seq ?_
   refine wc_region ?_
   refine wl_val (v_move' (by conv => (lhs; whnf))) rfl ?_
   refine wl_val (v_move' (by conv => (lhs; whnf))) rfl ?_
   refine wl_val (v_mul' (c := ((64 * i : Nat) : Int)) rfl rfl (by omega) (by omega) (by omega)) rfl ?_
   refine wl_val (v_add' (c := ((64 * i + 32 : Nat) : Int)) rfl rfl (by omega) (by omega) (by omega)) rfl ?_
   refine wl_val (v_move' (by conv => (lhs; whnf))) rfl ?_
   refine wl_val (v_mul' (c := ((64 * i : Nat) : Int)) rfl rfl (by omega) (by omega) (by omega)) rfl ?_
   refine wl_val (v_add' (c := ((64 * i + 64 : Nat) : Int)) rfl rfl (by omega) (by omega) (by omega)) rfl ?_
   refine wl_val (v_to (v' := .slice (sliceOff sa sc (64 * i + 32) 1) (opAway sig i).length (sc - (64 * i + 32))) (v_slice_s (l := 64 * i + 32) (h := 64 * i + 64) Try.underlying41 TF.t5 rfl ⟨_, _, rfl, rfl⟩ ⟨_, _, rfl, rfl⟩ (by omega) (by omega)) (by rw [hlB, show 64 * i + 64 - (64 * i + 32) = 32 by omega])) rfl ?_
   refine wl_val (v_assign' (by conv => (lhs; whnf))) rfl ?_
   refine wl_nil ?_
   refine then_go ?_
   refine wc_seq ?_
   refine wc_region ?_
   refine wl_val (v_load rfl (st.reads (v := arr (sum b)) 2 rfl TF.t23 (getV_all (by simp [length_bs, length_sum])))) rfl ?_
   refine wl_val (v_move' (by conv => (lhs; whnf))) rfl ?_
   refine wl_call rfl (c_rbit st.im (length_sum b)) rfl ?_
   rintro v41 w ⟨t41, rfl⟩
   have st := st.pure t41
   rw [show bitI (sum b) i = bit (sum b) i by unfold bitI; rw [if_pos (by omega)]; simp]
   refine wl_nil ?_
   refine then_go ?_
   refine wc_cond rfl (fun h41 => ?_) (fun h41 => ?_)
   ·refine wc_seq ?_
    refine wc_region ?_
    refine wl_val (v_move' (by conv => (lhs; whnf))) rfl ?_
    refine wl_val (v_move' (by conv => (lhs; whnf))) rfl ?_
    refine wl_appBi 1 (l2 := opAway sig i) st rfl Try.underlying41 Try.underlying41 (.inr ⟨_, rfl⟩) TF.t5 TF.z5 rfl rfl (hsB.src st.im (one_bs _)) (by omega) (by omega) rfl ?_
    intro v1 w st hv1
    refine wl_val (v_assign' (by conv => (lhs; whnf))) rfl ?_
    refine wl_nil ?_
    refine then_go ?_
    refine wc_region ?_
    refine wl_val (v_move' (by conv => (lhs; whnf))) rfl ?_
    refine wl_val (v_sla 0 32 Try.underlying23 TF.t5 rfl rfl rfl (by omega) (by omega) (by omega)) rfl ?_
    refine wl_appBi 1 (l2 := opPart sig i) st rfl Try.underlying41 Try.underlying41 (.inr ⟨_, rfl⟩) TF.t5 TF.z5 rfl rfl (st.srcArr (off := 0) 0 rfl (by rw [length_bs, length_part]) (fun j u hj => by simpa using hj) (one_bs _)) (by rw [List.length_append, length_part]; omega) (by rw [List.length_append, length_part]; omega) rfl ?_
    intro v1 w st hv1
    have hO : openedK (sum b) sig i ++ opAway sig i ++ opPart sig i = openedK (sum b) sig (i + 1) := by rw [openedK_succ, opStep, if_pos h41, List.append_assoc]
    rw [hO] at st
    refine wl_val (v_assign' (by conv => (lhs; whnf))) rfl ?_
    refine wl_nil ?_
    refine block_go (then_go ?_)
    refine wc_region ?_
    refine wl_val (v_move' (by conv => (lhs; whnf))) rfl ?_
    refine wl_val (v_add' rfl rfl rfl (by first | omega | (dsimp only at *; omega)) (by first | omega | (dsimp only at *; omega))) rfl ?_
    refine wl_val (v_assign' (by conv => (lhs; whnf))) rfl ?_
    refine wl_nil ?_
    refine then_go ?_
    exact ⟨q - 1, by simp; omega, i + 1, v1, by omega, rfl, rfl, rfl, rfl, st.drop 0⟩
   ·refine wc_seq ?_
    refine wc_region ?_
    refine wl_val (v_move' (by conv => (lhs; whnf))) rfl ?_
    refine wl_val (v_sla 0 32 Try.underlying23 TF.t5 rfl rfl rfl (by omega) (by omega) (by omega)) rfl ?_
    refine wl_appBi 1 (l2 := opPart sig i) st rfl Try.underlying41 Try.underlying41 (.inr ⟨_, rfl⟩) TF.t5 TF.z5 rfl rfl (st.srcArr (off := 0) 0 rfl (by rw [length_bs, length_part]) (fun j u hj => by simpa using hj) (one_bs _)) (by rw [length_part]; omega) (by rw [length_part]; omega) rfl ?_
    intro v1 w st hv1
    refine wl_val (v_assign' (by conv => (lhs; whnf))) rfl ?_
    refine wl_nil ?_
    refine then_go ?_
    refine wc_region ?_
    refine wl_val (v_move' (by conv => (lhs; whnf))) rfl ?_
    refine wl_val (v_move' (by conv => (lhs; whnf))) rfl ?_
    refine wl_appBi 1 (l2 := opAway sig i) st rfl Try.underlying41 Try.underlying41 (.inr ⟨_, rfl⟩) TF.t5 TF.z5 rfl rfl (hsB.src st.im (one_bs _)) (by rw [List.length_append, length_part]; omega) (by rw [List.length_append, length_part]; omega) rfl ?_
    intro v1 w st hv1
    have hO : openedK (sum b) sig i ++ opPart sig i ++ opAway sig i = openedK (sum b) sig (i + 1) := by rw [openedK_succ, opStep, if_neg (by rw [h41]; simp), List.append_assoc]
    rw [hO] at st
    refine wl_val (v_assign' (by conv => (lhs; whnf))) rfl ?_
    refine wl_nil ?_
    refine block_go (then_go ?_)
    refine wc_region ?_
    refine wl_val (v_move' (by conv => (lhs; whnf))) rfl ?_
    refine wl_val (v_add' rfl rfl rfl (by first | omega | (dsimp only at *; omega)) (by first | omega | (dsimp only at *; omega))) rfl ?_
    refine wl_val (v_assign' (by conv => (lhs; whnf))) rfl ?_
    refine wl_nil ?_
    refine then_go ?_
    exact ⟨q - 1, by simp; omega, i + 1, v1, by omega, rfl, rfl, rfl, rfl, st.drop 0⟩
  ·refine wc_exit (then_exit (then_exit (block_hit ?_)))
   refine then_go ?_
   refine wc_seq ?_
   refine wc_region ?_
   refine wl_val (v_move' (by conv => (lhs; whnf))) rfl ?_
   refine wl_val (v_assign' (by conv => (lhs; whnf))) rfl ?_
   refine wl_val (v_assign' (by conv => (lhs; whnf))) rfl ?_
   refine wl_nil ?_
   refine then_go ?_
   refine wc_ret ?_
   have hi : i = 256 := by omega
   subst hi
   obtain ⟨m2, hg2, hq2, st⟩ := st.keepB (i := 0) rfl
   exact ret2 rfl rfl ((st.keepOnly (l := []) (List.nil_sublist _)).out ⟨_, _, rfl, .inl ⟨hlen, rfl, hq2⟩⟩)
def lamOk (pub b sig : By) : Prop := sig.length = 16384 ∧ sum (openedK (sum b) sig 256) = pub
instance {pub b sig : By} : Decidable (lamOk pub b sig) := by unfold lamOk; infer_instance
theorem length_openedF {d sig : By} (h : sig.length = 16384) : (openedK d sig 256).length = 16385 := length_openedK h (by omega)
theorem c_lcheck {bv sv : Value} {pub b sig : By} (him : Im m wI) (hp : pub.length = 32) (hb : SlM m bv 1 b.length (bs b)) (hbl : b.length ≤ 1099511627776) (hs : SlM m sv 1 sig.length (bs sig)) :
  Ret Try.prog 69 #[arr pub, bv, sv] wI fun v' w' => Out m wI w' fun _ => v' = .int .i64 (if lamOk pub b sig then 0 else 15) := by
 have st := St.start him
 refine ret_of Try.call69 Try.func69 rfl Try.ntmps69 Try.results69 rfl ?_
 refine wc_seq ?_
 refine wc_region ?_
 refine wl_box (v := arr pub) rfl st rfl ?_
 intro b3 w st
 refine wl_val (v_assign' (by conv => (lhs; whnf))) rfl ?_
 refine wl_nil ?_
 refine then_go ?_
 refine wc_seq ?_
 refine wc_region ?_
 refine wl_val (v_move' (by conv => (lhs; whnf))) rfl ?_
 refine wl_val (v_move' (by conv => (lhs; whnf))) rfl ?_
 refine wl_call rfl (c_opened st.im hb hbl hs) rfl ?_
 rintro v12 w ⟨t12, m1, hg1, hi1, v, e, rfl, hve⟩
 have st := st.grown hg1 t12 hi1
 refine wl_val (v_move' (by conv => (lhs; whnf))) rfl ?_
 refine wl_val (v_extract rfl rfl) rfl ?_
 refine wl_val (v_extract rfl rfl) rfl ?_
 refine wl_val (v_assign' (by conv => (lhs; whnf))) rfl ?_
 refine wl_val (v_assign' (by conv => (lhs; whnf))) rfl ?_
 refine wl_nil ?_
 refine then_go ?_
 refine wc_seq ?_
 refine wc_seq ?_
 rcases hve with ⟨hlen, rfl, hv⟩ | ⟨hlen, rfl, rfl⟩
 ·refine wc_draw TF.mixed ?_
  have st := st.pure (touch_drew _)
  refine fl_val 0 rfl (fun _ => (v_move' (by conv => (lhs; whnf)))) rfl (by kernel_rfl) ?_
  refine fl_val 1 rfl (fun _ => (v_eql rfl rfl)) rfl (by kernel_rfl) ?_
  refine fl_val 2 rfl (fun _ => (v_move' (by conv => (lhs; whnf)))) rfl (by kernel_rfl) ?_
  refine fl_on 3 rfl rfl rfl rfl (fun _ => (v_move' (by conv => (lhs; whnf)))) rfl (by kernel_rfl) ?_
  refine fl_ond 5 rfl rfl rfl rfl (v_load rfl (st.reads (v := arr pub) 0 rfl TF.t23 (getV_all (by rw [size_arr, hp])))) rfl (by kernel_rfl) ?_
  refine fl_eff1 4 [1, 0] [5] (by kernel_rfl) ⟨obl_on rfl rfl rfl rfl rfl (v_load rfl (st.reads (v := arr pub) 0 rfl TF.t23 (getV_all (by rw [size_arr, hp])))), trivial⟩ rfl ?_
  refine wl_on rfl rfl ?_
  refine wl_call rfl (c_tagsof st.im hv (by rw [length_openedF hlen]; omega)) rfl ?_
  rintro v19 w ⟨t19, rfl⟩
  have st := st.pure t19
  refine wl_nil ⟨rfl, ?_⟩
  refine fl_on 6 rfl rfl rfl rfl (fun _ => (v_neD rfl rfl (length_sum _) hp)) rfl (by kernel_rfl) ?_
  refine fl_val 7 rfl (fun _ => (v_pick rfl)) rfl (by kernel_rfl) ?_
  refine fl_nil (by kernel_rfl) ⟨obl_on rfl rfl rfl rfl rfl (v_load rfl (st.reads (v := arr pub) 0 rfl TF.t23 (getV_all (by rw [size_arr, hp])))), trivial⟩ ?_
  refine then_go ?_
  refine wc_if rfl (fun h22 => ?_) (fun h22 => ?_)
  ·refine wc_seq ?_
   refine wc_region ?_
   refine wl_val (v_assign' (by conv => (lhs; whnf))) rfl ?_
   refine wl_nil ?_
   refine then_go ?_
   refine wc_ret (then_ret ?_)
   exact ret1 rfl ((st.keepOnly (l := []) (List.nil_sublist _)).out (by rw [if_neg (fun hc => h22 hc.2)]; rfl))
  ·refine wc_skip ?_
   refine then_go ?_
   refine wc_seq ?_
   refine wc_region ?_
   refine wl_val (v_move' (by conv => (lhs; whnf))) rfl ?_
   refine wl_val (v_assign' (by conv => (lhs; whnf))) rfl ?_
   refine wl_nil ?_
   refine then_go ?_
   refine wc_ret ?_
   exact ret1 rfl ((st.keepOnly (l := []) (List.nil_sublist _)).out (by rw [if_pos ⟨hlen, Decidable.not_not.1 h22⟩]; rfl))
 ·refine wc_draw TF.mixed ?_
  have st := st.pure (touch_drew _)
  refine fl_val 0 rfl (fun _ => (v_move' (by conv => (lhs; whnf)))) rfl (by kernel_rfl) ?_
  refine fl_val 1 rfl (fun _ => (v_eql rfl rfl)) rfl (by kernel_rfl) ?_
  refine fl_val 2 rfl (fun _ => (v_move' (by conv => (lhs; whnf)))) rfl (by kernel_rfl) ?_
  refine fl_off 3 rfl rfl rfl rfl rfl rfl (by kernel_rfl) ?_
  refine fl_offd 5 rfl rfl rfl rfl rfl rfl (by kernel_rfl) ?_
  refine fl_eff1 4 [1, 0] [5] (by kernel_rfl) ⟨obl_off rfl rfl rfl rfl rfl rfl, trivial⟩ rfl ?_
  refine wl_off rfl rfl rfl rfl ?_
  refine wl_nil ⟨rfl, ?_⟩
  refine fl_off 6 rfl rfl rfl rfl rfl rfl (by kernel_rfl) ?_
  refine fl_val 7 rfl (fun _ => (v_pick rfl)) rfl (by kernel_rfl) ?_
  refine fl_nil (by kernel_rfl) ⟨obl_off rfl rfl rfl rfl rfl rfl, trivial⟩ ?_
  refine then_go ?_
  refine wc_false rfl ?_
  refine wc_skip ?_
  refine then_go ?_
  refine wc_seq ?_
  refine wc_region ?_
  refine wl_val (v_move' (by conv => (lhs; whnf))) rfl ?_
  refine wl_val (v_assign' (by conv => (lhs; whnf))) rfl ?_
  refine wl_nil ?_
  refine then_go ?_
  refine wc_ret ?_
  exact ret1 rfl ((st.keepOnly (l := []) (List.nil_sublist _)).out (by rw [if_neg (fun hc => hlen hc.1)]; rfl))
theorem c_rlcheck {bv sv : Value} {pub b sig : By} (him : Im m wI) (hp : pub.length = 32) (hb : SlM m bv 1 b.length (bs b)) (hbl : b.length ≤ 1099511627776) (hs : SlM m sv 1 sig.length (bs sig)) :
  Ret Try.prog 71 #[arr pub, bv, sv] wI fun v' w' => Out m wI w' fun _ => v' = .int .i64 (if lamOk pub b sig then 0 else 15) := by
 have st := St.start him
 refine ret_of Try.call71 Try.func71 rfl Try.ntmps71 Try.results71 rfl ?_
 refine wc_seq ?_
 refine wc_region ?_
 refine wl_box (v := arr pub) rfl st rfl ?_
 intro b3 w st
 refine wl_val (v_assign' (by conv => (lhs; whnf))) rfl ?_
 refine wl_nil ?_
 refine then_go ?_
 refine wc_seq ?_
 refine wc_region ?_
 refine wl_val (v_move' (by conv => (lhs; whnf))) rfl ?_
 refine wl_val (v_move' (by conv => (lhs; whnf))) rfl ?_
 refine wl_call rfl (c_ropened st.im hb hbl hs) rfl ?_
 rintro v12 w ⟨t12, m1, hg1, hi1, v, e, rfl, hve⟩
 have st := st.grown hg1 t12 hi1
 refine wl_val (v_move' (by conv => (lhs; whnf))) rfl ?_
 refine wl_val (v_extract rfl rfl) rfl ?_
 refine wl_val (v_extract rfl rfl) rfl ?_
 refine wl_val (v_assign' (by conv => (lhs; whnf))) rfl ?_
 refine wl_val (v_assign' (by conv => (lhs; whnf))) rfl ?_
 refine wl_nil ?_
 refine then_go ?_
 refine wc_seq ?_
 refine wc_seq ?_
 rcases hve with ⟨hlen, rfl, hv⟩ | ⟨hlen, rfl, rfl⟩
 ·refine wc_draw TF.mixed ?_
  have st := st.pure (touch_drew _)
  refine fl_val 0 rfl (fun _ => (v_move' (by conv => (lhs; whnf)))) rfl (by kernel_rfl) ?_
  refine fl_val 1 rfl (fun _ => (v_neq rfl rfl)) rfl (by kernel_rfl) ?_
  refine fl_val 2 rfl (fun _ => (v_move' (by conv => (lhs; whnf)))) rfl (by kernel_rfl) ?_
  refine fl_on 3 rfl rfl rfl rfl (fun _ => (v_move' (by conv => (lhs; whnf)))) rfl (by kernel_rfl) ?_
  refine fl_ond 5 rfl rfl rfl rfl (v_load rfl (st.reads (v := arr pub) 0 rfl TF.t23 (getV_all (by rw [size_arr, hp])))) rfl (by kernel_rfl) ?_
  refine fl_eff1 4 [1, 0] [5] (by kernel_rfl) ⟨obl_on rfl rfl rfl rfl rfl (v_load rfl (st.reads (v := arr pub) 0 rfl TF.t23 (getV_all (by rw [size_arr, hp])))), trivial⟩ rfl ?_
  refine wl_on rfl rfl ?_
  refine wl_call rfl (c_ref3of st.im hv (by rw [length_openedF hlen]; omega)) rfl ?_
  rintro v19 w ⟨t19, rfl⟩
  have st := st.pure t19
  refine wl_nil ⟨rfl, ?_⟩
  refine fl_on 6 rfl rfl rfl rfl (fun _ => (v_neD rfl rfl (length_sum _) hp)) rfl (by kernel_rfl) ?_
  refine fl_val 7 rfl (fun _ => (v_pick rfl)) rfl (by kernel_rfl) ?_
  refine fl_nil (by kernel_rfl) ⟨obl_on rfl rfl rfl rfl rfl (v_load rfl (st.reads (v := arr pub) 0 rfl TF.t23 (getV_all (by rw [size_arr, hp])))), trivial⟩ ?_
  refine then_go ?_
  refine wc_if rfl (fun h22 => ?_) (fun h22 => ?_)
  ·refine wc_seq ?_
   refine wc_region ?_
   refine wl_val (v_assign' (by conv => (lhs; whnf))) rfl ?_
   refine wl_nil ?_
   refine then_go ?_
   refine wc_ret (then_ret ?_)
   exact ret1 rfl ((st.keepOnly (l := []) (List.nil_sublist _)).out (by rw [if_neg (fun hc => h22 hc.2)]; rfl))
  ·refine wc_skip ?_
   refine then_go ?_
   refine wc_seq ?_
   refine wc_region ?_
   refine wl_val (v_assign' (by conv => (lhs; whnf))) rfl ?_
   refine wl_nil ?_
   refine then_go ?_
   refine wc_ret ?_
   exact ret1 rfl ((st.keepOnly (l := []) (List.nil_sublist _)).out (by rw [if_pos ⟨hlen, Decidable.not_not.1 h22⟩]; rfl))
 ·refine wc_draw TF.mixed ?_
  have st := st.pure (touch_drew _)
  refine fl_val 0 rfl (fun _ => (v_move' (by conv => (lhs; whnf)))) rfl (by kernel_rfl) ?_
  refine fl_val 1 rfl (fun _ => (v_neq rfl rfl)) rfl (by kernel_rfl) ?_
  refine fl_val 2 rfl (fun _ => (v_move' (by conv => (lhs; whnf)))) rfl (by kernel_rfl) ?_
  refine fl_off 3 rfl rfl rfl rfl rfl rfl (by kernel_rfl) ?_
  refine fl_offd 5 rfl rfl rfl rfl rfl rfl (by kernel_rfl) ?_
  refine fl_eff1 4 [1, 0] [5] (by kernel_rfl) ⟨obl_off rfl rfl rfl rfl rfl rfl, trivial⟩ rfl ?_
  refine wl_off rfl rfl rfl rfl ?_
  refine wl_nil ⟨rfl, ?_⟩
  refine fl_off 6 rfl rfl rfl rfl rfl rfl (by kernel_rfl) ?_
  refine fl_val 7 rfl (fun _ => (v_pick rfl)) rfl (by kernel_rfl) ?_
  refine fl_nil (by kernel_rfl) ⟨obl_off rfl rfl rfl rfl rfl rfl, trivial⟩ ?_
  refine then_go ?_
  refine wc_true rfl ?_
  refine wc_seq ?_
  refine wc_region ?_
  refine wl_val (v_assign' (by conv => (lhs; whnf))) rfl ?_
  refine wl_nil ?_
  refine then_go ?_
  refine wc_ret (then_ret ?_)
  exact ret1 rfl ((st.keepOnly (l := []) (List.nil_sublist _)).out (by rw [if_neg (fun hc => hlen hc.1)]; rfl))
end
end Go.Proofs.Ytjjpakjgppmmdaa

namespace Go.Proofs.Ytjjpakjgppmmdaa
open Go Go.RowKit K SH PT
structure Hd where
 epoch : UInt64
 root : By
 key : By
deriving DecidableEq
def Hd.ok (h : Hd) : Prop := h.root.length = 32 ∧ h.key.length = 32
def hdC (h : Hd) : List Value := u64 h.epoch :: (bs h.root ++ bs h.key)
def hdV (h : Hd) : Value := .agg (hdC h).toArray
def hd0 : Hd := ⟨0, z32, z32⟩
theorem hd0_ok : hd0.ok := ⟨rfl, rfl⟩
structure Sg where
 root : Rt
 sig : By
def sgC (t : Rt) (sv : Value) : List Value := rtC t ++ [sv]
def SgM (m : Mem) (v : Value) (s : Sg) : Prop := ∃ sv, v = .agg (sgC s.root sv).toArray ∧ SlM m sv 1 s.sig.length (bs s.sig) ∧ s.root.ok
theorem SgM.mono {m m' : Mem} {v : Value} {s : Sg} (h : SgM m v s) (hm : ∀ k o, m k = some o → m' k = some o) : SgM m' v s := by
 obtain ⟨sv, h1, h2, h3⟩ := h
 exact ⟨sv, h1, h2.mono hm, h3⟩
theorem getV_lst {a b c : List Value} {v : Value} {o : Nat} {l : List Value} (hl : l = a ++ v :: c) (ha : a.length = o) : getV false 1 l.toArray o = some v := by
 subst hl; subst ha
 simp [getV]
section
variable {h : Hd} {t : Rt} {sv : Value}
theorem length_hdC (hh : h.ok) : (hdC h).length = 65 := by simp [hdC, length_bs, hh.1, hh.2]
theorem one_hdC : ∀ u ∈ hdC h, u.oneCell' = true := by
 intro u hu
 simp only [hdC, List.mem_cons, List.mem_append] at hu
 rcases hu with rfl | h | h
 ·rfl
 ·exact one_bs _ u h
 ·exact one_bs _ u h
theorem hd_e : getV false 1 (hdC h).toArray 0 = some (u64 h.epoch) := rfl
theorem hd_r (hh : h.ok) : getV true 32 (hdC h).toArray 1 = some (arr h.root) := getV_seg (a := [u64 h.epoch]) (b := bs h.root) (c := bs h.key) (by simp [hdC]) rfl (by rw [length_bs, hh.1])
theorem hd_k (hh : h.ok) : getV true 32 (hdC h).toArray 33 = some (arr h.key) := getV_seg (a := u64 h.epoch :: bs h.root) (b := bs h.key) (c := []) (by simp [hdC]) (by simp [length_bs, hh.1]) (by rw [length_bs, hh.2])
theorem length_sgC (ht : t.ok) : (sgC t sv).length = 98 := by simp [sgC, length_rtC ht]
theorem sg_rt (ht : t.ok) : getV true 97 (sgC t sv).toArray 0 = some (rtV t) := getV_seg (a := []) (b := rtC t) (c := [sv]) (by simp [sgC]) rfl (length_rtC ht)
theorem sg_e : getV false 1 (sgC t sv).toArray 0 = some (u64 t.epoch) := rfl
theorem sg_p (ht : t.ok) : getV true 32 (sgC t sv).toArray 1 = some (arr t.prev) := getV_seg (a := [u64 t.epoch]) (b := bs t.prev) (c := bs t.tree ++ bs t.next ++ [sv]) (by simp [sgC, rtC]) rfl (by rw [length_bs, ht.1])
theorem sg_n (ht : t.ok) : getV true 32 (sgC t sv).toArray 65 = some (arr t.next) := getV_seg (a := u64 t.epoch :: (bs t.prev ++ bs t.tree)) (b := bs t.next) (c := [sv]) (by simp [sgC, rtC]) (by simp [length_bs, ht.1, ht.2.1]) (by rw [length_bs, ht.2.2])
theorem sg_s (ht : t.ok) : getV false 1 (sgC t sv).toArray 97 = some sv := getV_lst (a := rtC t) (b := []) (c := []) (by simp [sgC]) (length_rtC ht)
end
def followE (h : Hd) (s : Sg) : Int := if (64 : Int) ≤ h.epoch.toNat then 10 else if s.root.epoch ≠ h.epoch + 1 then 10 else if s.root.prev ≠ h.root then 15 else if lamOk h.key (rootB s.root) s.sig then 0 else 15
def followH (h : Hd) (s : Sg) : Hd := if followE h s = 0 then ⟨s.root.epoch, sum (rootB s.root), s.root.next⟩ else hd0
theorem followH_ok {h : Hd} {s : Sg} (hs : s.root.ok) : (followH h s).ok := by
 unfold followH
 split
 ·exact ⟨length_sum _, hs.2.2⟩
 ·exact hd0_ok
theorem fill_hd {e : UInt64} {r k : By} (hr : r.length = 32) (hk : k.length = 32) : FillR (#[(0, 1), (1, 32), (33, 32)][·]?) (Value.agg ([Value.int .u64 0] ++ List.replicate 32 (Value.int .u8 0) ++ List.replicate 32 (Value.int .u8 0)).toArray).cells [(0, u64 e), (1, arr r), (2, arr k)] (hdC ⟨e, r, k⟩).toArray := by
 refine fill_one [] [u64 0] (bs z32 ++ bs z32) rfl rfl rfl ?_
 refine fill_one [u64 e] (bs z32) (bs z32) rfl rfl (by rw [size_arr, hr]; rfl) ?_
 refine fill_one (u64 e :: bs r) (bs z32) [] (by simp [arr, Value.cells]) (by simp [length_bs, hr, z32]) (by rw [size_arr, hk]; rfl) ?_
 simp [FillR, hdC, arr, Value.cells]
theorem u64_ne {a b : UInt64} : ((a.toNat : Int) = b.toNat) ↔ a = b := by
 constructor
 ·intro h; exact UInt64.toNat_inj.mp (by omega)
 ·intro h; rw [h]
section
variable {m : Mem} {wI : World}
theorem c_follow {h : Hd} {sgv : Value} {s : Sg} (him : Im m wI) (hh : h.ok) (hs : SgM m sgv s) :
  Ret Try.prog 45 #[hdV h, sgv] wI fun v' w' => Out m wI w' fun _ => v' = .tuple #[hdV (followH h s), .int .i64 (followE h s)] := by
 have st := St.start him
 obtain ⟨sv, rfl, hsv, ht⟩ := hs
 refine ret_of Try.call45 Try.func45 rfl Try.ntmps45 Try.results45 rfl ?_
 refine wc_seq ?_
 refine wc_region ?_
 refine wl_box (v := hdV h) rfl st rfl ?_
 intro b2 w st
 refine wl_box (v := .agg (sgC s.root sv).toArray) rfl st rfl ?_
 intro b3 w st
 refine wl_alloc TF.z26 st rfl ?_
 intro b4 w st
 refine wl_val (v_assign' (by conv => (lhs; whnf))) rfl ?_
 refine wl_nil ?_
 refine then_go ?_
 refine wc_seq ?_
 refine wc_region ?_
 refine wl_val (v_fa TF.f71_0 rfl) rfl ?_
 refine wl_val (v_load rfl (st.reads (v := rtV s.root) 1 rfl TF.t55 (sg_rt ht))) rfl ?_
 refine wl_call rfl (c_rootb st.im ht) rfl ?_
 rintro v9 w ⟨t9, m1, hg1, hi1, hb⟩
 have st := st.grown hg1 t9 hi1
 have hsv := hsv.mono hg1.le
 refine wl_val (v_assign' (by conv => (lhs; whnf))) rfl ?_
 refine wl_nil ?_
 refine then_go ?_
 refine wc_seq ?_
 refine wc_block ?_
 refine wc_seq ?_
 refine wc_region ?_
 refine wl_val (v_fa TF.f26_0 rfl) rfl ?_
 refine wl_val (v_load rfl (st.reads (v := u64 h.epoch) 2 rfl TF.t24 hd_e)) rfl ?_
 refine wl_val (v_geq rfl rfl) rfl ?_
 refine wl_val (v_move' (by conv => (lhs; whnf))) rfl ?_
 by_cases hg3 : (64 : Int) ≤ (h.epoch.toNat : Int)
 ·rw [show decide ((64 : Int) ≤ (h.epoch.toNat : Int)) = true from decide_eq_true hg3]
  refine wl_off rfl rfl rfl rfl ?_
  refine wl_off rfl rfl rfl rfl ?_
  refine wl_off rfl rfl rfl rfl ?_
  refine wl_off rfl rfl rfl rfl ?_
  refine wl_off rfl rfl rfl rfl ?_
  refine wl_off rfl rfl rfl rfl ?_
  refine wl_off rfl rfl rfl rfl ?_
  refine wl_val (v_pick rfl) rfl ?_
  refine wl_val (v_assign' (by conv => (lhs; whnf))) rfl ?_
  refine wl_nil ?_
  refine then_go ?_
  refine wc_true rfl ?_
  refine wc_seq ?_
  refine wc_region ?_
  refine wl_val (v_build (c' := (hdC hd0).toArray) [] TF.z26 TF.p26 rfl rfl) rfl ?_
  refine wl_storeW (cs := (hdC hd0).toArray) 0 st rfl TF.t26 rfl rfl rfl rfl (fun u hu => one_hdC u (by simpa using hu)) ?_
  intro w st
  refine wl_val (v_assign' (by conv => (lhs; whnf))) rfl ?_
  refine wl_nil ?_
  refine then_go ?_
  refine wc_ret (block_ret (then_ret ?_))
  have e : followE h s = 10 := by rw [followE, if_pos hg3]
  exact ret2c rfl (st.reads 0 rfl TF.t26 (getV_all rfl)) rfl ((st.keepOnly (l := []) (List.nil_sublist _)).out (by rw [followH, e, if_neg (show ¬ ((10 : Int) = 0) by decide)]; rfl))
 ·rw [show decide ((64 : Int) ≤ (h.epoch.toNat : Int)) = false from decide_eq_false hg3]
  refine wl_on rfl rfl ?_
  refine wl_val (v_fa TF.f71_0 rfl) rfl ?_
  refine wl_on rfl rfl ?_
  refine wl_val (v_fa TF.f55_0 rfl) rfl ?_
  refine wl_on rfl rfl ?_
  refine wl_val (v_load rfl (st.reads (v := u64 s.root.epoch) 1 rfl TF.t24 sg_e)) rfl ?_
  refine wl_on rfl rfl ?_
  refine wl_val (v_fa TF.f26_0 rfl) rfl ?_
  refine wl_on rfl rfl ?_
  refine wl_val (v_load rfl (st.reads (v := u64 h.epoch) 2 rfl TF.t24 hd_e)) rfl ?_
  refine wl_on rfl rfl ?_
  refine wl_val (v_add64 (q := 1) rfl rfl) rfl ?_
  refine wl_on rfl rfl ?_
  refine wl_val (v_neq rfl rfl) rfl ?_
  refine wl_val (v_pick rfl) rfl ?_
  refine wl_val (v_assign' (by conv => (lhs; whnf))) rfl ?_
  refine wl_nil ?_
  refine then_go ?_
  refine wc_if rfl (fun h10 => ?_) (fun h10 => ?_)
  ·refine wc_seq ?_
   refine wc_region ?_
   refine wl_val (v_build (c' := (hdC hd0).toArray) [] TF.z26 TF.p26 rfl rfl) rfl ?_
   refine wl_storeW (cs := (hdC hd0).toArray) 0 st rfl TF.t26 rfl rfl rfl rfl (fun u hu => one_hdC u (by simpa using hu)) ?_
   intro w st
   refine wl_val (v_assign' (by conv => (lhs; whnf))) rfl ?_
   refine wl_nil ?_
   refine then_go ?_
   refine wc_ret (block_ret (then_ret ?_))
   have e : followE h s = 10 := by rw [followE, if_neg hg3, if_pos (fun hc => h10 (u64_ne.2 hc))]
   exact ret2c rfl (st.reads 0 rfl TF.t26 (getV_all rfl)) rfl ((st.keepOnly (l := []) (List.nil_sublist _)).out (by rw [followH, e, if_neg (show ¬ ((10 : Int) = 0) by decide)]; rfl))
  ·refine wc_seq ?_
   refine wc_region ?_
   refine wl_val (v_fa TF.f71_0 rfl) rfl ?_
   refine wl_val (v_fa TF.f55_1 rfl) rfl ?_
   refine wl_val (v_load rfl (st.reads (v := arr s.root.prev) 1 rfl TF.t23 (sg_p ht))) rfl ?_
   refine wl_val (v_fa TF.f26_1 rfl) rfl ?_
   refine wl_val (v_load rfl (st.reads (v := arr h.root) 2 rfl TF.t23 (hd_r hh))) rfl ?_
   refine wl_val (v_neD rfl rfl ht.1 hh.1) rfl ?_
   refine wl_val (v_move' (by conv => (lhs; whnf))) rfl ?_
   by_cases hg6 : ¬ s.root.prev = h.root
   ·rw [show decide (¬ s.root.prev = h.root) = true from decide_eq_true hg6]
    refine wl_off rfl rfl rfl rfl ?_
    refine wl_off rfl rfl rfl rfl ?_
    refine wl_off rfl rfl rfl rfl ?_
    refine wl_off rfl rfl rfl rfl ?_
    refine wl_off rfl rfl rfl rfl ?_
    refine wl_off rfl rfl rfl rfl ?_
    refine wl_off rfl rfl rfl rfl ?_
    refine wl_val (v_pick rfl) rfl ?_
    refine wl_val (v_assign' (by conv => (lhs; whnf))) rfl ?_
    refine wl_nil ?_
    refine then_go ?_
    refine wc_true rfl ?_
    refine wc_seq ?_
    refine wc_region ?_
    refine wl_val (v_build (c' := (hdC hd0).toArray) [] TF.z26 TF.p26 rfl rfl) rfl ?_
    refine wl_storeW (cs := (hdC hd0).toArray) 0 st rfl TF.t26 rfl rfl rfl rfl (fun u hu => one_hdC u (by simpa using hu)) ?_
    intro w st
    refine wl_val (v_assign' (by conv => (lhs; whnf))) rfl ?_
    refine wl_nil ?_
    refine then_go ?_
    refine wc_ret (block_ret (then_ret ?_))
    have e : followE h s = 15 := by rw [followE, if_neg hg3, if_neg (fun hc => hc (u64_ne.1 (Decidable.not_not.1 h10))), if_pos hg6]
    exact ret2c rfl (st.reads 0 rfl TF.t26 (getV_all rfl)) rfl ((st.keepOnly (l := []) (List.nil_sublist _)).out (by rw [followH, e, if_neg (show ¬ ((15 : Int) = 0) by decide)]; rfl))
   ·rw [show decide (¬ s.root.prev = h.root) = false from decide_eq_false hg6]
    refine wl_on rfl rfl ?_
    refine wl_val (v_fa TF.f26_2 rfl) rfl ?_
    refine wl_on rfl rfl ?_
    refine wl_val (v_load rfl (st.reads (v := arr h.key) 2 rfl TF.t23 (hd_k hh))) rfl ?_
    refine wl_on rfl rfl ?_
    refine wl_val (v_move' (by conv => (lhs; whnf))) rfl ?_
    refine wl_on rfl rfl ?_
    refine wl_val (v_fa TF.f71_1 rfl) rfl ?_
    refine wl_on rfl rfl ?_
    refine wl_val (v_load rfl (st.reads (v := sv) 1 rfl TF.t41 (sg_s ht))) rfl ?_
    refine wl_on rfl rfl ?_
    refine wl_call rfl (c_lcheck st.im hh.2 hb (by rw [rootB_len ht]; decide) hsv) rfl ?_
    rintro v37 w ⟨t37, m2, hg2, hi2, rfl⟩
    have st := st.grown hg2 t37 hi2
    have hb := hb.mono hg2.le
    refine wl_on rfl rfl ?_
    refine wl_val (v_neq rfl rfl) rfl ?_
    refine wl_val (v_pick rfl) rfl ?_
    refine wl_val (v_assign' (by conv => (lhs; whnf))) rfl ?_
    refine wl_nil ?_
    refine then_go ?_
    refine wc_if rfl (fun h24 => ?_) (fun h24 => ?_)
    ·refine wc_seq ?_
     refine wc_region ?_
     refine wl_val (v_build (c' := (hdC hd0).toArray) [] TF.z26 TF.p26 rfl rfl) rfl ?_
     refine wl_storeW (cs := (hdC hd0).toArray) 0 st rfl TF.t26 rfl rfl rfl rfl (fun u hu => one_hdC u (by simpa using hu)) ?_
     intro w st
     refine wl_val (v_assign' (by conv => (lhs; whnf))) rfl ?_
     refine wl_nil ?_
     refine then_go ?_
     refine wc_ret (block_ret (then_ret ?_))
     have e : followE h s = 15 := by rw [followE, if_neg hg3, if_neg (fun hc => hc (u64_ne.1 (Decidable.not_not.1 h10))), if_neg hg6, if_neg (fun hc => h24 (by rw [if_pos hc]))]
     exact ret2c rfl (st.reads 0 rfl TF.t26 (getV_all rfl)) rfl ((st.keepOnly (l := []) (List.nil_sublist _)).out (by rw [followH, e, if_neg (show ¬ ((15 : Int) = 0) by decide)]; rfl))
    ·refine wc_skip ?_
     refine block_go (then_go ?_)
     refine wc_seq ?_
     refine wc_draw TF.mixed ?_
     have st := st.pure (touch_drew _)
     refine fl_val 0 rfl (fun _ => (v_fa TF.f71_0 rfl)) rfl (by kernel_rfl) ?_
     refine fl_val 1 rfl (fun _ => (v_fa TF.f55_0 rfl)) rfl (by kernel_rfl) ?_
     refine fl_ld 2 rfl (v_load rfl (st.reads (v := u64 s.root.epoch) 1 rfl TF.t24 sg_e)) (by kernel_rfl) ?_
     refine fl_val 3 rfl (fun _ => (v_move' (by conv => (lhs; whnf)))) rfl (by kernel_rfl) ?_
     refine fl_val 5 rfl (fun _ => (v_fa TF.f71_0 rfl)) rfl (by kernel_rfl) ?_
     refine fl_val 6 rfl (fun _ => (v_fa TF.f55_3 rfl)) rfl (by kernel_rfl) ?_
     refine fl_ld 7 rfl (v_load rfl (st.reads (v := arr s.root.next) 1 rfl TF.t23 (sg_n ht))) (by kernel_rfl) ?_
     refine fl_eff1 4 [6, 5, 1, 0] [7, 2] (by kernel_rfl) ⟨obl_ld rfl rfl rfl (v_load rfl (st.reads (v := arr s.root.next) 1 rfl TF.t23 (sg_n ht))), obl_ld rfl rfl rfl (v_load rfl (st.reads (v := u64 s.root.epoch) 1 rfl TF.t24 sg_e)), trivial⟩ rfl ?_
     refine wl_call rfl (c_tagsof st.im hb (by rw [rootB_len ht]; decide)) rfl ?_
     rintro v45 w ⟨t45, rfl⟩
     have st := st.pure t45
     refine wl_nil ⟨rfl, ?_⟩
     refine fl_val 8 rfl (fun _ => (v_build (c' := (hdC ⟨s.root.epoch, sum (rootB s.root), s.root.next⟩).toArray) [(0, u64 s.root.epoch), (1, arr (sum (rootB s.root))), (2, arr s.root.next)] TF.z26 TF.p26 rfl (fill_hd (length_sum _) ht.2.2))) rfl (by kernel_rfl) ?_
     refine fl_eff1 9 [] [] (by kernel_rfl) ⟨obl_ld rfl rfl rfl (v_load rfl (st.reads (v := arr s.root.next) 1 rfl TF.t23 (sg_n ht))), obl_ld rfl rfl rfl (v_load rfl (st.reads (v := u64 s.root.epoch) 1 rfl TF.t24 sg_e)), trivial⟩ rfl ?_
     refine wl_storeW (cs := (hdC ⟨s.root.epoch, sum (rootB s.root), s.root.next⟩).toArray) 0 st rfl TF.t26 rfl rfl (by rw [List.size_toArray, length_hdC ⟨length_sum _, ht.2.2⟩]) rfl (fun u hu => one_hdC u (by simpa using hu)) ?_
     intro w st
     refine wl_nil ⟨rfl, ?_⟩
     refine fl_eff1 10 [] [] (by kernel_rfl) trivial rfl ?_
     refine wl_val (v_assign' (by conv => (lhs; whnf))) rfl ?_
     refine wl_nil ⟨rfl, ?_⟩
     refine fl_nil (by kernel_rfl) trivial ?_
     refine then_go ?_
     refine wc_ret ?_
     have hl : lamOk h.key (rootB s.root) s.sig := by
      refine Decidable.byContradiction fun hc => h24 ?_
      rw [if_neg hc]; decide
     have e : followE h s = 0 := by rw [followE, if_neg hg3, if_neg (fun hc => hc (u64_ne.1 (Decidable.not_not.1 h10))), if_neg hg6, if_pos hl]
     exact ret2c rfl (st.reads 0 rfl TF.t26 (getV_all (by rw [List.size_toArray, length_hdC ⟨length_sum _, ht.2.2⟩]))) rfl ((st.keepOnly (l := []) (List.nil_sublist _)).out (by rw [followH, e, if_pos (show (0 : Int) = 0 from rfl)]; rfl))
end
end Go.Proofs.Ytjjpakjgppmmdaa

namespace Go.Proofs.Ytjjpakjgppmmdaa
open Go Go.RowKit Go.ChangeShapes Go.WideShapes Go.Deep
namespace K
section
variable {H : Type} {enc : TypeId × Value → H} {P : Program} {w : World} {sp : Nat → Bool} {held : Bool} {t e : TypeId} {fuel : Nat} {x : DataW H × List MemPlace} {v : Value}
theorem cell_some {a : Addr} {u : Value} (h : w.cell? a = some u) : a.spot = none ∧ ∃ c t fr, w.heap[a.block]? = some (.cells c t fr) ∧ c[a.off]? = some u := by
 unfold World.cell? at h
 split at h
 ·rename_i c t fr hb
  split at h
  ·cases h
  ·rename_i hs
   exact ⟨by simpa using hs, c, t, fr, hb, h⟩
 ·cases h
theorem flat_at {size : Nat} : ∀ (k : Nat) (X : Nat → List Value), (∀ i, i < k → (X i).length = size) → ((List.range k).flatMap X).length = k * size ∧ ∀ i j u, i < k → (X i)[j]? = some u → ((List.range k).flatMap X)[i * size + j]? = some u
 | 0, X, _ => by simp
 | k + 1, X, h => by
  have ih := flat_at k X fun i hi => h i (by omega)
  rw [List.range_succ, List.flatMap_append]
  have e : [k].flatMap X = X k := by simp
  rw [e]
  refine ⟨by rw [List.length_append, ih.1, h k (by omega), Nat.add_mul, Nat.one_mul], fun i j u hi hj => ?_⟩
  rcases Nat.lt_or_ge i k with h1 | h1
  ·have h2 := ih.2 i j u h1 hj
   rw [List.getElem?_append_left]
   ·exact h2
   ·rcases Nat.lt_or_ge (i * size + j) ((List.range k).flatMap X).length with h3 | h3
    ·exact h3
    ·rw [List.getElem?_eq_none h3] at h2; cases h2
  ·have h2 : i = k := by omega
   subst h2
   rw [List.getElem?_append_right (by rw [ih.1]; omega), ih.1, Nat.add_sub_cancel_left]
   exact hj
theorem TyF.cells {T : TypeId} {agg : Bool} {size bytes : Nat} (tf : TyF P T agg size bytes) : P.cellsOf T = size := by
 obtain ⟨i, hi, hs, _⟩ := tf.info
 simp [Program.cellsOf, hi, hs]
theorem trod_SlM (ht : P.underlying t = some (.slice e)) (hs : 0 < P.cellsOf e) (h : DataW.trod enc P w 0 sp held fuel t [v] = some x) :
  ∃ (k : Nat) (X : Nat → List Value), SlM (heapM w) v (P.cellsOf e) k ((List.range k).flatMap X) ∧ (k : Int) ≤ 9223372036854775807 ∧ ∀ i, i < k → (X i).length = P.cellsOf e ∧ ∃ n y, DataW.trod enc P w 0 sp held n e (X i) = some y := by
 rcases open_slice ht h with ⟨h0, _⟩ | ⟨a, len, cap, m, n, D, Pl, hv, _, hl, hm, hmm, _, hx⟩
 ·rw [List.cons.injEq] at h0
  obtain ⟨rfl, _⟩ := h0
  exact ⟨0, fun _ => [], by simpa using SlM.nil, by decide, by simp⟩
 ·rw [List.cons.injEq] at hv
  obtain ⟨rfl, _⟩ := hv
  have hmlen : len ≤ m := by rw [hmm]; split <;> omega
  obtain ⟨X, hX⟩ := choose_lt (α := List Value) (p := fun i cs => w.cells? 0 (a.add (i * P.cellsOf e)) (P.cellsOf e) = some cs ∧ DataW.trod enc P w 0 sp held n e cs = some (D i, Pl i)) (fun i hi => hx i hi)
  have hlen : ∀ i, i < len → (X i).length = P.cellsOf e := fun i hi => (World.cells?_some (hX i (by omega)).1).2.1
  have hcell : ∀ i j u, i < len → (X i)[j]? = some u → w.cell? (a.add (i * P.cellsOf e + j)) = some u := fun i j u hi hj => by
   have hjs : j < P.cellsOf e := by
    rcases Nat.lt_or_ge j (X i).length with h' | h'
    ·rw [hlen i hi] at h'; exact h'
    ·rw [List.getElem?_eq_none h'] at hj; cases hj
   have := (World.cells?_some (hX i (by omega)).1).2.2 j hjs
   rw [add_add] at this
   rw [this, hj]
  refine ⟨len, X, ⟨(flat_at len X hlen).1, some a, cap, rfl, hl, by simp, fun j u hj => ?_⟩, by unfold maxLen at hm; omega, fun i hi => ⟨hlen i hi, n, _, (hX i (by omega)).2⟩⟩
  have hjl : j < len * P.cellsOf e := by
   rw [← (flat_at len X hlen).1]
   rcases Nat.lt_or_ge j ((List.range len).flatMap X).length with h' | h'
   ·exact h'
   ·rw [List.getElem?_eq_none h'] at hj; cases hj
  have h0len : 0 < len := by
   rcases Nat.eq_zero_or_pos len with h0 | h0
   ·subst h0; simp at hjl
   ·exact h0
  have hspot : a.spot = none := by
   have h1 : (X 0)[0]? = some ((X 0)[0]'(by rw [hlen 0 h0len]; exact hs)) := List.getElem?_eq_getElem _
   have := hcell 0 0 _ h0len h1
   rw [Nat.zero_mul, Nat.zero_add, show a.add 0 = a by simp [Addr.add]] at this
   exact (cell_some this).1
  have hdiv : j / P.cellsOf e < len := (Nat.div_lt_iff_lt_mul hs).2 hjl
  have hmod : j % P.cellsOf e < P.cellsOf e := Nat.mod_lt _ hs
  have hu : (X (j / P.cellsOf e))[j % P.cellsOf e]? = some ((X (j / P.cellsOf e))[j % P.cellsOf e]'(by rw [hlen _ hdiv]; exact hmod)) := List.getElem?_eq_getElem _
  have hidx : j / P.cellsOf e * P.cellsOf e + j % P.cellsOf e = j := Nat.div_add_mod' j _
  have h2 := (flat_at len X hlen).2 _ _ _ hdiv hu
  rw [hidx, hj] at h2
  rw [← h2] at hu
  have h3 := hcell _ _ _ hdiv hu
  rw [hidx] at h3
  obtain ⟨_, c, t', fr, hb, hc⟩ := cell_some h3
  refine ⟨a.block, a.off, c, t', fr, ?_, ?_, ?_⟩
  ·cases a; simp_all
  ·have e1 : (a.add j).block = a.block := by unfold Addr.add; split <;> rfl
   rw [e1] at hb
   exact hb
  ·have e1 : (a.add j).off = a.off + j := by unfold Addr.add; split <;> simp_all
   rw [e1] at hc
   exact hc
theorem flat_one {α : Type} (k : Nat) (X : Nat → List Value) (g : α → Value) (hX : ∀ i, i < k → ∃ y, X i = [g y]) : ∃ l : List α, l.length = k ∧ (List.range k).flatMap X = l.map g := by
 induction k with
 | zero => exact ⟨[], rfl, rfl⟩
 | succ k ih =>
  obtain ⟨l, h1, h2⟩ := ih fun i hi => hX i (by omega)
  obtain ⟨y, hy⟩ := hX k (by omega)
  refine ⟨l ++ [y], by simp [h1], ?_⟩
  rw [List.range_succ, List.flatMap_append, h2]
  simp [hy]
theorem trod_bytes (ht : P.underlying t = some (.slice e)) (he : P.underlying e = some (.int .u8)) (hc : P.cellsOf e = 1) (h : DataW.trod enc P w 0 sp held fuel t [v] = some x) :
  ∃ l : List UInt8, SlM (heapM w) v 1 l.length (bs l) ∧ (l.length : Int) ≤ 9223372036854775807 := by
 obtain ⟨k, X, hS, hk, hX⟩ := trod_SlM ht (by omega) h
 rw [hc] at hS
 obtain ⟨l, h1, h2⟩ := flat_one (α := UInt8) k X u8 fun i hi => by
  obtain ⟨_, n, y, hy⟩ := hX i hi
  obtain ⟨z, hz, _, hw⟩ := DataW.trod_int he hy
  simp only [Lit.wf, Bool.and_eq_true, decide_eq_true_eq] at hw
  have hw1 : 0 ≤ z := hw.1
  have hw2 : z ≤ 255 := hw.2
  refine ⟨UInt8.ofNat z.toNat, ?_⟩
  rw [hz]
  simp only [u8, List.cons.injEq, Value.int.injEq, true_and, and_true]
  rw [UInt8.toNat_ofNat']
  omega
 rw [h2] at hS
 subst h1
 exact ⟨l, hS, hk⟩
theorem post_true {f : Func} {s : ChangeSpec} {W W' : World} {args : Array Value} {ds gs : List (DataW H)} {before : List MemPlace} {b : TypeId} (hl : laidOutB P = true) (hpar : f.params.toList.all (fun t => P.readableRec t && decide (t < P.types.size)) = true) (hvars : s.vars = [])
  (hW : DataW.Whole enc P f.params.toList s.vars false W args.toList ds gs before) (t : Tch W W' [] []) (hfn : s.fn H ds = { results := [.lit (.bool true)], args := ds }) (hres : f.resultTypes = #[b]) (hb : P.underlying b = some .bool) :
  s.post enc P f false true false false W args (.bool true) W' := by
 have hlt := fun p hp => hW.lt p hp
 have hW0 := hW
 obtain ⟨p, q, hA, hV, rfl, hfz, _⟩ := hW
 have hq : q = [] ∧ gs = [] := by
  rw [hvars] at hV
  cases gs with
  | nil => exact ⟨hV, rfl⟩
  | cons _ _ => exact hV.elim
 obtain ⟨rfl, rfl⟩ := hq
 have stays : ∀ (ts : List TypeId) (vs : List Value) (ds : List (DataW H)) (p : List MemPlace), ts.all (fun t => P.readableRec t && decide (t < P.types.size)) = true → (∀ x ∈ p, x.block < W.heap.size) → DataW.TrodAll enc P W 0 (fun _ => true) true ts vs ds p → DataW.TrodAll enc P W' 0 (fun b => decide (b < W.heap.size)) true ts vs ds p := by
  intro ts
  induction ts with
  | nil => intro vs ds p _ _ h; cases vs <;> cases ds <;> first | exact h | exact h.elim
  | cons t0 ts ih =>
   intro vs ds p hall hp h
   cases vs with
   | nil => exact h.elim
   | cons v0 vs =>
    cases ds with
    | nil => exact h.elim
    | cons d0 ds =>
     obtain ⟨p1, q1, h1, h2, rfl⟩ := h
     simp only [List.all_cons, Bool.and_eq_true, decide_eq_true_eq] at hall
     exact ⟨p1, q1, Below.trod hl hall.1.1 hall.1.2 h1 t.below (fun x hx => hp x (List.mem_append_left _ hx)), ih vs ds q1 (by simpa using hall.2) (fun x hx => hp x (List.mem_append_right _ hx)) h2, rfl⟩
 refine ⟨ds, [], p ++ [], [], p, [], hW0, ?_, ?_, ?_, ?_, fun h => by cases h⟩
 all_goals try rw [List.append_nil ds]
 ·rw [hfn, hres]
  refine ⟨[], [], ⟨1, ?_⟩, rfl, rfl⟩
  simp [DataW.trod, Value.cells, hb, Value.resultList]
 ·rw [hfn]
  exact stays _ _ _ _ hpar (fun x hx => hlt x (by simpa using hx)) hA
 ·rw [hvars, hfn]
  rfl
 ·refine ⟨t.os, t.output, fun i hi => ?_⟩
  have := (World.keptBut_refl W (fun p_1 => p_1 ∈ p ++ [] ∧ (p_1 ∈ ([] : List MemPlace) ∨ p_1 ∈ p ∨ p_1 ∈ ([] : List MemPlace)))).2.2 i hi
  rw [t.block i hi (by simp)]
  exact this
end
end K
end Go.Proofs.Ytjjpakjgppmmdaa

namespace Go.Proofs.Ytjjpakjgppmmdaa
open Go Go.RowKit K SH PT
section
variable {P : Program} {w : World}
theorem part_of {T : TypeId} {agg : Bool} {size bytes off : Nat} {v : Value} {cs : Array Value} (tf : TyF P T agg size bytes) (hv : getV agg size cs off = some v) : (part T cs off).run P w = .ok v w := by
 unfold getV at hv
 cases agg with
 | true =>
  rw [if_pos rfl] at hv
  split at hv
  ·cases hv
   simp [part, tf.isagg, tf.sz]
  ·cases hv
 | false =>
  rw [if_neg (by simp), Array.getElem?_toList] at hv
  simp [part, tf.isagg, hv]
theorem eqF_cons {d : Nat} {xs ys : Array Value} {f : Field} {fs : List Field} {a b : Value} {r : Bool} (hn : f.name ≠ "_") (pa : (part f.type xs f.offset).run P w = .ok a w) (pb : (part f.type ys f.offset).run P w = .ok b w) (he : (Op.equalIn d f.type a b).run P w = .ok r w) {r' : Bool}
  (hr : (Op.eqFields d xs ys fs).run P w = .ok r' w) : (Op.eqFields d xs ys (f :: fs)).run P w = .ok (r && r') w := by
 simp only [Op.eqFields, hn, ne_eq, not_false_eq_true, if_true, Sem.run_bind, pa, pb, he, Result.andThen_ok]
 cases r
 ·simp
 ·simpa using hr
theorem eqF_nil {d : Nat} {xs ys : Array Value} : (Op.eqFields d xs ys []).run P w = .ok true w := by simp [Op.eqFields]
end
theorem eqIn_dig {w : World} {d : Nat} {a b : By} (ha : a.length = 32) (hb : b.length = 32) : (Op.equalIn (d + 2) 23 (arr a) (arr b)).run Try.prog w = .ok (decide (a = b)) w := by
 have tf := TF.t5
 obtain ⟨i, hi, hs, _⟩ := tf.info
 have h := run_equalIn_array (P := Try.prog) w (d + 1) (t := 23) (e := 5) (n := 32) (i := i) (bs a).toArray (bs b).toArray Try.underlying23 hi
 have hc : Try.prog.cellsOf 5 = 1 := tf.cells
 rw [hc] at h
 have h2 := run_eqItems_int (P := Try.prog) (w := w) tf Try.underlying5 (bs a).toArray (bs b).toArray (a.map fun x => (x.toNat : Int)) (b.map fun x => (x.toNat : Int)) (by rw [bs_ints]) (by rw [bs_ints]) (by simp [ha, hb]) d 32 0 (by simp [ha])
 rw [List.range_eq_range'] at h
 have e := h.trans h2
 rw [List.drop_zero, List.drop_zero] at e
 have e2 : decide ((a.map fun x => (x.toNat : Int)) = (b.map fun x => (x.toNat : Int))) = decide (a = b) := decide_eq_decide.2 ints_inj
 rw [e2] at e
 exact e
theorem run_eq_hd {w : World} {a b : Hd} (ha : a.ok) (hb : b.ok) : (Op.equal 26 (hdV a) (hdV b)).run Try.prog w = .ok (decide (a = b)) w := by
 unfold Op.equal
 rw [show Op.maxDepth = 9999 + 1 from rfl]
 have h := run_equalIn_struct (P := Try.prog) w 9999 26 (hdC a).toArray (hdC b).toArray (by unfold Program.fieldsOf; rw [Try.underlying26]) (by kernel_rfl)
 refine h.trans ?_
 simp only [Program.fieldsOf, Try.underlying26]
 obtain ⟨d, hd⟩ : ∃ d, 9999 = d + 2 := ⟨9997, rfl⟩
 rw [hd]
 have pa1 : (part 24 (hdC a).toArray 0).run Try.prog w = .ok (u64 a.epoch) w := part_of TF.t24 hd_e
 have pb1 : (part 24 (hdC b).toArray 0).run Try.prog w = .ok (u64 b.epoch) w := part_of TF.t24 hd_e
 have pa2 : (part 23 (hdC a).toArray 1).run Try.prog w = .ok (arr a.root) w := part_of TF.t23 (hd_r ha)
 have pb2 : (part 23 (hdC b).toArray 1).run Try.prog w = .ok (arr b.root) w := part_of TF.t23 (hd_r hb)
 have pa3 : (part 23 (hdC a).toArray 33).run Try.prog w = .ok (arr a.key) w := part_of TF.t23 (hd_k ha)
 have pb3 : (part 23 (hdC b).toArray 33).run Try.prog w = .ok (arr b.key) w := part_of TF.t23 (hd_k hb)
 have q1 : (Op.equalIn (d + 2) 24 (u64 a.epoch) (u64 b.epoch)).run Try.prog w = .ok ((a.epoch.toNat : Int) == (b.epoch.toNat : Int)) w := run_equalIn_int w (d + 1) 24 .u64 .u64 _ _ Try.underlying24
 refine Eq.trans (eqF_cons (a := u64 a.epoch) (b := u64 b.epoch) (r := (a.epoch.toNat : Int) == (b.epoch.toNat : Int)) (r' := decide (a.root = b.root) && (decide (a.key = b.key) && true)) ?_ ?_ ?_ ?_ ?_) ?_
 ·decide
 ·exact pa1
 ·exact pb1
 ·exact q1
 ·refine eqF_cons (a := arr a.root) (b := arr b.root) ?_ ?_ ?_ ?_ ?_
  ·decide
  ·exact pa2
  ·exact pb2
  ·exact eqIn_dig (d := d) ha.1 hb.1
  ·refine eqF_cons (a := arr a.key) (b := arr b.key) ?_ ?_ ?_ ?_ eqF_nil
   ·decide
   ·exact pa3
   ·exact pb3
   ·exact eqIn_dig (d := d) ha.2 hb.2
 refine congrArg (fun z => Result.ok z w) ?_
 obtain ⟨e1, r1, k1⟩ := a
 obtain ⟨e2, r2, k2⟩ := b
 have h1 : ((e1.toNat : Int) == (e2.toNat : Int)) = decide (e1 = e2) := by
  rw [Bool.eq_iff_iff]
  simp only [beq_iff_eq, decide_eq_true_eq]
  exact u64_ne
 simp only [h1]
 rw [Bool.eq_iff_iff]
 simp
theorem getRt {t : Rt} (ht : t.ok) : getV true 32 (rtC t).toArray 1 = some (arr t.prev) ∧ getV true 32 (rtC t).toArray 33 = some (arr t.tree) ∧ getV true 32 (rtC t).toArray 65 = some (arr t.next) :=
  ⟨getV_seg (a := [u64 t.epoch]) (b := bs t.prev) (c := bs t.tree ++ bs t.next) (by simp [rtC]) rfl (by rw [length_bs, ht.1]),
   getV_seg (a := u64 t.epoch :: bs t.prev) (b := bs t.tree) (c := bs t.next) (by simp [rtC]) (by simp [length_bs, ht.1]) (by rw [length_bs, ht.2.1]),
   getV_seg (a := u64 t.epoch :: (bs t.prev ++ bs t.tree)) (b := bs t.next) (c := []) (by simp [rtC]) (by simp [length_bs, ht.1, ht.2.1]) (by rw [length_bs, ht.2.2])⟩
theorem run_eq_rt {w : World} {a b : Rt} (ha : a.ok) (hb : b.ok) : (Op.equal 55 (rtV a) (rtV b)).run Try.prog w = .ok (decide (a = b)) w := by
 unfold Op.equal
 rw [show Op.maxDepth = 9999 + 1 from rfl]
 have h := run_equalIn_struct (P := Try.prog) w 9999 55 (rtC a).toArray (rtC b).toArray (by unfold Program.fieldsOf; rw [Try.underlying55]) (by kernel_rfl)
 refine h.trans ?_
 simp only [Program.fieldsOf, Try.underlying55]
 obtain ⟨d, hd⟩ : ∃ d, 9999 = d + 2 := ⟨9997, rfl⟩
 rw [hd]
 have pa1 : (part 24 (rtC a).toArray 0).run Try.prog w = .ok (u64 a.epoch) w := part_of TF.t24 rfl
 have pb1 : (part 24 (rtC b).toArray 0).run Try.prog w = .ok (u64 b.epoch) w := part_of TF.t24 rfl
 have pa2 : (part 23 (rtC a).toArray 1).run Try.prog w = .ok (arr a.prev) w := part_of TF.t23 (getRt ha).1
 have pb2 : (part 23 (rtC b).toArray 1).run Try.prog w = .ok (arr b.prev) w := part_of TF.t23 (getRt hb).1
 have pa3 : (part 23 (rtC a).toArray 33).run Try.prog w = .ok (arr a.tree) w := part_of TF.t23 (getRt ha).2.1
 have pb3 : (part 23 (rtC b).toArray 33).run Try.prog w = .ok (arr b.tree) w := part_of TF.t23 (getRt hb).2.1
 have pa4 : (part 23 (rtC a).toArray 65).run Try.prog w = .ok (arr a.next) w := part_of TF.t23 (getRt ha).2.2
 have pb4 : (part 23 (rtC b).toArray 65).run Try.prog w = .ok (arr b.next) w := part_of TF.t23 (getRt hb).2.2
 have q1 : (Op.equalIn (d + 2) 24 (u64 a.epoch) (u64 b.epoch)).run Try.prog w = .ok ((a.epoch.toNat : Int) == (b.epoch.toNat : Int)) w := run_equalIn_int w (d + 1) 24 .u64 .u64 _ _ Try.underlying24
 refine Eq.trans (eqF_cons (a := u64 a.epoch) (b := u64 b.epoch) (r := (a.epoch.toNat : Int) == (b.epoch.toNat : Int)) (r' := decide (a.prev = b.prev) && (decide (a.tree = b.tree) && (decide (a.next = b.next) && true))) ?_ ?_ ?_ ?_ ?_) ?_
 ·decide
 ·exact pa1
 ·exact pb1
 ·exact q1
 ·refine eqF_cons (a := arr a.prev) (b := arr b.prev) ?_ ?_ ?_ ?_ ?_
  ·decide
  ·exact pa2
  ·exact pb2
  ·exact eqIn_dig (d := d) ha.1 hb.1
  ·refine eqF_cons (a := arr a.tree) (b := arr b.tree) ?_ ?_ ?_ ?_ ?_
   ·decide
   ·exact pa3
   ·exact pb3
   ·exact eqIn_dig (d := d) ha.2.1 hb.2.1
   ·refine eqF_cons (a := arr a.next) (b := arr b.next) ?_ ?_ ?_ ?_ eqF_nil
    ·decide
    ·exact pa4
    ·exact pb4
    ·exact eqIn_dig (d := d) ha.2.2 hb.2.2
 refine congrArg (fun z => Result.ok z w) ?_
 obtain ⟨e1, r1, k1, l1⟩ := a
 obtain ⟨e2, r2, k2, l2⟩ := b
 have h1 : ((e1.toNat : Int) == (e2.toNat : Int)) = decide (e1 = e2) := by
  rw [Bool.eq_iff_iff]
  simp only [beq_iff_eq, decide_eq_true_eq]
  exact u64_ne
 simp only [h1]
 rw [Bool.eq_iff_iff]
 simp
section
variable {r : Fr} {w : World} {ty U : TypeId} {x y : Operand}
theorem v_neHd {a b : Hd} (hx : ev r x = hdV a) (hy : ev r y = hdV b) (ha : a.ok) (hb : b.ok) : Val Try.prog (.binOp .neq 26 x y U) ty r w (.bool (decide (¬ a = b))) w := by
 intro _ _ _ _
 have hg := run_eqGuard_agg (P := Try.prog) w .neq 26 x y (hdC a).toArray (hdC b).toArray TF.e26
 have he := run_eq_hd (w := w) ha hb
 unfold hdV at hx hy he
 simp only [execOp, hx, hy, Sem.run_bind, hg, Result.andThen_ok, binOp, he, Sem.run_pure]
 simp
theorem v_neRt {a b : Rt} (hx : ev r x = rtV a) (hy : ev r y = rtV b) (ha : a.ok) (hb : b.ok) : Val Try.prog (.binOp .neq 55 x y U) ty r w (.bool (decide (¬ a = b))) w := by
 intro _ _ _ _
 have hg := run_eqGuard_agg (P := Try.prog) w .neq 55 x y (rtC a).toArray (rtC b).toArray TF.e55
 have he := run_eq_rt (w := w) ha hb
 unfold rtV at hx hy he
 simp only [execOp, hx, hy, Sem.run_bind, hg, Result.andThen_ok, binOp, he, Sem.run_pure]
 simp
end
end Go.Proofs.Ytjjpakjgppmmdaa

namespace Go.Proofs.Ytjjpakjgppmmdaa
open Go Go.RowKit K SH PT
section lists
variable {α : Type} {c : α → List Value} {size : Nat}
structure LsM (m : Mem) (v : Value) (c : α → List Value) (size : Nat) (L : List α) : Prop where
 row : SlM m v size L.length (L.flatMap c)
 len : ∀ x ∈ L, (c x).length = size
theorem cellsAt_flat : ∀ {L : List α}, (∀ x ∈ L, (c x).length = size) → ∀ {i : Nat} (hi : i < L.length), cellsAt (L.flatMap c) size i = c L[i]
 | [], _, _, hi => by simp at hi
 | x :: L, h, 0, _ => by
  have h1 := h x (by simp)
  simp only [cellsAt, List.flatMap_cons, Nat.zero_mul, List.drop_zero, List.getElem_cons_zero]
  rw [List.take_left' h1]
 | x :: L, h, i + 1, hi => by
  have h1 := h x (by simp)
  have h2 := cellsAt_flat (L := L) (fun y hy => h y (by simp [hy])) (i := i) (by simp at hi; omega)
  rw [List.getElem_cons_succ, ← h2]
  simp only [cellsAt, List.flatMap_cons]
  rw [show (i + 1) * size = (c x).length + i * size by rw [h1, Nat.succ_mul]; omega, List.drop_append, List.drop_eq_nil_of_le (by omega), List.nil_append, Nat.add_sub_cancel_left]
theorem LsM.mono {m m' : Mem} {v : Value} {L : List α} (h : LsM m v c size L) (hm : ∀ k o, m k = some o → m' k = some o) : LsM m' v c size L := ⟨h.row.mono hm, h.len⟩
theorem LsM.nil {m : Mem} : LsM m (.slice none 0 0) c size [] := ⟨SlM.nil, by simp⟩
theorem LsM.sl {m : Mem} {v : Value} {L : List α} (h : LsM m v c size L) : ∃ a cap, v = .slice a L.length cap := by
 obtain ⟨_, a, cap, rfl, _⟩ := h.row
 exact ⟨a, cap, rfl⟩
theorem LsM.rd {P : Program} {m : Mem} {a : Option Addr} {k cap : Nat} {L : List α} (h : LsM m (.slice a k cap) c size L) {b o i : Nat} (ha : a = some ⟨b, o, none⟩) (hi : i < L.length) (hs : 0 < size) {T : TypeId} {agg : Bool} {sz bytes off : Nat} {v' : Value} (tf : TyF P T agg sz bytes) (hv : getV agg sz (c L[i]).toArray off = some v') {w : World} (him : Im m w) :
  Reads P w T ⟨b, o + i * size + off, none⟩ v' := by
 obtain ⟨b', o', cap', hv', _, hr⟩ := h.row.elem P (i := i) hi hs
 simp only [Value.slice.injEq] at hv'
 rw [ha] at hv'
 obtain ⟨he, _, _⟩ := hv'
 cases he
 exact hr him tf (by rw [cellsAt_flat h.len hi]; exact hv)
theorem LsM.ptr {m : Mem} {a : Option Addr} {k cap : Nat} {L : List α} (h : LsM m (.slice a k cap) c size L) (hi : 0 < L.length) (hs : 0 < size) : ∃ b o, a = some ⟨b, o, none⟩ := by
 obtain ⟨b, o, cap', hv, _, _⟩ := h.row.elem Try.prog (i := 0) hi hs
 simp only [Value.slice.injEq] at hv
 exact ⟨b, o, hv.1⟩
abbrev lsE (E : TypeId) (size : Nat) (c : α → List Value) (v : Value) (L : List α) : Ent := rowE v E size L.length (L.flatMap c)
variable {P : Program} {n : Nat} {ops : Array Oper} {Q : Po} {rest : List Oper} {r : Fr} {w : World} {d : Nat} {ty : TypeId} {pos : String} {after : Array Edge} {m0 m : Mem} {F : List Nat} {w0 : World} {Es : List Ent}
theorem wl_lsOne {T E : TypeId} {bytes : Nat} {z : Value} {x : Operand} (cv : List Value) (hT : P.underlying T = some (.slice E)) (tf : TyF P E true size bytes) (hz : TyZ P E z) (hs : 0 < size) (hs1 : size ≤ 16777216) (hl : cv.length = size) (hx : ev r x = .agg cv.toArray) (st : St m0 m F w0 w Es) (hd : Nat.blt d n = true)
  (k : ∀ b w', St m0 m F w0 w' (K.blk b cv.toArray E :: Es) → WL P n ops Q rest (upd d (.slice (some ⟨b, 0, none⟩) 1 1) r) w') :
  WL P n ops Q (⟨some d, .buildSlice T 1 #[(0, x)], ty, pos, after, none⟩ :: rest) r w := by
 refine wl_buildSlice (c' := cv.toArray) [(0, .agg cv.toArray)] hT tf hz (by omega) (by omega) (by simp [hx]) ⟨0, size, by simp, by simp [Value.cells, hl], by simp [size_madeCells], ?_⟩ st hd k
 exact setSeg_all (by simp [size_madeCells, Value.cells, hl])
theorem wl_lsApp (i : Nat) {T E : TypeId} {agg : Bool} {bytes b cap : Nat} {z v : Value} {s y : Operand} {L : List α} {e : α} (st : St m0 m F w0 w (K.blk b (c e).toArray E :: Es)) (hi : Es[i]? = some (lsE E size c v L)) (hT : P.underlying T = some (.slice E)) (tf : TyF P E agg size bytes) (hz : TyZ P E z) (hzs : z.cells.size = size) (hl : (c e).length = size) (hone : ∀ u ∈ c e, u.oneCell' = true)
  (hs : ev r s = v) (hy : ev r y = .slice (some ⟨b, 0, none⟩) 1 cap) (hb : (L.length + 1) * bytes ≤ 140737488355328) (h63 : L.length + 1 ≤ 9223372036854775807) (hd : Nat.blt d n = true)
  (k : ∀ v' w', St m0 m F w0 w' (Es.set i (lsE E size c v' (L ++ [e]))) → v'.oneCell' = true → WL P n ops Q rest (upd d v' r) w') :
  WL P n ops Q (⟨some d, .call ⟨.builtin .append, #[s, y], #[T, T]⟩, ty, pos, after, none⟩ :: rest) r w := by
 refine wl_append (news := c e) (i + 1) st hi hT hT (.inr ⟨_, rfl⟩) tf hz hzs hs hy (st.srcArr (off := 0) 0 rfl (by rw [hl]; omega) (fun j u hj => by simpa using hj) hone) h63 hb hd ?_
 intro v' w' _ st'
 have e1 : L.flatMap c ++ c e = (L ++ [e]).flatMap c := by simp
 have e2 : L.length + 1 = (L ++ [e]).length := by simp
 have st2 := st'.drop 0
 rw [e1, e2] at st2
 have st3 : St m0 m F w0 w' (Es.set i (lsE E size c v' (L ++ [e]))) := st2
 have hlt : i < Es.length := by
  rcases Nat.lt_or_ge i Es.length with h | h
  ·exact h
  ·rw [List.getElem?_eq_none h] at hi; cases hi
 have hrow : (lsE E size c v' (L ++ [e])).holds w' := st3.at (i := i) (by simp [hlt])
 exact k v' w' st3 (row_one hrow)
theorem K.St.keepLs (st : St m0 m [] w0 w Es) {i : Nat} {E : TypeId} {v : Value} {L : List α} (hi : Es[i]? = some (lsE E size c v L)) (hL : ∀ x ∈ L, (c x).length = size) :
  ∃ m', Grow m m' w0.heap.size ∧ LsM m' v c size L ∧ St m0 m' [] w0 w (Es.eraseIdx i) := by
 obtain ⟨m2, hg2, hm2, st2⟩ := st.freezeR hi (by simp)
 exact ⟨m2, hg2, ⟨row_SlM (m := m2) (st.at hi) hm2, hL⟩, st2⟩
theorem wl_buildSlice0 {T E : TypeId} {agg : Bool} {bytes : Nat} (hT : P.underlying T = some (.slice E)) (tf : TyF P E agg size bytes) (st : St m0 m F w0 w Es) (hd : Nat.blt d n = true)
  (k : ∀ v w', St m0 m F w0 w' (rowE v E size 0 [] :: Es) → WL P n ops Q rest (upd d v r) w') :
  WL P n ops Q (⟨some d, .buildSlice T 0 #[], ty, pos, after, none⟩ :: rest) r w := by
 have hst : St m0 m F w0 (w.alloc (.cells #[] E)) (rowE (.slice (some ⟨w.heap.size, 0, none⟩) 0 0) E size 0 [] :: Es) := by
  have st1 := st.new (E := K.blk w.heap.size #[] E) (touch_alloc w _) (heap_alloc_new w _)
  exact st1.rowShut 0 (b := w.heap.size) (k := 0) (cap := 0) (size := size) (xs := []) rfl (Nat.le_refl _) (by simp) (by omega) (by simp)
 refine wl_val (v := .slice (some ⟨w.heap.size, 0, none⟩) 0 0) (w' := w.alloc (.cells #[] E)) ?_ hd (k _ _ hst)
 intro _ _ _ _
 simp [execOp, Instr.buildSlice, run_underlying hT, tf.sz, newRow, Instr.fill]
 have e : (Array.map (fun _ => (default : Value)) (Array.range 0)) = #[] := by apply Array.ext'; simp
 rw [e]
theorem v_eq_nilS {T E U : TypeId} {x y : Operand} {a : Option Addr} {l k : Nat} (hT : P.underlying T = some (.slice E)) (hx : ev r x = .slice a l k) (hy : ev r y = .slice none 0 0) : Val P (.binOp .eql T x y U) ty r w (.bool a.isNone) w := by
 intro _ _ _ _
 have h : (Op.equal T (.slice a l k) (.slice none 0 0)).run P w = .ok a.isNone w := by
  unfold Op.equal
  rw [show Op.maxDepth = 9999 + 1 from rfl, Op.equalIn]
  simp only [Sem.run_bind, run_underlying hT, Result.andThen_ok]
  cases a <;> rfl
 simp [execOp, eqGuard, binOp, hx, hy, h]
end lists
structure Vw where
 pin : By
 head : Hd
 roots : List Rt
def vwC (pin : By) (h : Hd) (rv : Value) : List Value := bs pin ++ (hdC h ++ [rv])
abbrev RtsM (m : Mem) (v : Value) (L : List Rt) : Prop := LsM m v rtC 97 L
def VwM (m : Mem) (v : Value) (x : Vw) : Prop := ∃ rv, v = .agg (vwC x.pin x.head rv).toArray ∧ RtsM m rv x.roots ∧ x.pin.length = 32 ∧ x.head.ok ∧ ∀ t ∈ x.roots, t.ok
theorem VwM.mono {m m' : Mem} {v : Value} {x : Vw} (h : VwM m v x) (hm : ∀ k o, m k = some o → m' k = some o) : VwM m' v x := by
 obtain ⟨rv, h1, h2, h3⟩ := h
 exact ⟨rv, h1, h2.mono hm, h3⟩
def vw0 : Vw := ⟨z32, hd0, []⟩
section
variable {pin : By} {h : Hd} {rv : Value} (hp : pin.length = 32) (hh : h.ok)
include hp hh in
theorem length_vwC : (vwC pin h rv).length = 98 := by simp [vwC, length_bs, hp, length_hdC hh]
include hp in
theorem vw_p : getV true 32 (vwC pin h rv).toArray 0 = some (arr pin) := getV_seg (a := []) (b := bs pin) (c := hdC h ++ [rv]) (by simp [vwC]) rfl (by rw [length_bs, hp])
include hp hh in
theorem vw_h : getV true 65 (vwC pin h rv).toArray 32 = some (hdV h) := getV_seg (a := bs pin) (b := hdC h) (c := [rv]) (by simp [vwC]) (by rw [length_bs, hp]) (length_hdC hh)
include hp hh in
theorem vw_r : getV false 1 (vwC pin h rv).toArray 97 = some rv := getV_lst (a := bs pin ++ hdC h) (b := []) (c := []) (by simp [vwC]) (by simp [length_bs, hp, length_hdC hh])
theorem one_vwC (hr : rv.oneCell' = true) : ∀ u ∈ vwC pin h rv, u.oneCell' = true := by
 intro u hu
 simp only [vwC, List.mem_append, List.mem_singleton] at hu
 rcases hu with h | h | rfl
 ·exact one_bs _ u h
 ·exact one_hdC u h
 ·exact hr
include hp hh in
theorem set_vwH {g : Hd} (hg : g.ok) : setSeg (vwC pin h rv).toArray 32 (hdC g) = (vwC pin g rv).toArray := by
 have := setSeg_mid (a := bs pin) (b := hdC h) (c := [rv]) (l := hdC g) (o := 32) (by rw [length_bs, hp]) (by rw [length_hdC hh, length_hdC hg])
 simpa [vwC] using this
include hp hh in
theorem set_vwR {rv' : Value} : (vwC pin h rv).toArray.setIfInBounds 97 rv' = (vwC pin h rv').toArray := by
 have e : vwC pin h rv = (bs pin ++ hdC h) ++ rv :: [] := by simp [vwC]
 rw [e, set_app (by simp [length_bs, hp, length_hdC hh])]
 simp [vwC]
end
theorem fill_vw {pin : By} {h : Hd} {rv : Value} (hp : pin.length = 32) (hh : h.ok) (hr : rv.oneCell' = true) : FillR (#[(0, 32), (32, 65), (97, 1)][·]?) (Value.agg (List.replicate 32 (Value.int .u8 0) ++ ([Value.int .u64 0] ++ List.replicate 32 (Value.int .u8 0) ++ List.replicate 32 (Value.int .u8 0)) ++ [Value.slice none 0 0]).toArray).cells [(0, arr pin), (1, hdV h), (2, rv)] (vwC pin h rv).toArray := by
 refine fill_one [] (bs z32) (hdC hd0 ++ [.slice none 0 0]) rfl rfl (by rw [size_arr, hp]; rfl) ?_
 refine fill_one (bs pin) (hdC hd0) [.slice none 0 0] (by simp [arr, Value.cells]) (by simp [length_bs, hp]; rfl) (by simp [hdV, Value.cells, length_hdC hh]; rfl) ?_
 refine fill_one (bs pin ++ hdC h) [.slice none 0 0] [] (by simp [hdV, Value.cells]) (by simp [length_bs, hp, length_hdC hh]) (by rw [cells_one hr]; rfl) ?_
 rw [cells_one hr]
 simp [FillR, vwC]
section
variable {m : Mem} {wI : World}
theorem c_clone {v : Value} {L : List Rt} (him : Im m wI) (hv : RtsM m v L) (hL : L.length ≤ 1000000) :
  Ret Try.prog 67 #[v] wI fun v' w' => Tch wI w' [] (lsE 55 97 rtC v' L).foot ∧ (lsE 55 97 rtC v' L).holds w' := by
 have st := St.start him
 obtain ⟨a, cap, rfl⟩ := hv.sl
 refine ret_of Try.call67 Try.func67 rfl Try.ntmps67 Try.results67 rfl ?_
 refine wc_seq ?_
 refine wc_region ?_
 refine wl_val (v_assign' (by conv => (lhs; whnf))) rfl ?_
 refine wl_nil ?_
 refine then_go ?_
 refine wc_seq ?_
 refine wc_seq ?_
 refine wc_region ?_
 refine wl_val (v_move' (by conv => (lhs; whnf))) rfl ?_
 refine wl_val (v_eq_nilS Try.underlying27 rfl rfl) rfl ?_
 refine wl_nil ?_
 refine then_go ?_
 refine wc_cond rfl (fun h4 => ?_) (fun h4 => ?_)
 ·refine wc_seq ?_
  refine wc_region ?_
  refine wl_val (v_assign' (by conv => (lhs; whnf))) rfl ?_
  refine wl_nil ?_
  refine then_go ?_
  refine wc_ret (then_ret ?_)
  have hL0 : L = [] := by
   obtain ⟨_, a', c', he, hk, hn, _⟩ := hv.row
   cases he
   have := hn (by simpa using h4)
   exact List.eq_nil_of_length_eq_zero (by omega)
  subst hL0
  have st : St m m [] wI _ [lsE 55 97 rtC (.slice none 0 0) []] := nilRow st 55 97
  have hf := St.finish (Es := []) (l := [_]) st
  exact ret1 (v := .slice none 0 0) rfl ⟨⟨hf.1.os, hf.1.tape, hf.1.output, hf.1.size, hf.1.block, fun k hk => hf.1.out k (by simpa [joinE] using hk)⟩, st.at (i := 0) rfl⟩
 ·refine wc_skip ?_
  refine then_go ?_
  refine wc_seq ?_
  refine wc_region ?_
  refine wl_buildSlice0 Try.underlying27 TF.t55 st rfl ?_
  intro v5 w st
  refine wl_val (v_move' (by conv => (lhs; whnf))) rfl ?_
  refine wl_append (news := L.flatMap rtC) 0 st rfl Try.underlying27 Try.underlying27 (.inr ⟨_, rfl⟩) TF.t55 TF.z55 rfl rfl rfl (hv.row.src st.im (fun u hu => by obtain ⟨t, _, h⟩ := List.mem_flatMap.1 hu; exact one_rtC u h)) (by omega) (by omega) rfl ?_
  intro v7 w _ st
  have st : St m m [] wI w [lsE 55 97 rtC v7 L] := by
   have st2 : St m m [] wI w [rowE v7 55 97 (0 + L.length) ([] ++ L.flatMap rtC)] := st
   rw [Nat.zero_add, List.nil_append] at st2
   exact st2
  refine wl_val (v_assign' (by conv => (lhs; whnf))) rfl ?_
  refine wl_nil ?_
  refine then_go ?_
  refine wc_ret ?_
  have hf := St.finish (Es := []) (l := [_]) st
  exact ret1 (v := v7) rfl ⟨⟨hf.1.os, hf.1.tape, hf.1.output, hf.1.size, hf.1.block, fun k hk => hf.1.out k (by simpa [joinE] using hk)⟩, st.at (i := 0) rfl⟩
theorem c_own {v : Value} {x : Vw} (him : Im m wI) (hv : VwM m v x) (hL : x.roots.length ≤ 1000000) :
  Ret Try.prog 44 #[v] wI fun v' w' => ∃ rv, v' = .agg (vwC x.pin x.head rv).toArray ∧ Tch wI w' [] (lsE 55 97 rtC rv x.roots).foot ∧ (lsE 55 97 rtC rv x.roots).holds w' := by
 have st := St.start him
 obtain ⟨rv0, rfl, hrt, hp, hh, hok⟩ := hv
 refine ret_of Try.call44 Try.func44 rfl Try.ntmps44 Try.results44 rfl ?_
 refine wc_seq ?_
 refine wc_region ?_
 refine wl_box (v := .agg (vwC x.pin x.head rv0).toArray) rfl st rfl ?_
 intro b1 w st
 refine wl_alloc TF.z29 st rfl ?_
 intro b2 w st
 refine wl_nil ?_
 refine then_go ?_
 refine wc_seq ?_
 refine wc_region ?_
 refine wl_val (v_fa TF.f29_2 rfl) rfl ?_
 refine wl_val (v_load rfl (st.reads (v := rv0) 1 rfl TF.t27 (vw_r hp hh))) rfl ?_
 refine wl_call rfl (c_clone st.im hrt hL) rfl ?_
 rintro v5 w ⟨t5, hE⟩
 have st := st.new (E := lsE 55 97 rtC v5 x.roots) t5 hE
 have hone := row_one hE
 refine wl_val (v_fa TF.f29_2 rfl) rfl ?_
 refine wl_store1 2 st rfl TF.t27 rfl (by conv => (lhs; whnf)) hone (by rw [show (Value.agg (vwC x.pin x.head rv0).toArray).cells = (vwC x.pin x.head rv0).toArray from rfl, List.size_toArray, length_vwC hp hh]; decide) ?_
 intro w st
 rw [show (Value.agg (vwC x.pin x.head rv0).toArray).cells = (vwC x.pin x.head rv0).toArray from rfl, show 0 + 97 = 97 from rfl, set_vwR hp hh] at st
 refine wl_nil ?_
 refine then_go ?_
 refine wc_seq ?_
 refine wc_region ?_
 refine wl_val (v_load rfl (st.reads (v := .agg (vwC x.pin x.head v5).toArray) 2 rfl TF.t29 (getV_all (by rw [List.size_toArray, length_vwC hp hh])))) rfl ?_
 refine wl_storeW (cs := (vwC x.pin x.head v5).toArray) 1 st rfl TF.t29 rfl rfl (by rw [List.size_toArray, length_vwC hp hh]) rfl (fun u hu => one_vwC hone u (by simpa using hu)) ?_
 intro w st
 refine wl_nil ?_
 refine then_go ?_
 refine wc_ret ?_
 have hrd := st.reads (v := .agg (vwC x.pin x.head v5).toArray) 1 rfl TF.t29 (getV_all (by rw [List.size_toArray, length_vwC hp hh]))
 have st := st.keepOnly (l := [lsE 55 97 rtC v5 x.roots]) (by simp)
 have hf := St.finish (Es := []) (l := [_]) st
 exact ret1c rfl hrd ⟨v5, rfl, ⟨hf.1.os, hf.1.tape, hf.1.output, hf.1.size, hf.1.block, fun k hk => hf.1.out k (by simpa [joinE] using hk)⟩, st.at (i := 0) rfl⟩
end
end Go.Proofs.Ytjjpakjgppmmdaa

namespace Go.Proofs.Ytjjpakjgppmmdaa
open Go Go.RowKit K SH PT
theorem LsM.rd0 {α : Type} {c : α → List Value} {size : Nat} {P : Program} {m : Mem} {a : Option Addr} {k cap : Nat} {L : List α} (h : LsM m (.slice a k cap) c size L) {b o i : Nat} (ha : a = some ⟨b, o, none⟩) (hi : i < L.length) (hs : 0 < size) {T : TypeId} {agg : Bool} {sz bytes : Nat} {v' : Value} (tf : TyF P T agg sz bytes) (hv : getV agg sz (c L[i]).toArray 0 = some v') {w : World} (him : Im m w) :
  Reads P w T ⟨b, o + i * size, none⟩ v' := h.rd ha hi hs tf hv him
theorem K.St.lsRd {α : Type} {c : α → List Value} {size : Nat} {m0 m : Mem} {F : List Nat} {w0 w : World} {Es : List Ent} (st : St m0 m F w0 w Es) (i : Nat) {E : TypeId} {v : Value} {L : List α} (hi : Es[i]? = some (lsE E size c v L)) (hl : ∀ x ∈ L, (c x).length = size) : LsM (heapM w) v c size L :=
 ⟨row_SlM (m := heapM w) (st.at hi) (fun _ _ _ ho => ho), hl⟩
def lrnE (x : Vw) (s : Sg) : Int := if 1 ≤ s.root.epoch.toNat ∧ s.root.epoch.toNat ≤ x.roots.length then (if x.roots[s.root.epoch.toNat - 1]? = some s.root then 0 else 17) else followE x.head s
def lrnV (x : Vw) (s : Sg) : Vw := if 1 ≤ s.root.epoch.toNat ∧ s.root.epoch.toNat ≤ x.roots.length then x else ⟨x.pin, followH x.head s, x.roots ++ [s.root]⟩
def learnG : Vw → List Sg → Vw × Int
 | x, [] => (x, 0)
 | x, s :: l => if lrnE x s = 0 then learnG (lrnV x s) l else (vw0, lrnE x s)
def sgP (p : Sg × Value) : List Value := sgC p.1.root p.2
def SgsM (m : Mem) (v : Value) (L : List (Sg × Value)) : Prop := LsM m v sgP 98 L ∧ ∀ p ∈ L, p.1.root.ok ∧ SlM m p.2 1 p.1.sig.length (bs p.1.sig)
theorem SgsM.mono {m m' : Mem} {v : Value} {L : List (Sg × Value)} (h : SgsM m v L) (hm : ∀ k o, m k = some o → m' k = some o) : SgsM m' v L := ⟨h.1.mono hm, fun p hp => ⟨(h.2 p hp).1, (h.2 p hp).2.mono hm⟩⟩
section
variable {m : Mem} {wI : World}
theorem c_rfollow {h : Hd} {sgv : Value} {s : Sg} (him : Im m wI) (hh : h.ok) (hs : SgM m sgv s) :
  Ret Try.prog 46 #[hdV h, sgv] wI fun v' w' => Out m wI w' fun _ => v' = .tuple #[hdV (followH h s), .int .i64 (followE h s)] := by
 have st := St.start him
 obtain ⟨sv, rfl, hsv, ht⟩ := hs
 refine ret_of Try.call46 Try.func46 rfl Try.ntmps46 Try.results46 rfl ?_
 refine wc_seq ?_
 refine wc_region ?_
 refine wl_box (v := hdV h) rfl st rfl ?_
 intro b2 w st
 refine wl_box (v := .agg (sgC s.root sv).toArray) rfl st rfl ?_
 intro b3 w st
 refine wl_alloc TF.z26 st rfl ?_
 intro b4 w st
 refine wl_val (v_assign' (by conv => (lhs; whnf))) rfl ?_
 refine wl_nil ?_
 refine then_go ?_
 refine wc_seq ?_
 refine wc_seq ?_
 refine wc_region ?_
 refine wl_val (v_fa TF.f26_0 rfl) rfl ?_
 refine wl_val (v_load rfl (st.reads (v := u64 h.epoch) 2 rfl TF.t24 hd_e)) rfl ?_
 refine wl_val (v_geq rfl rfl) rfl ?_
 refine wl_val (v_move' (by conv => (lhs; whnf))) rfl ?_
 by_cases hg3 : (64 : Int) ≤ (h.epoch.toNat : Int)
 ·rw [show decide ((64 : Int) ≤ (h.epoch.toNat : Int)) = true from decide_eq_true hg3]
  refine wl_off rfl rfl rfl rfl ?_
  refine wl_off rfl rfl rfl rfl ?_
  refine wl_off rfl rfl rfl rfl ?_
  refine wl_off rfl rfl rfl rfl ?_
  refine wl_off rfl rfl rfl rfl ?_
  refine wl_off rfl rfl rfl rfl ?_
  refine wl_off rfl rfl rfl rfl ?_
  refine wl_val (v_pick rfl) rfl ?_
  refine wl_nil ?_
  refine then_go ?_
  refine wc_true rfl ?_
  refine wc_seq ?_
  refine wc_region ?_
  refine wl_val (v_build (c' := (hdC hd0).toArray) [] TF.z26 TF.p26 rfl rfl) rfl ?_
  refine wl_storeW (cs := (hdC hd0).toArray) 0 st rfl TF.t26 rfl rfl rfl rfl (fun u hu => one_hdC u (by simpa using hu)) ?_
  intro w st
  refine wl_val (v_assign' (by conv => (lhs; whnf))) rfl ?_
  refine wl_nil ?_
  refine then_go ?_
  refine wc_ret (then_ret ?_)
  have e : followE h s = 10 := by rw [followE, if_pos hg3]
  exact ret2c rfl (st.reads 0 rfl TF.t26 (getV_all rfl)) rfl ((st.keepOnly (l := []) (List.nil_sublist _)).out (by rw [followH, e, if_neg (show ¬ ((10 : Int) = 0) by decide)]; rfl))
 ·rw [show decide ((64 : Int) ≤ (h.epoch.toNat : Int)) = false from decide_eq_false hg3]
  refine wl_on rfl rfl ?_
  refine wl_val (v_fa TF.f71_0 rfl) rfl ?_
  refine wl_on rfl rfl ?_
  refine wl_val (v_fa TF.f55_0 rfl) rfl ?_
  refine wl_on rfl rfl ?_
  refine wl_val (v_load rfl (st.reads (v := u64 s.root.epoch) 1 rfl TF.t24 sg_e)) rfl ?_
  refine wl_on rfl rfl ?_
  refine wl_val (v_fa TF.f26_0 rfl) rfl ?_
  refine wl_on rfl rfl ?_
  refine wl_val (v_load rfl (st.reads (v := u64 h.epoch) 2 rfl TF.t24 hd_e)) rfl ?_
  refine wl_on rfl rfl ?_
  refine wl_val (v_add64 (q := 1) rfl rfl) rfl ?_
  refine wl_on rfl rfl ?_
  refine wl_val (v_neq rfl rfl) rfl ?_
  refine wl_val (v_pick rfl) rfl ?_
  refine wl_nil ?_
  refine then_go ?_
  refine wc_if rfl (fun h17 => ?_) (fun h17 => ?_)
  ·refine wc_seq ?_
   refine wc_region ?_
   refine wl_val (v_build (c' := (hdC hd0).toArray) [] TF.z26 TF.p26 rfl rfl) rfl ?_
   refine wl_storeW (cs := (hdC hd0).toArray) 0 st rfl TF.t26 rfl rfl rfl rfl (fun u hu => one_hdC u (by simpa using hu)) ?_
   intro w st
   refine wl_val (v_assign' (by conv => (lhs; whnf))) rfl ?_
   refine wl_nil ?_
   refine then_go ?_
   refine wc_ret (then_ret ?_)
   have e : followE h s = 10 := by rw [followE, if_neg hg3, if_pos (fun hc => h17 (u64_ne.2 hc))]
   exact ret2c rfl (st.reads 0 rfl TF.t26 (getV_all rfl)) rfl ((st.keepOnly (l := []) (List.nil_sublist _)).out (by rw [followH, e, if_neg (show ¬ ((10 : Int) = 0) by decide)]; rfl))
  ·refine wc_skip ?_
   refine then_go ?_
   refine wc_seq ?_
   refine wc_seq ?_
   by_cases hpr : s.root.prev = h.root
   ·refine wc_draw TF.mixed ?_
    have st := st.pure (touch_drew _)
    refine fl_val 0 rfl (fun _ => (v_fa TF.f71_0 rfl)) rfl (by kernel_rfl) ?_
    refine fl_val 1 rfl (fun _ => (v_fa TF.f55_1 rfl)) rfl (by kernel_rfl) ?_
    refine fl_ld 2 rfl (v_load rfl (st.reads (v := arr s.root.prev) 1 rfl TF.t23 (sg_p ht))) (by kernel_rfl) ?_
    refine fl_val 3 rfl (fun _ => (v_fa TF.f26_1 rfl)) rfl (by kernel_rfl) ?_
    refine fl_ld 4 rfl (v_load rfl (st.reads (v := arr h.root) 2 rfl TF.t23 (hd_r hh))) (by kernel_rfl) ?_
    refine fl_val 5 rfl (fun _ => (v_to (v' := .bool false) (v_neD rfl rfl ht.1 hh.1) (by rw [decide_eq_false (not_not_intro hpr)]))) rfl (by kernel_rfl) ?_
    refine fl_val 6 rfl (fun _ => (v_move' (by conv => (lhs; whnf)))) rfl (by kernel_rfl) ?_
    refine fl_on 7 rfl rfl rfl rfl (fun _ => (v_fa TF.f26_2 rfl)) rfl (by kernel_rfl) ?_
    refine fl_ond 8 rfl rfl rfl rfl (v_load rfl (st.reads (v := arr h.key) 2 rfl TF.t23 (hd_k hh))) rfl (by kernel_rfl) ?_
    refine fl_on 9 rfl rfl rfl rfl (fun _ => (v_fa TF.f71_0 rfl)) rfl (by kernel_rfl) ?_
    refine fl_ond 10 rfl rfl rfl rfl (v_load rfl (st.reads (v := rtV s.root) 1 rfl TF.t55 (sg_rt ht))) rfl (by kernel_rfl) ?_
    refine fl_on 12 rfl rfl rfl rfl (fun _ => (v_fa TF.f71_1 rfl)) rfl (by kernel_rfl) ?_
    refine fl_ond 13 rfl rfl rfl rfl (v_load rfl (st.reads (v := sv) 1 rfl TF.t41 (sg_s ht))) rfl (by kernel_rfl) ?_
    refine fl_eff1 11 [12, 9, 7, 5, 3, 1, 0] [13, 8, 4, 2] (by kernel_rfl) ⟨obl_on rfl rfl rfl rfl rfl (v_load rfl (st.reads (v := sv) 1 rfl TF.t41 (sg_s ht))), obl_on rfl rfl rfl rfl rfl (v_load rfl (st.reads (v := rtV s.root) 1 rfl TF.t55 (sg_rt ht))), obl_on rfl rfl rfl rfl rfl (v_load rfl (st.reads (v := arr h.key) 2 rfl TF.t23 (hd_k hh))), obl_ld rfl rfl rfl (v_load rfl (st.reads (v := arr h.root) 2 rfl TF.t23 (hd_r hh))), obl_ld rfl rfl rfl (v_load rfl (st.reads (v := arr s.root.prev) 1 rfl TF.t23 (sg_p ht))), trivial⟩ rfl ?_
    refine wl_on rfl rfl ?_
    refine wl_call rfl (c_rrootb st.im ht) rfl ?_
    rintro v30 w ⟨t30, m1, hg1, hi1, hb⟩
    have st := st.grown hg1 t30 hi1
    have hsv := hsv.mono hg1.le
    refine wl_nil ⟨rfl, ?_⟩
    refine fl_eff1 14 [12, 9, 7, 5, 3, 1, 0] [4, 2] (by kernel_rfl) ⟨obl_on rfl rfl rfl rfl rfl (v_load rfl (st.reads (v := sv) 1 rfl TF.t41 (sg_s ht))), obl_on rfl rfl rfl rfl rfl (v_load rfl (st.reads (v := arr h.key) 2 rfl TF.t23 (hd_k hh))), obl_ld rfl rfl rfl (v_load rfl (st.reads (v := arr h.root) 2 rfl TF.t23 (hd_r hh))), obl_ld rfl rfl rfl (v_load rfl (st.reads (v := arr s.root.prev) 1 rfl TF.t23 (sg_p ht))), trivial⟩ rfl ?_
    refine wl_on rfl rfl ?_
    refine wl_call rfl (c_rlcheck st.im hh.2 hb (by rw [rootB_len ht]; decide) hsv) rfl ?_
    rintro v33 w ⟨t33, m2, hg2, hi2, rfl⟩
    have st := st.grown hg2 t33 hi2
    refine wl_nil ⟨rfl, ?_⟩
    refine fl_on 15 rfl rfl rfl rfl (fun _ => (v_neq rfl rfl)) rfl (by kernel_rfl) ?_
    refine fl_val 16 rfl (fun _ => (v_pick rfl)) rfl (by kernel_rfl) ?_
    refine fl_nil (by kernel_rfl) ⟨obl_ld rfl rfl rfl (v_load rfl (st.reads (v := arr h.root) 2 rfl TF.t23 (hd_r hh))), obl_ld rfl rfl rfl (v_load rfl (st.reads (v := arr s.root.prev) 1 rfl TF.t23 (sg_p ht))), trivial⟩ ?_
    refine then_go ?_
    refine wc_if rfl (fun h35 => ?_) (fun h35 => ?_)
    ·refine wc_seq ?_
     refine wc_region ?_
     refine wl_val (v_build (c' := (hdC hd0).toArray) [] TF.z26 TF.p26 rfl rfl) rfl ?_
     refine wl_storeW (cs := (hdC hd0).toArray) 0 st rfl TF.t26 rfl rfl rfl rfl (fun u hu => one_hdC u (by simpa using hu)) ?_
     intro w st
     refine wl_val (v_assign' (by conv => (lhs; whnf))) rfl ?_
     refine wl_nil ?_
     refine then_go ?_
     refine wc_ret (then_ret ?_)
     have e : followE h s = 15 := by rw [followE, if_neg hg3, if_neg (fun hc => hc (u64_ne.1 (Decidable.not_not.1 h17))), if_neg (fun hc => hc hpr), if_neg (fun hc => h35 (by rw [if_pos hc]))]
     exact ret2c rfl (st.reads 0 rfl TF.t26 (getV_all rfl)) rfl ((st.keepOnly (l := []) (List.nil_sublist _)).out (by rw [followH, e, if_neg (show ¬ ((15 : Int) = 0) by decide)]; rfl))
    ·refine wc_skip ?_
     refine then_go ?_
     refine wc_seq ?_
     refine wc_draw TF.mixed ?_
     have st := st.pure (touch_drew _)
     refine fl_val 0 rfl (fun _ => (v_fa TF.f71_0 rfl)) rfl (by kernel_rfl) ?_
     refine fl_val 1 rfl (fun _ => (v_fa TF.f55_0 rfl)) rfl (by kernel_rfl) ?_
     refine fl_ld 2 rfl (v_load rfl (st.reads (v := u64 s.root.epoch) 1 rfl TF.t24 sg_e)) (by kernel_rfl) ?_
     refine fl_val 3 rfl (fun _ => (v_fa TF.f71_0 rfl)) rfl (by kernel_rfl) ?_
     refine fl_ld 4 rfl (v_load rfl (st.reads (v := rtV s.root) 1 rfl TF.t55 (sg_rt ht))) (by kernel_rfl) ?_
     refine fl_val 6 rfl (fun _ => (v_fa TF.f71_0 rfl)) rfl (by kernel_rfl) ?_
     refine fl_val 7 rfl (fun _ => (v_fa TF.f55_3 rfl)) rfl (by kernel_rfl) ?_
     refine fl_ld 8 rfl (v_load rfl (st.reads (v := arr s.root.next) 1 rfl TF.t23 (sg_n ht))) (by kernel_rfl) ?_
     refine fl_eff1 5 [7, 6, 3, 1, 0] [8, 2] (by kernel_rfl) ⟨obl_ld rfl rfl rfl (v_load rfl (st.reads (v := arr s.root.next) 1 rfl TF.t23 (sg_n ht))), obl_ld rfl rfl rfl (v_load rfl (st.reads (v := rtV s.root) 1 rfl TF.t55 (sg_rt ht))), obl_ld rfl rfl rfl (v_load rfl (st.reads (v := u64 s.root.epoch) 1 rfl TF.t24 sg_e)), trivial⟩ rfl ?_
     refine wl_call rfl (c_r3root st.im ht) rfl ?_
     rintro v42 w ⟨t42, rfl⟩
     have st := st.pure t42
     refine wl_nil ⟨rfl, ?_⟩
     refine fl_val 9 rfl (fun _ => (v_build (c' := (hdC ⟨s.root.epoch, sum (rootB s.root), s.root.next⟩).toArray) [(0, u64 s.root.epoch), (1, arr (sum (rootB s.root))), (2, arr s.root.next)] TF.z26 TF.p26 rfl (fill_hd (length_sum _) ht.2.2))) rfl (by kernel_rfl) ?_
     refine fl_eff1 10 [] [] (by kernel_rfl) ⟨obl_ld rfl rfl rfl (v_load rfl (st.reads (v := arr s.root.next) 1 rfl TF.t23 (sg_n ht))), obl_ld rfl rfl rfl (v_load rfl (st.reads (v := u64 s.root.epoch) 1 rfl TF.t24 sg_e)), trivial⟩ rfl ?_
     refine wl_storeW (cs := (hdC ⟨s.root.epoch, sum (rootB s.root), s.root.next⟩).toArray) 0 st rfl TF.t26 rfl rfl (by rw [List.size_toArray, length_hdC ⟨length_sum _, ht.2.2⟩]) rfl (fun u hu => one_hdC u (by simpa using hu)) ?_
     intro w st
     refine wl_nil ⟨rfl, ?_⟩
     refine fl_eff1 11 [] [] (by kernel_rfl) trivial rfl ?_
     refine wl_val (v_assign' (by conv => (lhs; whnf))) rfl ?_
     refine wl_nil ⟨rfl, ?_⟩
     refine fl_nil (by kernel_rfl) trivial ?_
     refine then_go ?_
     refine wc_ret ?_
     have hl : lamOk h.key (rootB s.root) s.sig := by
      refine Decidable.byContradiction fun hc => h35 ?_
      rw [if_neg hc]; decide
     have e : followE h s = 0 := by rw [followE, if_neg hg3, if_neg (fun hc => hc (u64_ne.1 (Decidable.not_not.1 h17))), if_neg (fun hc => hc hpr), if_pos hl]
     exact ret2c rfl (st.reads 0 rfl TF.t26 (getV_all (by rw [List.size_toArray, length_hdC ⟨length_sum _, ht.2.2⟩]))) rfl ((st.keepOnly (l := []) (List.nil_sublist _)).out (by rw [followH, e, if_pos (show (0 : Int) = 0 from rfl)]; rfl))
   ·refine wc_draw TF.mixed ?_
    have st := st.pure (touch_drew _)
    refine fl_val 0 rfl (fun _ => (v_fa TF.f71_0 rfl)) rfl (by kernel_rfl) ?_
    refine fl_val 1 rfl (fun _ => (v_fa TF.f55_1 rfl)) rfl (by kernel_rfl) ?_
    refine fl_ld 2 rfl (v_load rfl (st.reads (v := arr s.root.prev) 1 rfl TF.t23 (sg_p ht))) (by kernel_rfl) ?_
    refine fl_val 3 rfl (fun _ => (v_fa TF.f26_1 rfl)) rfl (by kernel_rfl) ?_
    refine fl_ld 4 rfl (v_load rfl (st.reads (v := arr h.root) 2 rfl TF.t23 (hd_r hh))) (by kernel_rfl) ?_
    refine fl_val 5 rfl (fun _ => (v_to (v' := .bool true) (v_neD rfl rfl ht.1 hh.1) (by rw [decide_eq_true hpr]))) rfl (by kernel_rfl) ?_
    refine fl_val 6 rfl (fun _ => (v_move' (by conv => (lhs; whnf)))) rfl (by kernel_rfl) ?_
    refine fl_off 7 rfl rfl rfl rfl rfl rfl (by kernel_rfl) ?_
    refine fl_offd 8 rfl rfl rfl rfl rfl rfl (by kernel_rfl) ?_
    refine fl_off 9 rfl rfl rfl rfl rfl rfl (by kernel_rfl) ?_
    refine fl_offd 10 rfl rfl rfl rfl rfl rfl (by kernel_rfl) ?_
    refine fl_off 12 rfl rfl rfl rfl rfl rfl (by kernel_rfl) ?_
    refine fl_offd 13 rfl rfl rfl rfl rfl rfl (by kernel_rfl) ?_
    refine fl_eff1 11 [12, 9, 7, 5, 3, 1, 0] [13, 8, 4, 2] (by kernel_rfl) ⟨obl_off rfl rfl rfl rfl rfl rfl, obl_off rfl rfl rfl rfl rfl rfl, obl_off rfl rfl rfl rfl rfl rfl, obl_ld rfl rfl rfl (v_load rfl (st.reads (v := arr h.root) 2 rfl TF.t23 (hd_r hh))), obl_ld rfl rfl rfl (v_load rfl (st.reads (v := arr s.root.prev) 1 rfl TF.t23 (sg_p ht))), trivial⟩ rfl ?_
    refine wl_off rfl rfl rfl rfl ?_
    refine wl_nil ⟨rfl, ?_⟩
    refine fl_eff1 14 [12, 9, 7, 5, 3, 1, 0] [4, 2] (by kernel_rfl) ⟨obl_off rfl rfl rfl rfl rfl rfl, obl_off rfl rfl rfl rfl rfl rfl, obl_ld rfl rfl rfl (v_load rfl (st.reads (v := arr h.root) 2 rfl TF.t23 (hd_r hh))), obl_ld rfl rfl rfl (v_load rfl (st.reads (v := arr s.root.prev) 1 rfl TF.t23 (sg_p ht))), trivial⟩ rfl ?_
    refine wl_off rfl rfl rfl rfl ?_
    refine wl_nil ⟨rfl, ?_⟩
    refine fl_off 15 rfl rfl rfl rfl rfl rfl (by kernel_rfl) ?_
    refine fl_val 16 rfl (fun _ => (v_pick rfl)) rfl (by kernel_rfl) ?_
    refine fl_nil (by kernel_rfl) ⟨obl_ld rfl rfl rfl (v_load rfl (st.reads (v := arr h.root) 2 rfl TF.t23 (hd_r hh))), obl_ld rfl rfl rfl (v_load rfl (st.reads (v := arr s.root.prev) 1 rfl TF.t23 (sg_p ht))), trivial⟩ ?_
    refine then_go ?_
    refine wc_true rfl ?_
    refine wc_seq ?_
    refine wc_region ?_
    refine wl_val (v_build (c' := (hdC hd0).toArray) [] TF.z26 TF.p26 rfl rfl) rfl ?_
    refine wl_storeW (cs := (hdC hd0).toArray) 0 st rfl TF.t26 rfl rfl rfl rfl (fun u hu => one_hdC u (by simpa using hu)) ?_
    intro w st
    refine wl_val (v_assign' (by conv => (lhs; whnf))) rfl ?_
    refine wl_nil ?_
    refine then_go ?_
    refine wc_ret (then_ret ?_)
    have e : followE h s = 15 := by rw [followE, if_neg hg3, if_neg (fun hc => hc (u64_ne.1 (Decidable.not_not.1 h17))), if_pos hpr]
    exact ret2c rfl (st.reads 0 rfl TF.t26 (getV_all rfl)) rfl ((st.keepOnly (l := []) (List.nil_sublist _)).out (by rw [followH, e, if_neg (show ¬ ((15 : Int) = 0) by decide)]; rfl))
theorem c_start {pin : By} (him : Im m wI) (hp : pin.length = 32) : Ret Try.prog 47 #[arr pin] wI fun v' w' => Tch wI w' [] [] ∧ v' = hdV ⟨0, z32, pin⟩ := by
 have st := St.start him
 refine ret_of Try.call47 Try.func47 rfl Try.ntmps47 Try.results47 rfl ?_
 refine wc_seq ?_
 refine wc_region ?_
 refine wl_box (v := arr pin) rfl st rfl ?_
 intro b1 w st
 refine wl_alloc TF.z26 st rfl ?_
 intro b2 w st
 refine wl_nil ?_
 refine then_go ?_
 refine wc_seq ?_
 refine wc_region ?_
 refine wl_val (v_load rfl (st.reads (v := arr pin) 1 rfl TF.t23 (getV_all (by rw [size_arr, hp])))) rfl ?_
 refine wl_val (v_build (c' := (hdC ⟨0, z32, pin⟩).toArray) [(2, arr pin)] TF.z26 TF.p26 rfl (fill_one (u64 0 :: bs z32) (bs z32) [] rfl rfl (by rw [size_arr, hp]; rfl) (by simp [FillR, hdC, arr, Value.cells]))) rfl ?_
 refine wl_storeW (cs := (hdC ⟨0, z32, pin⟩).toArray) 0 st rfl TF.t26 rfl rfl (by rw [List.size_toArray, length_hdC ⟨rfl, hp⟩]) rfl (fun u hu => one_hdC u (by simpa using hu)) ?_
 intro w st
 refine wl_nil ?_
 refine then_go ?_
 refine wc_ret ?_
 exact ret1c rfl (st.reads 0 rfl TF.t26 (getV_all (by rw [List.size_toArray, length_hdC ⟨rfl, hp⟩]))) ⟨(st.keepOnly (l := []) (List.nil_sublist _)).touch, rfl⟩
def newV (pin : By) : Vw := ⟨pin, ⟨0, z32, pin⟩, []⟩
theorem fill_vw2 {pin : By} {h : Hd} (hp : pin.length = 32) (hh : h.ok) : FillR (#[(0, 32), (32, 65), (97, 1)][·]?) (Value.agg (List.replicate 32 (Value.int .u8 0) ++ ([Value.int .u64 0] ++ List.replicate 32 (Value.int .u8 0) ++ List.replicate 32 (Value.int .u8 0)) ++ [Value.slice none 0 0]).toArray).cells [(0, arr pin), (1, hdV h)] (vwC pin h (.slice none 0 0)).toArray := by
 refine fill_one [] (bs z32) (hdC hd0 ++ [.slice none 0 0]) rfl rfl (by rw [size_arr, hp]; rfl) ?_
 refine fill_one (bs pin) (hdC hd0) [.slice none 0 0] (by simp [arr, Value.cells]) (by simp [length_bs, hp]; rfl) (by simp [hdV, Value.cells, length_hdC hh]; rfl) ?_
 simp [FillR, vwC, hdV, Value.cells]
theorem c_new {pin : By} (him : Im m wI) (hp : pin.length = 32) : Ret Try.prog 17 #[arr pin] wI fun v' w' => Tch wI w' [] [] ∧ v' = .agg (vwC pin ⟨0, z32, pin⟩ (.slice none 0 0)).toArray := by
 have st := St.start him
 have hh : Hd.ok ⟨0, z32, pin⟩ := ⟨rfl, hp⟩
 refine ret_of Try.call17 Try.func17 rfl Try.ntmps17 Try.results17 rfl ?_
 refine wc_seq ?_
 refine wc_region ?_
 refine wl_box (v := arr pin) rfl st rfl ?_
 intro b1 w st
 refine wl_alloc TF.z29 st rfl ?_
 intro b2 w st
 refine wl_nil ?_
 refine then_go ?_
 refine wc_seq ?_
 refine wc_draw TF.mixed ?_
 have st := st.pure (touch_drew _)
 refine fl_ld 0 rfl (v_load rfl (st.reads (v := arr pin) 1 rfl TF.t23 (getV_all (by rw [size_arr, hp])))) (by kernel_rfl) ?_
 refine fl_ld 1 rfl (v_load rfl (st.reads (v := arr pin) 1 rfl TF.t23 (getV_all (by rw [size_arr, hp])))) (by kernel_rfl) ?_
 refine fl_eff1 2 [] [0] (by kernel_rfl) ⟨obl_ld rfl rfl rfl (v_load rfl (st.reads (v := arr pin) 1 rfl TF.t23 (getV_all (by rw [size_arr, hp])))), obl_ld rfl rfl rfl (v_load rfl (st.reads (v := arr pin) 1 rfl TF.t23 (getV_all (by rw [size_arr, hp])))), trivial⟩ rfl ?_
 refine wl_call rfl (c_start st.im hp) rfl ?_
 rintro v5 w ⟨t5, rfl⟩
 have st := st.pure t5
 refine wl_nil ⟨rfl, ?_⟩
 refine fl_val 3 rfl (fun _ => (v_build (c' := (vwC pin ⟨0, z32, pin⟩ (.slice none 0 0)).toArray) [(0, arr pin), (1, hdV ⟨0, z32, pin⟩)] TF.z29 TF.p29 rfl (fill_vw2 hp hh))) rfl (by kernel_rfl) ?_
 refine fl_eff1 4 [] [] (by kernel_rfl) ⟨obl_ld rfl rfl rfl (v_load rfl (st.reads (v := arr pin) 1 rfl TF.t23 (getV_all (by rw [size_arr, hp])))), trivial⟩ rfl ?_
 refine wl_storeW (cs := (vwC pin ⟨0, z32, pin⟩ (.slice none 0 0)).toArray) 0 st rfl TF.t29 rfl rfl (by rw [List.size_toArray, length_vwC hp hh]) rfl (fun u hu => one_vwC rfl u (by simpa using hu)) ?_
 intro w st
 refine wl_nil ⟨rfl, ?_⟩
 refine fl_nil (by kernel_rfl) trivial ?_
 refine then_go ?_
 refine wc_ret ?_
 exact ret1c rfl (st.reads 0 rfl TF.t29 (getV_all (by rw [List.size_toArray, length_vwC hp hh]))) ⟨(st.keepOnly (l := []) (List.nil_sublist _)).touch, rfl⟩
end
end Go.Proofs.Ytjjpakjgppmmdaa

namespace Go.Proofs.Ytjjpakjgppmmdaa
open Go Go.RowKit K SH PT
theorem lrnV_ok {x : Vw} {s : Sg} (hh : x.head.ok) (hr : ∀ t ∈ x.roots, t.ok) (hs : s.root.ok) : (lrnV x s).head.ok ∧ (∀ t ∈ (lrnV x s).roots, t.ok) ∧ (lrnV x s).pin = x.pin ∧ (lrnV x s).roots.length ≤ x.roots.length + 1 := by
 unfold lrnV
 split
 ·exact ⟨hh, hr, rfl, by omega⟩
 ·refine ⟨followH_ok hs, fun t ht => ?_, rfl, by simp⟩
  rcases List.mem_append.1 ht with h | h
  ·exact hr t h
  ·simp at h; rw [h]; exact hs
theorem vw0_M {m : Mem} : VwM m (.agg (vwC z32 hd0 (.slice none 0 0)).toArray) vw0 := ⟨_, rfl, LsM.nil, rfl, hd0_ok, by simp [vw0]⟩
section
variable {m : Mem} {wI : World}
theorem c_learn {vv lv : Value} {x0 : Vw} {L : List (Sg × Value)} (him : Im m wI) (hv : VwM m vv x0) (hl : SgsM m lv L) (hb : x0.roots.length + L.length ≤ 1000000) :
  Ret Try.prog 14 #[vv, lv] wI fun v' w' => Out m wI w' fun m' => ∃ v2, v' = .tuple #[v2, .int .i64 (learnG x0 (L.map (·.1))).2] ∧ VwM m' v2 (learnG x0 (L.map (·.1))).1 := by
 have st := St.start him
 have hv0 := hv
 obtain ⟨rv0, rfl, hrt0, hp, hh0, hok0⟩ := hv
 obtain ⟨la, lc, rfl⟩ := hl.1.sl
 obtain ⟨R, hR⟩ : ∃ R, R = learnG x0 (L.map (·.1)) := ⟨_, rfl⟩
 have hz98 : (vwC z32 hd0 (.slice none 0 0)).length = 98 := length_vwC rfl hd0_ok
 rw [← hR]
 refine ret_of Try.call14 Try.func14 rfl Try.ntmps14 Try.results14 rfl ?_
 refine wc_seq ?_
 refine wc_region ?_
 refine wl_box (v := .agg (vwC x0.pin x0.head rv0).toArray) rfl st rfl ?_
 intro b2 w st
 refine wl_alloc TF.z29 st rfl ?_
 intro b4 w st
 refine wl_val (v_assign' (by conv => (lhs; whnf))) rfl ?_
 refine wl_nil ?_
 refine then_go ?_
 refine wc_seq ?_
 refine wc_region ?_
 refine wl_val (v_load rfl (st.reads (v := .agg (vwC x0.pin x0.head rv0).toArray) 1 rfl TF.t29 (getV_all (by rw [show (Value.agg (vwC x0.pin x0.head rv0).toArray).cells = (vwC x0.pin x0.head rv0).toArray from rfl, List.size_toArray, length_vwC hp hh0])))) rfl ?_
 refine wl_call rfl (c_own st.im hv0 (by omega)) rfl ?_
 rintro v12 w ⟨rv, rfl, t12, hE⟩
 have st := st.new (E := lsE 55 97 rtC rv x0.roots) t12 hE
 have hone := row_one hE
 refine wl_storeW (cs := (vwC x0.pin x0.head rv).toArray) 2 st rfl TF.t29 rfl rfl (by rw [List.size_toArray, length_vwC hp hh0]) (by rw [show (Value.agg (vwC x0.pin x0.head rv0).toArray).cells = (vwC x0.pin x0.head rv0).toArray from rfl, List.size_toArray, length_vwC hp hh0]) (fun u hu => one_vwC hone u (by simpa using hu)) ?_
 intro w st
 have st : St m m [] wI w [lsE 55 97 rtC rv x0.roots, K.blk b4 (vwC z32 hd0 (.slice none 0 0)).toArray 29, K.blk b2 (vwC x0.pin x0.head rv).toArray 29] := st
 refine wl_nil ?_
 refine then_go ?_
 refine wc_seq ?_
 refine wc_seq ?_
 refine wc_region ?_
 refine wl_val (v_move' (by conv => (lhs; whnf))) rfl ?_
 refine wl_val (v_len_s Try.underlying30 rfl) rfl ?_
 refine wl_val (v_move' (by conv => (lhs; whnf))) rfl ?_
 refine wl_nil ?_
 refine then_go ?_
 refine wc_block ?_
 refine wc_loop (S := Nat) (fun q r w' => ∃ (i : Nat) (x : Vw) (rv : Value) (m2 : Mem), q + i = L.length ∧ r 2 = .pointer (some ⟨b2, 0, none⟩) ∧ r 4 = .pointer (some ⟨b4, 0, none⟩) ∧ r 13 = .slice la L.length lc ∧ r 14 = .int .i64 L.length ∧ r 15 = .int .i64 i ∧ R = learnG x ((L.drop i).map (·.1)) ∧ x.pin.length = 32 ∧ x.head.ok ∧ (∀ t ∈ x.roots, t.ok) ∧ x.roots.length + (L.length - i) ≤ 1000000 ∧ SgsM m2 (.slice la L.length lc) L ∧
  St m m2 [] wI w' [lsE 55 97 rtC rv x.roots, K.blk b4 (vwC z32 hd0 (.slice none 0 0)).toArray 29, K.blk b2 (vwC x.pin x.head rv).toArray 29]) id L.length ⟨0, x0, _, m, by omega, rfl, rfl, rfl, rfl, rfl, hR, hp, hh0, hok0, by omega, hl, st⟩ ?_
 clear hl hone
 rintro q r w2 ⟨i, x, rv, m2, hqi, g2, g4, g13, g14, g15, hRx, hpx, hhx, hokx, hbx, hl, st⟩
 refine wc_o 2 g2 (wc_o 4 g4 (wc_o 13 g13 (wc_o 14 g14 (wc_o 15 g15 ?_))))
 refine wc_seq ?_
 refine wc_region ?_
 refine wl_val (v_lss rfl rfl) rfl ?_
 refine wl_nil ?_
 refine then_go ?_
 refine wc_seq ?_
 refine wc_if rfl (fun h16 => ?_) (fun h16 => ?_)
 ·refine wc_skip ?_
  refine then_go ?_
  refine wc_seq ?_
  refine wc_block ?_
  refine wc_seq ?_
  have hi : i < L.length := by omega
  obtain ⟨ba, oa, hba⟩ := hl.1.ptr (by omega) (by decide)
  subst hba
  obtain ⟨hrk, hsk⟩ := hl.2 _ (List.getElem_mem hi)
  have h98 := length_sgC (sv := L[i].2) hrk
  have hLen : ∀ t ∈ x.roots, (rtC t).length = 97 := fun t ht => length_rtC (hokx t ht)
  have hstep := (hR.symm.trans hRx).symm.trans hR.symm
  rw [List.drop_eq_getElem_cons hi, List.map_cons, learnG] at hRx
  obtain ⟨ko1, ko2, ko3, ko4⟩ := lrnV_ok hhx hokx hrk
  have hone : L[i].2.oneCell' = true := by obtain ⟨_, a, c, h, _⟩ := hsk; rw [h]; rfl
  refine wc_region ?_
  refine wl_val (v_ias i Try.underlying30 TF.t71 rfl rfl (by first | rfl | omega) (by first | omega | (dsimp only at *; omega))) rfl ?_
  refine wl_val (v_load rfl (hl.1.rd0 rfl hi (by decide) TF.t71 (v' := .agg (sgC L[i].1.root L[i].2).toArray) (getV_all (by rw [List.size_toArray]; exact h98)) st.im)) rfl ?_
  refine wl_alloc TF.z71 st rfl ?_
  intro b7 w st
  refine wl_storeW (cs := (sgC L[i].1.root L[i].2).toArray) 0 st rfl TF.t71 rfl rfl (by rw [List.size_toArray]; exact h98) rfl (fun u hu => by
   have hu' : u ∈ sgC L[i].1.root L[i].2 := by simpa using hu
   simp only [sgC, List.mem_append, List.mem_singleton] at hu'
   rcases hu' with h | rfl
   ·exact one_rtC u h
   ·exact hone) ?_
  intro w st
  refine wl_nil ?_
  refine then_go ?_
  refine wc_seq ?_
  refine wc_seq ?_
  refine wc_region ?_
  refine wl_val (v_fa TF.f71_0 rfl) rfl ?_
  refine wl_val (v_fa TF.f55_0 rfl) rfl ?_
  refine wl_val (v_load rfl (st.reads (v := u64 L[i].1.root.epoch) 0 rfl TF.t24 sg_e)) rfl ?_
  refine wl_val (v_assign' (by conv => (lhs; whnf))) rfl ?_
  refine wl_nil ?_
  refine then_go ?_
  refine wc_seq ?_
  refine wc_region ?_
  refine wl_val (v_move' (by conv => (lhs; whnf))) rfl ?_
  refine wl_val (v_geq rfl rfl) rfl ?_
  refine wl_val (v_move' (by conv => (lhs; whnf))) rfl ?_
  by_cases hg2 : (1 : Int) ≤ (L[i].1.root.epoch.toNat : Int)
  ·rw [show decide ((1 : Int) ≤ (L[i].1.root.epoch.toNat : Int)) = true from decide_eq_true hg2]
   obtain ⟨ra, rc, hrv⟩ := (st.lsRd 1 rfl hLen).sl
   subst hrv
   refine wl_on rfl rfl ?_
   refine wl_val (v_move' (by conv => (lhs; whnf))) rfl ?_
   refine wl_on rfl rfl ?_
   refine wl_val (v_fa TF.f29_2 rfl) rfl ?_
   refine wl_on rfl rfl ?_
   refine wl_val (v_load rfl (st.reads (v := .slice ra x.roots.length rc) 3 rfl TF.t27 (vw_r hpx hhx))) rfl ?_
   refine wl_on rfl rfl ?_
   refine wl_val (v_len_s Try.underlying27 rfl) rfl ?_
   refine wl_on rfl rfl ?_
   refine wl_val (v_to (v' := .int .u64 (x.roots.length : Nat)) (v_conv Try.underlying3 Try.underlying24 rfl) (by rw [wrap_u64_small (by omega)])) rfl ?_
   refine wl_on rfl rfl ?_
   refine wl_val (v_leq rfl rfl) rfl ?_
   refine wl_val (v_pick rfl) rfl ?_
   refine wl_nil ?_
   refine then_go ?_
   refine wc_if rfl (fun h31 => ?_) (fun h31 => ?_)
   ·refine wc_seq ?_
    refine wc_seq ?_
    have hcond : 1 ≤ L[i].1.root.epoch.toNat ∧ L[i].1.root.epoch.toNat ≤ x.roots.length := by omega
    have hj : L[i].1.root.epoch.toNat - 1 < x.roots.length := by omega
    have hrd2 := st.lsRd 1 rfl hLen
    obtain ⟨rb, ro, hra⟩ := hrd2.ptr (by omega) (by decide)
    subst hra
    have hse : lrnE x L[i].1 = if x.roots[L[i].1.root.epoch.toNat - 1] = L[i].1.root then 0 else 17 := by
     rw [lrnE, if_pos hcond, List.getElem?_eq_getElem hj]
     simp only [Option.some.injEq]
    refine wc_draw TF.mixed ?_
    have st := st.pure (touch_drew _)
    refine fl_val 0 rfl (fun _ => (v_fa TF.f29_2 rfl)) rfl (by kernel_rfl) ?_
    refine fl_ld 1 rfl (v_load rfl (st.reads (v := .slice (some ⟨rb, ro, none⟩) x.roots.length rc) 3 rfl TF.t27 (vw_r hpx hhx))) (by kernel_rfl) ?_
    refine fl_val 2 rfl (fun _ => (v_move' (by conv => (lhs; whnf)))) rfl (by kernel_rfl) ?_
    refine fl_val 3 rfl (fun _ => (v_to (v' := .int .u64 ((L[i].1.root.epoch.toNat - 1 : Nat) : Int)) (v_sub rfl rfl) (by rw [show ((L[i].1.root.epoch.toNat : Int) - 1) = ((L[i].1.root.epoch.toNat - 1 : Nat) : Int) by omega, wrap_u64_small (by have := L[i].1.root.epoch.toNat_lt; omega)]))) rfl (by kernel_rfl) ?_
    refine fl_val 4 rfl (fun _ => (v_ias (L[i].1.root.epoch.toNat - 1) Try.underlying27 TF.t55 rfl rfl (by first | rfl | omega) (by first | omega | (dsimp only at *; omega)))) rfl (by kernel_rfl) ?_
    refine fl_ld 5 rfl (v_load rfl (hrd2.rd0 rfl hj (by decide) TF.t55 (v' := rtV x.roots[L[i].1.root.epoch.toNat - 1]) (getV_all (by rw [List.size_toArray, hLen _ (List.getElem_mem hj)])) (im_heapM _))) (by kernel_rfl) ?_
    refine fl_val 6 rfl (fun _ => (v_fa TF.f71_0 rfl)) rfl (by kernel_rfl) ?_
    refine fl_ld 7 rfl (v_load rfl (st.reads (v := rtV L[i].1.root) 0 rfl TF.t55 (sg_rt hrk))) (by kernel_rfl) ?_
    refine fl_val 8 rfl (fun _ => (v_neRt rfl rfl (hokx _ (List.getElem_mem hj)) hrk)) rfl (by kernel_rfl) ?_
    refine fl_nil (by kernel_rfl) ⟨obl_ld rfl rfl rfl (v_load rfl (st.reads (v := rtV L[i].1.root) 0 rfl TF.t55 (sg_rt hrk))), obl_ld rfl rfl rfl (v_load rfl (hrd2.rd0 rfl hj (by decide) TF.t55 (v' := rtV x.roots[L[i].1.root.epoch.toNat - 1]) (getV_all (by rw [List.size_toArray, hLen _ (List.getElem_mem hj)])) (im_heapM _))), obl_ld rfl rfl rfl (v_load rfl (st.reads (v := .slice (some ⟨rb, ro, none⟩) x.roots.length rc) 3 rfl TF.t27 (vw_r hpx hhx))), trivial⟩ ?_
    refine then_go ?_
    refine wc_if rfl (fun h40 => ?_) (fun h40 => ?_)
    ·refine wc_seq ?_
     refine wc_region ?_
     refine wl_val (v_build (c' := (vwC z32 hd0 (.slice none 0 0)).toArray) [] TF.z29 TF.p29 rfl rfl) rfl ?_
     refine wl_storeW (cs := (vwC z32 hd0 (.slice none 0 0)).toArray) 2 st rfl TF.t29 rfl rfl rfl rfl (fun u hu => one_vwC rfl u (by simpa using hu)) ?_
     intro w st
     refine wl_val (v_assign' (by conv => (lhs; whnf))) rfl ?_
     refine wl_nil ?_
     refine then_go ?_
     refine wc_ret (then_ret (then_ret (block_ret (then_ret (then_ret (block_ret (then_ret ?_)))))))
     rw [hse, if_neg h40, if_neg (show ¬ ((17 : Int) = 0) by decide)] at hRx
     exact ret2c rfl (st.reads 2 rfl TF.t29 (getV_all rfl)) rfl ((st.keepOnly (l := []) (List.nil_sublist _)).out ⟨_, by rw [hRx]; rfl, by rw [hRx]; exact vw0_M⟩)
    ·refine wc_skip ?_
     refine then_go ?_
     refine wc_exit (then_exit (block_hit ?_))
     refine then_go ?_
     refine wc_region ?_
     refine wl_val (v_add' rfl rfl rfl (by first | omega | (dsimp only at *; omega)) (by first | omega | (dsimp only at *; omega))) rfl ?_
     refine wl_val (v_move' (by conv => (lhs; whnf))) rfl ?_
     refine wl_nil ?_
     refine then_go ?_
     rw [hse, if_pos (Decidable.not_not.1 h40), if_pos rfl, lrnV, if_pos hcond] at hRx
     exact ⟨q - 1, by simp; omega, i + 1, x, _, m2, by omega, rfl, rfl, rfl, rfl, rfl, hRx, hpx, hhx, hokx, by omega, hl, st.drop 0⟩
   ·refine wc_skip ?_
    refine then_go ?_
    refine wc_seq ?_
    have hcond : ¬ (1 ≤ L[i].1.root.epoch.toNat ∧ L[i].1.root.epoch.toNat ≤ x.roots.length) := by omega
    have hse : lrnE x L[i].1 = followE x.head L[i].1 := by rw [lrnE, if_neg hcond]
    refine wc_region ?_
    refine wl_val (v_fa TF.f29_1 rfl) rfl ?_
    refine wl_val (v_load rfl (st.reads (v := hdV x.head) 3 rfl TF.t26 (vw_h hpx hhx))) rfl ?_
    refine wl_val (v_load rfl (st.reads (v := .agg (sgC L[i].1.root L[i].2).toArray) 0 rfl TF.t71 (getV_all (by rw [List.size_toArray]; exact h98)))) rfl ?_
    refine wl_call rfl (c_follow (s := L[i].1) st.im hhx ⟨_, rfl, hsk, hrk⟩) rfl ?_
    rintro v46 w ⟨t46, m3, hg3, hi3, rfl⟩
    have st := st.grown hg3 t46 hi3
    have hl := hl.mono hg3.le
    refine wl_val (v_move' (by conv => (lhs; whnf))) rfl ?_
    refine wl_val (v_extract rfl rfl) rfl ?_
    refine wl_val (v_extract rfl rfl) rfl ?_
    refine wl_alloc TF.z26 st rfl ?_
    intro b9 w st
    refine wl_storeW (cs := (hdC (followH x.head L[i].1)).toArray) 0 st rfl TF.t26 rfl rfl (by rw [List.size_toArray, length_hdC (followH_ok hrk)]) rfl (fun u hu => one_hdC u (by simpa using hu)) ?_
    intro w st
    refine wl_val (v_assign' (by conv => (lhs; whnf))) rfl ?_
    refine wl_nil ?_
    refine then_go ?_
    refine wc_seq ?_
    refine wc_seq ?_
    refine wc_region ?_
    refine wl_val (v_move' (by conv => (lhs; whnf))) rfl ?_
    refine wl_val (v_neq rfl rfl) rfl ?_
    refine wl_nil ?_
    refine then_go ?_
    refine wc_if rfl (fun h50 => ?_) (fun h50 => ?_)
    ·refine wc_seq ?_
     refine wc_region ?_
     refine wl_val (v_build (c' := (vwC z32 hd0 (.slice none 0 0)).toArray) [] TF.z29 TF.p29 rfl rfl) rfl ?_
     refine wl_val (v_move' (by conv => (lhs; whnf))) rfl ?_
     refine wl_storeW (cs := (vwC z32 hd0 (.slice none 0 0)).toArray) 3 st rfl TF.t29 rfl rfl rfl rfl (fun u hu => one_vwC rfl u (by simpa using hu)) ?_
     intro w st
     refine wl_val (v_assign' (by conv => (lhs; whnf))) rfl ?_
     refine wl_nil ?_
     refine then_go ?_
     refine wc_ret (then_ret (block_ret (then_ret (then_ret (block_ret (then_ret ?_))))))
     rw [hse, if_neg h50] at hRx
     exact ret2c rfl (st.reads 3 rfl TF.t29 (getV_all rfl)) rfl ((st.keepOnly (l := []) (List.nil_sublist _)).out ⟨_, by rw [hRx]; rfl, by rw [hRx]; exact vw0_M⟩)
    ·refine wc_skip ?_
     refine then_go ?_
     refine wc_draw TF.mixed ?_
     have st := st.pure (touch_drew _)
     refine fl_ld 0 rfl (v_load rfl (by first | exact st.reads (v := hdV (followH x.head L[i].1)) 0 rfl TF.t26 (getV_all (by rw [List.size_toArray, length_hdC (followH_ok hrk)])) | exact st.reads (v := hdV (followH x.head L[i].1)) 1 rfl TF.t26 (getV_all (by rw [List.size_toArray, length_hdC (followH_ok hrk)])))) (by kernel_rfl) ?_
     refine fl_val 1 rfl (fun _ => (v_fa TF.f29_2 rfl)) rfl (by kernel_rfl) ?_
     refine fl_ld 2 rfl (v_load rfl (by first | exact st.reads 4 rfl TF.t27 (vw_r hpx hhx) | exact st.reads 5 rfl TF.t27 (vw_r hpx hhx))) (by kernel_rfl) ?_
     refine fl_val 3 rfl (fun _ => (v_fa TF.f71_0 rfl)) rfl (by kernel_rfl) ?_
     refine fl_ld 4 rfl (v_load rfl (by first | exact st.reads (v := rtV L[i].1.root) 1 rfl TF.t55 (sg_rt hrk) | exact st.reads (v := rtV L[i].1.root) 2 rfl TF.t55 (sg_rt hrk))) (by kernel_rfl) ?_
     refine fl_val 7 rfl (fun _ => (v_fa TF.f29_1 rfl)) rfl (by kernel_rfl) ?_
     refine fl_eff1 5 [7, 3, 1] [2, 0] (by kernel_rfl) ⟨obl_ld rfl rfl rfl (v_load rfl (by first | exact st.reads (v := rtV L[i].1.root) 1 rfl TF.t55 (sg_rt hrk) | exact st.reads (v := rtV L[i].1.root) 2 rfl TF.t55 (sg_rt hrk))), obl_ld rfl rfl rfl (v_load rfl (by first | exact st.reads 4 rfl TF.t27 (vw_r hpx hhx) | exact st.reads 5 rfl TF.t27 (vw_r hpx hhx))), obl_ld rfl rfl rfl (v_load rfl (by first | exact st.reads (v := hdV (followH x.head L[i].1)) 0 rfl TF.t26 (getV_all (by rw [List.size_toArray, length_hdC (followH_ok hrk)])) | exact st.reads (v := hdV (followH x.head L[i].1)) 1 rfl TF.t26 (getV_all (by rw [List.size_toArray, length_hdC (followH_ok hrk)])))), trivial⟩ rfl ?_
     refine wl_lsOne (rtC L[i].1.root) Try.underlying27 TF.t55 TF.z55 (by decide) (by decide) (length_rtC hrk) rfl st rfl ?_
     intro b58 w st
     refine wl_nil ⟨rfl, ?_⟩
     refine fl_eff1 6 [7, 3, 1] [0] (by kernel_rfl) ⟨obl_ld rfl rfl rfl (v_load rfl (by first | exact st.reads 4 rfl TF.t27 (vw_r hpx hhx) | exact st.reads 5 rfl TF.t27 (vw_r hpx hhx))), obl_ld rfl rfl rfl (v_load rfl (by first | exact st.reads (v := hdV (followH x.head L[i].1)) 0 rfl TF.t26 (getV_all (by rw [List.size_toArray, length_hdC (followH_ok hrk)])) | exact st.reads (v := hdV (followH x.head L[i].1)) 1 rfl TF.t26 (getV_all (by rw [List.size_toArray, length_hdC (followH_ok hrk)])))), trivial⟩ rfl ?_
     refine wl_lsApp 2 (c := rtC) (e := L[i].1.root) st rfl Try.underlying27 TF.t55 TF.z55 rfl (length_rtC hrk) one_rtC rfl rfl (by omega) (by omega) rfl ?_
     intro rv2 w st hrv2
     refine wl_nil ⟨rfl, ?_⟩
     refine fl_eff1 8 [3] [] (by kernel_rfl) ⟨obl_ld rfl rfl rfl (v_load rfl (by first | exact st.reads (v := hdV (followH x.head L[i].1)) 0 rfl TF.t26 (getV_all (by rw [List.size_toArray, length_hdC (followH_ok hrk)])) | exact st.reads (v := hdV (followH x.head L[i].1)) 1 rfl TF.t26 (getV_all (by rw [List.size_toArray, length_hdC (followH_ok hrk)])))), trivial⟩ rfl ?_
     refine wl_store (v := hdV (followH x.head L[i].1)) 4 st rfl TF.t26 rfl rfl (by simp [hdV, Value.cells, length_hdC (followH_ok hrk)]) (fun u hu => one_hdC u (by simpa [hdV, Value.cells] using hu)) (by rw [List.size_toArray, length_vwC hpx hhx]; decide) ?_
     intro w st
     rw [show (hdV (followH x.head L[i].1)).cells.toList = hdC (followH x.head L[i].1) by simp [hdV, Value.cells], show 0 + 32 = 32 from rfl, set_vwH hpx hhx (followH_ok hrk)] at st
     refine wl_nil ⟨rfl, ?_⟩
     refine fl_val 9 rfl (fun _ => (v_fa TF.f29_2 rfl)) rfl (by kernel_rfl) ?_
     refine fl_eff1 10 [] [] (by kernel_rfl) trivial rfl ?_
     refine wl_store1 4 st rfl TF.t27 rfl (by conv => (lhs; whnf)) hrv2 (by rw [List.size_toArray, length_vwC hpx (followH_ok hrk)]; decide) ?_
     intro w st
     rw [show 0 + 97 = 97 from rfl, set_vwR hpx (followH_ok hrk)] at st
     refine wl_nil ⟨rfl, ?_⟩
     refine fl_nil (by kernel_rfl) trivial ?_
     refine block_go (then_go ?_)
     refine wc_region ?_
     refine wl_val (v_add' rfl rfl rfl (by first | omega | (dsimp only at *; omega)) (by first | omega | (dsimp only at *; omega))) rfl ?_
     refine wl_val (v_move' (by conv => (lhs; whnf))) rfl ?_
     refine wl_nil ?_
     refine then_go ?_
     rw [hse, if_pos (Decidable.not_not.1 h50)] at hRx
     have hsv : lrnV x L[i].1 = ⟨x.pin, followH x.head L[i].1, x.roots ++ [L[i].1.root]⟩ := by rw [lrnV, if_neg hcond]
     refine ⟨q - 1, by simp; omega, i + 1, lrnV x L[i].1, rv2, _, by omega, rfl, rfl, rfl, rfl, rfl, hRx, by rw [ko3]; exact hpx, ko1, ko2, by omega, hl, ?_⟩
     rw [hsv]
     exact (st.drop 0).drop 0
  ·rw [show decide ((1 : Int) ≤ (L[i].1.root.epoch.toNat : Int)) = false from decide_eq_false hg2]
   refine wl_off rfl rfl rfl rfl ?_
   refine wl_off rfl rfl rfl rfl ?_
   refine wl_off rfl rfl rfl rfl ?_
   refine wl_off rfl rfl rfl rfl ?_
   refine wl_off rfl rfl rfl rfl ?_
   refine wl_off rfl rfl rfl rfl ?_
   refine wl_val (v_pick rfl) rfl ?_
   refine wl_nil ?_
   refine then_go ?_
   refine wc_false rfl ?_
   refine wc_skip ?_
   refine then_go ?_
   refine wc_seq ?_
   have hcond : ¬ (1 ≤ L[i].1.root.epoch.toNat ∧ L[i].1.root.epoch.toNat ≤ x.roots.length) := by omega
   have hse : lrnE x L[i].1 = followE x.head L[i].1 := by rw [lrnE, if_neg hcond]
   refine wc_region ?_
   refine wl_val (v_fa TF.f29_1 rfl) rfl ?_
   refine wl_val (v_load rfl (st.reads (v := hdV x.head) 3 rfl TF.t26 (vw_h hpx hhx))) rfl ?_
   refine wl_val (v_load rfl (st.reads (v := .agg (sgC L[i].1.root L[i].2).toArray) 0 rfl TF.t71 (getV_all (by rw [List.size_toArray]; exact h98)))) rfl ?_
   refine wl_call rfl (c_follow (s := L[i].1) st.im hhx ⟨_, rfl, hsk, hrk⟩) rfl ?_
   rintro v46 w ⟨t46, m3, hg3, hi3, rfl⟩
   have st := st.grown hg3 t46 hi3
   have hl := hl.mono hg3.le
   refine wl_val (v_move' (by conv => (lhs; whnf))) rfl ?_
   refine wl_val (v_extract rfl rfl) rfl ?_
   refine wl_val (v_extract rfl rfl) rfl ?_
   refine wl_alloc TF.z26 st rfl ?_
   intro b9 w st
   refine wl_storeW (cs := (hdC (followH x.head L[i].1)).toArray) 0 st rfl TF.t26 rfl rfl (by rw [List.size_toArray, length_hdC (followH_ok hrk)]) rfl (fun u hu => one_hdC u (by simpa using hu)) ?_
   intro w st
   refine wl_val (v_assign' (by conv => (lhs; whnf))) rfl ?_
   refine wl_nil ?_
   refine then_go ?_
   refine wc_seq ?_
   refine wc_seq ?_
   refine wc_region ?_
   refine wl_val (v_move' (by conv => (lhs; whnf))) rfl ?_
   refine wl_val (v_neq rfl rfl) rfl ?_
   refine wl_nil ?_
   refine then_go ?_
   refine wc_if rfl (fun h50 => ?_) (fun h50 => ?_)
   ·refine wc_seq ?_
    refine wc_region ?_
    refine wl_val (v_build (c' := (vwC z32 hd0 (.slice none 0 0)).toArray) [] TF.z29 TF.p29 rfl rfl) rfl ?_
    refine wl_val (v_move' (by conv => (lhs; whnf))) rfl ?_
    refine wl_storeW (cs := (vwC z32 hd0 (.slice none 0 0)).toArray) 3 st rfl TF.t29 rfl rfl rfl rfl (fun u hu => one_vwC rfl u (by simpa using hu)) ?_
    intro w st
    refine wl_val (v_assign' (by conv => (lhs; whnf))) rfl ?_
    refine wl_nil ?_
    refine then_go ?_
    refine wc_ret (then_ret (block_ret (then_ret (then_ret (block_ret (then_ret ?_))))))
    rw [hse, if_neg h50] at hRx
    exact ret2c rfl (st.reads 3 rfl TF.t29 (getV_all rfl)) rfl ((st.keepOnly (l := []) (List.nil_sublist _)).out ⟨_, by rw [hRx]; rfl, by rw [hRx]; exact vw0_M⟩)
   ·refine wc_skip ?_
    refine then_go ?_
    refine wc_draw TF.mixed ?_
    have st := st.pure (touch_drew _)
    refine fl_ld 0 rfl (v_load rfl (by first | exact st.reads (v := hdV (followH x.head L[i].1)) 0 rfl TF.t26 (getV_all (by rw [List.size_toArray, length_hdC (followH_ok hrk)])) | exact st.reads (v := hdV (followH x.head L[i].1)) 1 rfl TF.t26 (getV_all (by rw [List.size_toArray, length_hdC (followH_ok hrk)])))) (by kernel_rfl) ?_
    refine fl_val 1 rfl (fun _ => (v_fa TF.f29_2 rfl)) rfl (by kernel_rfl) ?_
    refine fl_ld 2 rfl (v_load rfl (by first | exact st.reads 4 rfl TF.t27 (vw_r hpx hhx) | exact st.reads 5 rfl TF.t27 (vw_r hpx hhx))) (by kernel_rfl) ?_
    refine fl_val 3 rfl (fun _ => (v_fa TF.f71_0 rfl)) rfl (by kernel_rfl) ?_
    refine fl_ld 4 rfl (v_load rfl (by first | exact st.reads (v := rtV L[i].1.root) 1 rfl TF.t55 (sg_rt hrk) | exact st.reads (v := rtV L[i].1.root) 2 rfl TF.t55 (sg_rt hrk))) (by kernel_rfl) ?_
    refine fl_val 7 rfl (fun _ => (v_fa TF.f29_1 rfl)) rfl (by kernel_rfl) ?_
    refine fl_eff1 5 [7, 3, 1] [2, 0] (by kernel_rfl) ⟨obl_ld rfl rfl rfl (v_load rfl (by first | exact st.reads (v := rtV L[i].1.root) 1 rfl TF.t55 (sg_rt hrk) | exact st.reads (v := rtV L[i].1.root) 2 rfl TF.t55 (sg_rt hrk))), obl_ld rfl rfl rfl (v_load rfl (by first | exact st.reads 4 rfl TF.t27 (vw_r hpx hhx) | exact st.reads 5 rfl TF.t27 (vw_r hpx hhx))), obl_ld rfl rfl rfl (v_load rfl (by first | exact st.reads (v := hdV (followH x.head L[i].1)) 0 rfl TF.t26 (getV_all (by rw [List.size_toArray, length_hdC (followH_ok hrk)])) | exact st.reads (v := hdV (followH x.head L[i].1)) 1 rfl TF.t26 (getV_all (by rw [List.size_toArray, length_hdC (followH_ok hrk)])))), trivial⟩ rfl ?_
    refine wl_lsOne (rtC L[i].1.root) Try.underlying27 TF.t55 TF.z55 (by decide) (by decide) (length_rtC hrk) rfl st rfl ?_
    intro b58 w st
    refine wl_nil ⟨rfl, ?_⟩
    refine fl_eff1 6 [7, 3, 1] [0] (by kernel_rfl) ⟨obl_ld rfl rfl rfl (v_load rfl (by first | exact st.reads 4 rfl TF.t27 (vw_r hpx hhx) | exact st.reads 5 rfl TF.t27 (vw_r hpx hhx))), obl_ld rfl rfl rfl (v_load rfl (by first | exact st.reads (v := hdV (followH x.head L[i].1)) 0 rfl TF.t26 (getV_all (by rw [List.size_toArray, length_hdC (followH_ok hrk)])) | exact st.reads (v := hdV (followH x.head L[i].1)) 1 rfl TF.t26 (getV_all (by rw [List.size_toArray, length_hdC (followH_ok hrk)])))), trivial⟩ rfl ?_
    refine wl_lsApp 2 (c := rtC) (e := L[i].1.root) st rfl Try.underlying27 TF.t55 TF.z55 rfl (length_rtC hrk) one_rtC rfl rfl (by omega) (by omega) rfl ?_
    intro rv2 w st hrv2
    refine wl_nil ⟨rfl, ?_⟩
    refine fl_eff1 8 [3] [] (by kernel_rfl) ⟨obl_ld rfl rfl rfl (v_load rfl (by first | exact st.reads (v := hdV (followH x.head L[i].1)) 0 rfl TF.t26 (getV_all (by rw [List.size_toArray, length_hdC (followH_ok hrk)])) | exact st.reads (v := hdV (followH x.head L[i].1)) 1 rfl TF.t26 (getV_all (by rw [List.size_toArray, length_hdC (followH_ok hrk)])))), trivial⟩ rfl ?_
    refine wl_store (v := hdV (followH x.head L[i].1)) 4 st rfl TF.t26 rfl rfl (by simp [hdV, Value.cells, length_hdC (followH_ok hrk)]) (fun u hu => one_hdC u (by simpa [hdV, Value.cells] using hu)) (by rw [List.size_toArray, length_vwC hpx hhx]; decide) ?_
    intro w st
    rw [show (hdV (followH x.head L[i].1)).cells.toList = hdC (followH x.head L[i].1) by simp [hdV, Value.cells], show 0 + 32 = 32 from rfl, set_vwH hpx hhx (followH_ok hrk)] at st
    refine wl_nil ⟨rfl, ?_⟩
    refine fl_val 9 rfl (fun _ => (v_fa TF.f29_2 rfl)) rfl (by kernel_rfl) ?_
    refine fl_eff1 10 [] [] (by kernel_rfl) trivial rfl ?_
    refine wl_store1 4 st rfl TF.t27 rfl (by conv => (lhs; whnf)) hrv2 (by rw [List.size_toArray, length_vwC hpx (followH_ok hrk)]; decide) ?_
    intro w st
    rw [show 0 + 97 = 97 from rfl, set_vwR hpx (followH_ok hrk)] at st
    refine wl_nil ⟨rfl, ?_⟩
    refine fl_nil (by kernel_rfl) trivial ?_
    refine block_go (then_go ?_)
    refine wc_region ?_
    refine wl_val (v_add' rfl rfl rfl (by first | omega | (dsimp only at *; omega)) (by first | omega | (dsimp only at *; omega))) rfl ?_
    refine wl_val (v_move' (by conv => (lhs; whnf))) rfl ?_
    refine wl_nil ?_
    refine then_go ?_
    rw [hse, if_pos (Decidable.not_not.1 h50)] at hRx
    have hsv : lrnV x L[i].1 = ⟨x.pin, followH x.head L[i].1, x.roots ++ [L[i].1.root]⟩ := by rw [lrnV, if_neg hcond]
    refine ⟨q - 1, by simp; omega, i + 1, lrnV x L[i].1, rv2, _, by omega, rfl, rfl, rfl, rfl, rfl, hRx, by rw [ko3]; exact hpx, ko1, ko2, by omega, hl, ?_⟩
    rw [hsv]
    exact (st.drop 0).drop 0
 ·refine wc_exit (then_exit (then_exit (block_hit ?_)))
  refine then_go ?_
  refine wc_seq ?_
  refine wc_region ?_
  refine wl_val (v_load rfl (st.reads (v := .agg (vwC x.pin x.head rv).toArray) 2 rfl TF.t29 (getV_all (by rw [List.size_toArray, length_vwC hpx hhx])))) rfl ?_
  refine wl_storeW (cs := (vwC x.pin x.head rv).toArray) 1 st rfl TF.t29 rfl rfl (by rw [List.size_toArray, length_vwC hpx hhx]) (by rw [List.size_toArray, hz98]) (fun u hu => one_vwC (row_one (st.at (i := 0) rfl)) u (by simpa using hu)) ?_
  intro w st
  refine wl_val (v_assign' (by conv => (lhs; whnf))) rfl ?_
  refine wl_nil ?_
  refine then_go ?_
  refine wc_ret ?_
  have hiL : i = L.length := by omega
  subst hiL
  rw [List.drop_length, List.map_nil, learnG] at hRx
  have hrd := st.reads (v := .agg (vwC x.pin x.head rv).toArray) 1 rfl TF.t29 (getV_all (by rw [List.size_toArray, length_vwC hpx hhx]))
  obtain ⟨m4, hg4, hq4, st⟩ := st.keepLs (i := 0) rfl (fun t ht => length_rtC (hokx t ht))
  exact ret2c rfl hrd rfl ((st.keepOnly (l := []) (List.nil_sublist _)).out ⟨_, by rw [hRx]; rfl, by rw [hRx]; exact ⟨rv, rfl, hq4, hpx, hhx, hokx⟩⟩)
end
end Go.Proofs.Ytjjpakjgppmmdaa

namespace Go.Proofs.Ytjjpakjgppmmdaa
open Go Go.RowKit K SH PT
theorem v_neRtF {r : Fr} {w : World} {ty U : TypeId} {x y : Operand} {a : Rt} (hx : ev r x = rtV a) (hy : ev r y = rtV a) (ha : a.ok) : Val Try.prog (.binOp .neq 55 x y U) ty r w (.bool false) w := by
 have h := v_neRt (U := U) (ty := ty) (w := w) hx hy ha ha
 rwa [decide_eq_false (not_not_intro rfl)] at h
theorem v_neHdF {r : Fr} {w : World} {ty U : TypeId} {x y : Operand} {a : Hd} (hx : ev r x = hdV a) (hy : ev r y = hdV a) (ha : a.ok) : Val Try.prog (.binOp .neq 26 x y U) ty r w (.bool false) w := by
 have h := v_neHd (U := U) (ty := ty) (w := w) hx hy ha ha
 rwa [decide_eq_false (not_not_intro rfl)] at h
section
variable {m : Mem} {wI : World}
theorem c_sameview {v1 v2 : Value} {x : Vw} (him : Im m wI) (h1 : VwM m v1 x) (h2 : VwM m v2 x) (hlen : x.roots.length ≤ 1099511627776) :
  Ret Try.prog 16 #[v1, v2] wI fun v' w' => Tch wI w' [] [] ∧ v' = .bool true := by
 have st := St.start him
 obtain ⟨s1, rfl, hs1, hp, hh, hok⟩ := h1
 obtain ⟨s2, rfl, hs2, _, _, _⟩ := h2
 obtain ⟨a1, c1, rfl⟩ := hs1.sl
 obtain ⟨a2, c2, rfl⟩ := hs2.sl
 refine ret_of Try.call16 Try.func16 rfl Try.ntmps16 Try.results16 rfl ?_
 refine wc_seq ?_
 refine wc_region ?_
 refine wl_box (v := .agg (vwC x.pin x.head (.slice a1 x.roots.length c1)).toArray) rfl st rfl ?_
 intro b2 w st
 refine wl_box (v := .agg (vwC x.pin x.head (.slice a2 x.roots.length c2)).toArray) rfl st rfl ?_
 intro b3 w st
 refine wl_val (v_assign' (by conv => (lhs; whnf))) rfl ?_
 refine wl_nil ?_
 refine then_go ?_
 refine wc_seq ?_
 refine wc_seq ?_
 refine wc_region ?_
 refine wl_val (v_fa TF.f29_0 rfl) rfl ?_
 refine wl_val (v_load rfl (st.reads (v := arr x.pin) 1 rfl TF.t23 (vw_p hp))) rfl ?_
 refine wl_val (v_fa TF.f29_0 rfl) rfl ?_
 refine wl_val (v_load rfl (st.reads (v := arr x.pin) 0 rfl TF.t23 (vw_p hp))) rfl ?_
 refine wl_val (v_neDF rfl rfl hp) rfl ?_
 refine wl_val (v_move' (by conv => (lhs; whnf))) rfl ?_
 refine wl_on rfl rfl ?_
 refine wl_val (v_fa TF.f29_1 rfl) rfl ?_
 refine wl_on rfl rfl ?_
 refine wl_val (v_load rfl (st.reads (v := hdV x.head) 1 rfl TF.t26 (vw_h hp hh))) rfl ?_
 refine wl_on rfl rfl ?_
 refine wl_val (v_fa TF.f29_1 rfl) rfl ?_
 refine wl_on rfl rfl ?_
 refine wl_val (v_load rfl (st.reads (v := hdV x.head) 0 rfl TF.t26 (vw_h hp hh))) rfl ?_
 refine wl_on rfl rfl ?_
 refine wl_val (v_neHdF rfl rfl hh) rfl ?_
 refine wl_val (v_pick rfl) rfl ?_
 refine wl_val (v_move' (by conv => (lhs; whnf))) rfl ?_
 refine wl_on rfl rfl ?_
 refine wl_val (v_fa TF.f29_2 rfl) rfl ?_
 refine wl_on rfl rfl ?_
 refine wl_val (v_load rfl (st.reads (v := .slice a1 x.roots.length c1) 1 rfl TF.t27 (vw_r hp hh))) rfl ?_
 refine wl_on rfl rfl ?_
 refine wl_val (v_len_s Try.underlying27 rfl) rfl ?_
 refine wl_on rfl rfl ?_
 refine wl_val (v_fa TF.f29_2 rfl) rfl ?_
 refine wl_on rfl rfl ?_
 refine wl_val (v_load rfl (st.reads (v := .slice a2 x.roots.length c2) 0 rfl TF.t27 (vw_r hp hh))) rfl ?_
 refine wl_on rfl rfl ?_
 refine wl_val (v_len_s Try.underlying27 rfl) rfl ?_
 refine wl_on rfl rfl ?_
 refine wl_val (v_neqF (a := (x.roots.length : Int)) (b := (x.roots.length : Int)) rfl rfl rfl) rfl ?_
 refine wl_val (v_pick rfl) rfl ?_
 refine wl_nil ?_
 refine then_go ?_
 refine wc_false rfl ?_
 refine wc_skip ?_
 refine then_go ?_
 refine wc_seq ?_
 refine wc_seq ?_
 refine wc_region ?_
 refine wl_val (v_assign' (by conv => (lhs; whnf))) rfl ?_
 refine wl_nil ?_
 refine then_go ?_
 refine wc_block ?_
 refine wc_loop (S := Nat) (fun q r w' => ∃ (i : Nat), q + i = x.roots.length ∧ r 2 = .pointer (some ⟨b2, 0, none⟩) ∧ r 3 = .pointer (some ⟨b3, 0, none⟩) ∧ r 5 = .int .i64 i ∧
  St m m [] wI w' [K.blk b3 (vwC x.pin x.head (.slice a2 x.roots.length c2)).toArray 29, K.blk b2 (vwC x.pin x.head (.slice a1 x.roots.length c1)).toArray 29]) id x.roots.length ⟨0, by omega, rfl, rfl, rfl, st⟩ ?_
 rintro q r w2 ⟨i, hqi, g2, g3, g5, st⟩
 refine wc_o 2 g2 (wc_o 3 g3 (wc_o 5 g5 ?_))
 refine wc_seq ?_
 refine wc_seq ?_
 refine wc_region ?_
 refine wl_val (v_move' (by conv => (lhs; whnf))) rfl ?_
 refine wl_val (v_fa TF.f29_2 rfl) rfl ?_
 refine wl_val (v_load rfl (st.reads (v := .slice a1 x.roots.length c1) 1 rfl TF.t27 (vw_r hp hh))) rfl ?_
 refine wl_val (v_len_s Try.underlying27 rfl) rfl ?_
 refine wl_val (v_lss rfl rfl) rfl ?_
 refine wl_nil ?_
 refine then_go ?_
 refine wc_if rfl (fun h31 => ?_) (fun h31 => ?_)
 ·refine wc_skip ?_
  refine then_go ?_
  refine wc_seq ?_
  refine wc_block ?_
  refine wc_seq ?_
  have hi : i < x.roots.length := by omega
  obtain ⟨ba, oa, hba⟩ := hs1.ptr (by omega) (by decide)
  obtain ⟨bv, ov, hbv⟩ := hs2.ptr (by omega) (by decide)
  subst hba
  subst hbv
  have hti := hok _ (List.getElem_mem hi)
  refine wc_draw TF.mixed ?_
  have st := st.pure (touch_drew _)
  refine fl_val 0 rfl (fun _ => (v_fa TF.f29_2 rfl)) rfl (by kernel_rfl) ?_
  refine fl_ld 1 rfl (v_load rfl (st.reads (v := .slice (some ⟨ba, oa, none⟩) x.roots.length c1) 1 rfl TF.t27 (vw_r hp hh))) (by kernel_rfl) ?_
  refine fl_val 2 rfl (fun _ => (v_move' (by conv => (lhs; whnf)))) rfl (by kernel_rfl) ?_
  refine fl_val 3 rfl (fun _ => (v_ias i Try.underlying27 TF.t55 rfl rfl (by first | rfl | omega) (by first | omega | (dsimp only at *; omega)))) rfl (by kernel_rfl) ?_
  refine fl_ld 4 rfl (v_load rfl (hs1.rd0 rfl hi (by decide) TF.t55 (v' := rtV x.roots[i]) (getV_all (by rw [List.size_toArray, length_rtC hti])) st.im)) (by kernel_rfl) ?_
  refine fl_val 5 rfl (fun _ => (v_fa TF.f29_2 rfl)) rfl (by kernel_rfl) ?_
  refine fl_ld 6 rfl (v_load rfl (st.reads (v := .slice (some ⟨bv, ov, none⟩) x.roots.length c2) 0 rfl TF.t27 (vw_r hp hh))) (by kernel_rfl) ?_
  refine fl_val 7 rfl (fun _ => (v_move' (by conv => (lhs; whnf)))) rfl (by kernel_rfl) ?_
  refine fl_val 8 rfl (fun _ => (v_ias i Try.underlying27 TF.t55 rfl rfl (by first | rfl | omega) (by first | omega | (dsimp only at *; omega)))) rfl (by kernel_rfl) ?_
  refine fl_ld 9 rfl (v_load rfl (hs2.rd0 rfl hi (by decide) TF.t55 (v' := rtV x.roots[i]) (getV_all (by rw [List.size_toArray, length_rtC hti])) st.im)) (by kernel_rfl) ?_
  refine fl_val 10 rfl (fun _ => (v_neRtF rfl rfl hti)) rfl (by kernel_rfl) ?_
  refine fl_nil (by kernel_rfl) ⟨obl_ld rfl rfl rfl (v_load rfl (hs2.rd0 rfl hi (by decide) TF.t55 (v' := rtV x.roots[i]) (getV_all (by rw [List.size_toArray, length_rtC hti])) st.im)), obl_ld rfl rfl rfl (v_load rfl (st.reads (v := .slice (some ⟨bv, ov, none⟩) x.roots.length c2) 0 rfl TF.t27 (vw_r hp hh))), obl_ld rfl rfl rfl (v_load rfl (hs1.rd0 rfl hi (by decide) TF.t55 (v' := rtV x.roots[i]) (getV_all (by rw [List.size_toArray, length_rtC hti])) st.im)), obl_ld rfl rfl rfl (v_load rfl (st.reads (v := .slice (some ⟨ba, oa, none⟩) x.roots.length c1) 1 rfl TF.t27 (vw_r hp hh))), trivial⟩ ?_
  refine then_go ?_
  refine wc_false rfl ?_
  refine wc_skip ?_
  refine block_go (then_go ?_)
  refine wc_region ?_
  refine wl_val (v_move' (by conv => (lhs; whnf))) rfl ?_
  refine wl_val (v_add' rfl rfl rfl (by first | omega | (dsimp only at *; omega)) (by first | omega | (dsimp only at *; omega))) rfl ?_
  refine wl_val (v_assign' (by conv => (lhs; whnf))) rfl ?_
  refine wl_nil ?_
  refine then_go ?_
  exact ⟨q - 1, by simp; omega, i + 1, by omega, rfl, rfl, rfl, st⟩
 ·refine wc_exit (then_exit (then_exit (block_hit ?_)))
  refine then_go ?_
  refine wc_seq ?_
  refine wc_region ?_
  refine wl_val (v_assign' (by conv => (lhs; whnf))) rfl ?_
  refine wl_nil ?_
  refine then_go ?_
  refine wc_ret ?_
  exact ret1 rfl ⟨(st.keepOnly (l := []) (List.nil_sublist _)).touch, rfl⟩
theorem c_rlearn {vv lv : Value} {x0 : Vw} {L : List (Sg × Value)} (him : Im m wI) (hv : VwM m vv x0) (hl : SgsM m lv L) (hb : x0.roots.length + L.length ≤ 1000000) :
  Ret Try.prog 15 #[vv, lv] wI fun v' w' => Out m wI w' fun m' => ∃ v2, v' = .tuple #[v2, .int .i64 (learnG x0 (L.map (·.1))).2] ∧ VwM m' v2 (learnG x0 (L.map (·.1))).1 := by
 have st := St.start him
 have hv0 := hv
 obtain ⟨rv0, rfl, hrt0, hp, hh0, hok0⟩ := hv
 obtain ⟨la, lc, rfl⟩ := hl.1.sl
 obtain ⟨R, hR⟩ : ∃ R, R = learnG x0 (L.map (·.1)) := ⟨_, rfl⟩
 have hz98 : (vwC z32 hd0 (.slice none 0 0)).length = 98 := length_vwC rfl hd0_ok
 rw [← hR]
 refine ret_of Try.call15 Try.func15 rfl Try.ntmps15 Try.results15 rfl ?_
 refine wc_seq ?_
 refine wc_region ?_
 refine wl_box (v := .agg (vwC x0.pin x0.head rv0).toArray) rfl st rfl ?_
 intro b2 w st
 refine wl_alloc TF.z29 st rfl ?_
 intro b4 w st
 have st : St m m [] wI w [K.blk b4 (vwC z32 hd0 (.slice none 0 0)).toArray 29, K.blk b2 (vwC x0.pin x0.head rv0).toArray 29] := st
 refine wl_val (v_assign' (by conv => (lhs; whnf))) rfl ?_
 refine wl_nil ?_
 refine then_go ?_
 refine wc_seq ?_
 refine wc_region ?_
 refine wl_val (v_assign' (by conv => (lhs; whnf))) rfl ?_
 refine wl_nil ?_
 refine then_go ?_
 refine wc_seq ?_
 refine wc_draw TF.mixed ?_
 have st := st.pure (touch_drew _)
 show FL _ _ ?ops2 ?post2 [] [] [] _ _
 have fin : ∀ (r : Fr) (w : World) (b7 : Nat) (rv : Value), r 1 = .slice la L.length lc → r 2 = .pointer (some ⟨b2, 0, none⟩) → r 4 = .pointer (some ⟨b4, 0, none⟩) → r 7 = .pointer (some ⟨b7, 0, none⟩) → r 12 = .pointer (some ⟨b2, 0 + 0, none⟩) → r 13 = arr x0.pin → r 14 = .pointer (some ⟨b2, 0 + 32, none⟩) → r 15 = hdV x0.head → r 19 = rv → r 20 = .agg (vwC x0.pin x0.head rv).toArray → rv.oneCell' = true →
  St m m [] wI w [K.blk b7 (vwC z32 hd0 (.slice none 0 0)).toArray 29, lsE 55 97 rtC rv x0.roots, K.blk b4 (vwC z32 hd0 (.slice none 0 0)).toArray 29, K.blk b2 (vwC x0.pin x0.head rv0).toArray 29] → FL Try.prog 83 ?ops2 ?post2 [9, 8, 7, 6, 5, 4, 3, 2, 1, 0] [8, 5, 2, 0] [3, 1] r w := by
  clear st
  rintro r w b7 rv g1 g2 g4 g7 g12 g13 g14 g15 g19 g20 hone st
  refine fl_o 1 g1 (fl_o 2 g2 (fl_o 4 g4 (fl_o 7 g7 (fl_o 12 g12 (fl_o 13 g13 (fl_o 14 g14 (fl_o 15 g15 (fl_o 19 g19 (fl_o 20 g20 ?_)))))))))
  refine fl_eff1 10 [] [] (by kernel_rfl) ⟨obl_ld rfl rfl rfl (v_load rfl (by first | exact st.reads (v := hdV x0.head) 1 rfl TF.t26 (vw_h hp hh0) | exact st.reads (v := hdV x0.head) 2 rfl TF.t26 (vw_h hp hh0) | exact st.reads (v := hdV x0.head) 3 rfl TF.t26 (vw_h hp hh0))), obl_ld rfl rfl rfl (v_load rfl (by first | exact st.reads (v := arr x0.pin) 1 rfl TF.t23 (vw_p hp) | exact st.reads (v := arr x0.pin) 2 rfl TF.t23 (vw_p hp) | exact st.reads (v := arr x0.pin) 3 rfl TF.t23 (vw_p hp))), trivial⟩ rfl ?_
  refine wl_storeW (cs := (vwC x0.pin x0.head rv).toArray) 0 st rfl TF.t29 rfl rfl (by rw [List.size_toArray, length_vwC hp hh0]) (by rw [List.size_toArray, hz98]) (fun u hu => one_vwC hone u (by simpa using hu)) ?_
  intro w st
  refine wl_nil ⟨rfl, ?_⟩
  refine fl_nil (by kernel_rfl) trivial ?_
  refine then_go ?_
  refine wc_seq ?_
  refine wc_seq ?_
  refine wc_region ?_
  refine wl_val (v_assign' (by conv => (lhs; whnf))) rfl ?_
  refine wl_nil ?_
  refine then_go ?_
  refine wc_block ?_
  refine wc_loop (S := Nat) (fun q r w' => ∃ (i : Nat) (x : Vw) (rv : Value) (m2 : Mem), q + i = L.length ∧ r 1 = .slice la L.length lc ∧ r 4 = .pointer (some ⟨b4, 0, none⟩) ∧ r 7 = .pointer (some ⟨b7, 0, none⟩) ∧ r 8 = .int .i64 i ∧ R = learnG x ((L.drop i).map (·.1)) ∧ x.pin.length = 32 ∧ x.head.ok ∧ (∀ t ∈ x.roots, t.ok) ∧ x.roots.length + (L.length - i) ≤ 1000000 ∧ SgsM m2 (.slice la L.length lc) L ∧
   St m m2 [] wI w' [K.blk b7 (vwC x.pin x.head rv).toArray 29, lsE 55 97 rtC rv x.roots, K.blk b4 (vwC z32 hd0 (.slice none 0 0)).toArray 29, K.blk b2 (vwC x0.pin x0.head rv0).toArray 29]) id L.length ⟨0, x0, _, m, by omega, rfl, rfl, rfl, rfl, hR, hp, hh0, hok0, by omega, hl, st⟩ ?_
  clear hl hone
  rintro q r w2 ⟨i, x, rv, m2, hqi, g1, g4, g7, g8, hRx, hpx, hhx, hokx, hbx, hl, st⟩
  refine wc_o 1 g1 (wc_o 4 g4 (wc_o 7 g7 (wc_o 8 g8 ?_)))
  refine wc_seq ?_
  refine wc_seq ?_
  refine wc_region ?_
  refine wl_val (v_move' (by conv => (lhs; whnf))) rfl ?_
  refine wl_val (v_move' (by conv => (lhs; whnf))) rfl ?_
  refine wl_val (v_len_s Try.underlying30 rfl) rfl ?_
  refine wl_val (v_lss rfl rfl) rfl ?_
  refine wl_nil ?_
  refine then_go ?_
  refine wc_if rfl (fun h24 => ?_) (fun h24 => ?_)
  ·refine wc_skip ?_
   refine then_go ?_
   refine wc_seq ?_
   refine wc_block ?_
   refine wc_seq ?_
   have hi : i < L.length := by omega
   obtain ⟨ba, oa, hba⟩ := hl.1.ptr (by omega) (by decide)
   subst hba
   obtain ⟨hrk, hsk⟩ := hl.2 _ (List.getElem_mem hi)
   have h98 := length_sgC (sv := L[i].2) hrk
   have hLen : ∀ t ∈ x.roots, (rtC t).length = 97 := fun t ht => length_rtC (hokx t ht)
   rw [List.drop_eq_getElem_cons hi, List.map_cons, learnG] at hRx
   obtain ⟨ko1, ko2, ko3, ko4⟩ := lrnV_ok hhx hokx hrk
   refine wc_region ?_
   refine wl_val (v_move' (by conv => (lhs; whnf))) rfl ?_
   refine wl_val (v_move' (by conv => (lhs; whnf))) rfl ?_
   refine wl_val (v_ias i Try.underlying30 TF.t71 rfl rfl (by first | rfl | omega) (by first | omega | (dsimp only at *; omega))) rfl ?_
   refine wl_val (v_fa TF.f71_0 rfl) rfl ?_
   refine wl_val (v_fa TF.f55_0 rfl) rfl ?_
   refine wl_val (v_load rfl (hl.1.rd rfl hi (by decide) TF.t24 (v' := u64 L[i].1.root.epoch) sg_e st.im)) rfl ?_
   refine wl_val (v_assign' (by conv => (lhs; whnf))) rfl ?_
   refine wl_nil ?_
   refine then_go ?_
   refine wc_seq ?_
   refine wc_seq ?_
   refine wc_region ?_
   refine wl_val (v_move' (by conv => (lhs; whnf))) rfl ?_
   refine wl_val (v_geq rfl rfl) rfl ?_
   refine wl_val (v_move' (by conv => (lhs; whnf))) rfl ?_
   by_cases hg2 : (1 : Int) ≤ (L[i].1.root.epoch.toNat : Int)
   ·rw [show decide ((1 : Int) ≤ (L[i].1.root.epoch.toNat : Int)) = true from decide_eq_true hg2]
    obtain ⟨ra, rc, hrv⟩ := (st.lsRd 1 rfl hLen).sl
    subst hrv
    refine wl_on rfl rfl ?_
    refine wl_val (v_move' (by conv => (lhs; whnf))) rfl ?_
    refine wl_on rfl rfl ?_
    refine wl_val (v_fa TF.f29_2 rfl) rfl ?_
    refine wl_on rfl rfl ?_
    refine wl_val (v_load rfl (st.reads (v := .slice ra x.roots.length rc) 0 rfl TF.t27 (vw_r hpx hhx))) rfl ?_
    refine wl_on rfl rfl ?_
    refine wl_val (v_len_s Try.underlying27 rfl) rfl ?_
    refine wl_on rfl rfl ?_
    refine wl_val (v_to (v' := .int .u64 (x.roots.length : Nat)) (v_conv Try.underlying3 Try.underlying24 rfl) (by rw [wrap_u64_small (by omega)])) rfl ?_
    refine wl_on rfl rfl ?_
    refine wl_val (v_leq rfl rfl) rfl ?_
    refine wl_val (v_pick rfl) rfl ?_
    refine wl_nil ?_
    refine then_go ?_
    refine wc_if rfl (fun h42 => ?_) (fun h42 => ?_)
    ·refine wc_seq ?_
     refine wc_seq ?_
     have hcond : 1 ≤ L[i].1.root.epoch.toNat ∧ L[i].1.root.epoch.toNat ≤ x.roots.length := by omega
     have hj : L[i].1.root.epoch.toNat - 1 < x.roots.length := by omega
     have hrd2 := st.lsRd 1 rfl hLen
     obtain ⟨rb, ro, hra⟩ := hrd2.ptr (by omega) (by decide)
     subst hra
     have hse : lrnE x L[i].1 = if x.roots[L[i].1.root.epoch.toNat - 1] = L[i].1.root then 0 else 17 := by
      rw [lrnE, if_pos hcond, List.getElem?_eq_getElem hj]
      simp only [Option.some.injEq]
     refine wc_draw TF.mixed ?_
     have st := st.pure (touch_drew _)
     refine fl_val 0 rfl (fun _ => (v_move' (by conv => (lhs; whnf)))) rfl (by kernel_rfl) ?_
     refine fl_val 1 rfl (fun _ => (v_move' (by conv => (lhs; whnf)))) rfl (by kernel_rfl) ?_
     refine fl_val 2 rfl (fun _ => (v_ias i Try.underlying30 TF.t71 rfl rfl (by first | rfl | omega) (by first | omega | (dsimp only at *; omega)))) rfl (by kernel_rfl) ?_
     refine fl_val 3 rfl (fun _ => (v_fa TF.f71_0 rfl)) rfl (by kernel_rfl) ?_
     refine fl_ld 4 rfl (v_load rfl (hl.1.rd rfl hi (by decide) TF.t55 (v' := rtV L[i].1.root) (sg_rt hrk) st.im)) (by kernel_rfl) ?_
     refine fl_val 5 rfl (fun _ => (v_fa TF.f29_2 rfl)) rfl (by kernel_rfl) ?_
     refine fl_ld 6 rfl (v_load rfl (st.reads (v := .slice (some ⟨rb, ro, none⟩) x.roots.length rc) 0 rfl TF.t27 (vw_r hpx hhx))) (by kernel_rfl) ?_
     refine fl_val 7 rfl (fun _ => (v_move' (by conv => (lhs; whnf)))) rfl (by kernel_rfl) ?_
     refine fl_val 8 rfl (fun _ => (v_to (v' := .int .u64 ((L[i].1.root.epoch.toNat - 1 : Nat) : Int)) (v_sub rfl rfl) (by rw [show ((L[i].1.root.epoch.toNat : Int) - 1) = ((L[i].1.root.epoch.toNat - 1 : Nat) : Int) by omega, wrap_u64_small (by have := L[i].1.root.epoch.toNat_lt; omega)]))) rfl (by kernel_rfl) ?_
     refine fl_val 9 rfl (fun _ => (v_ias (L[i].1.root.epoch.toNat - 1) Try.underlying27 TF.t55 rfl rfl (by first | rfl | omega) (by first | omega | (dsimp only at *; omega)))) rfl (by kernel_rfl) ?_
     refine fl_ld 10 rfl (v_load rfl (hrd2.rd0 rfl hj (by decide) TF.t55 (v' := rtV x.roots[L[i].1.root.epoch.toNat - 1]) (getV_all (by rw [List.size_toArray, hLen _ (List.getElem_mem hj)])) (im_heapM _))) (by kernel_rfl) ?_
     refine fl_val 11 rfl (fun _ => (v_neRt rfl rfl hrk (hokx _ (List.getElem_mem hj)))) rfl (by kernel_rfl) ?_
     refine fl_nil (by kernel_rfl) ⟨obl_ld rfl rfl rfl (v_load rfl (hrd2.rd0 rfl hj (by decide) TF.t55 (v' := rtV x.roots[L[i].1.root.epoch.toNat - 1]) (getV_all (by rw [List.size_toArray, hLen _ (List.getElem_mem hj)])) (im_heapM _))), obl_ld rfl rfl rfl (v_load rfl (st.reads (v := .slice (some ⟨rb, ro, none⟩) x.roots.length rc) 0 rfl TF.t27 (vw_r hpx hhx))), obl_ld rfl rfl rfl (v_load rfl (hl.1.rd rfl hi (by decide) TF.t55 (v' := rtV L[i].1.root) (sg_rt hrk) st.im)), trivial⟩ ?_
     refine then_go ?_
     refine wc_if rfl (fun h54 => ?_) (fun h54 => ?_)
     ·refine wc_seq ?_
      refine wc_region ?_
      refine wl_val (v_build (c' := (vwC z32 hd0 (.slice none 0 0)).toArray) [] TF.z29 TF.p29 rfl rfl) rfl ?_
      refine wl_storeW (cs := (vwC z32 hd0 (.slice none 0 0)).toArray) 2 st rfl TF.t29 rfl rfl rfl rfl (fun u hu => one_vwC rfl u (by simpa using hu)) ?_
      intro w st
      refine wl_val (v_assign' (by conv => (lhs; whnf))) rfl ?_
      refine wl_nil ?_
      refine then_go ?_
      refine wc_ret (then_ret (then_ret (block_ret (then_ret (then_ret (block_ret (then_ret ?_)))))))
      have h54' : ¬ x.roots[L[i].1.root.epoch.toNat - 1] = L[i].1.root := fun e => h54 e.symm
      rw [hse, if_neg h54', if_neg (show ¬ ((17 : Int) = 0) by decide)] at hRx
      exact ret2c rfl (st.reads 2 rfl TF.t29 (getV_all rfl)) rfl ((st.keepOnly (l := []) (List.nil_sublist _)).out ⟨_, by rw [hRx]; rfl, by rw [hRx]; exact vw0_M⟩)
     ·refine wc_skip ?_
      refine then_go ?_
      refine wc_exit (then_exit (block_hit ?_))
      refine then_go ?_
      refine wc_region ?_
      refine wl_val (v_move' (by conv => (lhs; whnf))) rfl ?_
      refine wl_val (v_add' rfl rfl rfl (by first | omega | (dsimp only at *; omega)) (by first | omega | (dsimp only at *; omega))) rfl ?_
      refine wl_val (v_assign' (by conv => (lhs; whnf))) rfl ?_
      refine wl_nil ?_
      refine then_go ?_
      have h54' : x.roots[L[i].1.root.epoch.toNat - 1] = L[i].1.root := (Decidable.not_not.1 h54).symm
      rw [hse, if_pos h54', if_pos rfl, lrnV, if_pos hcond] at hRx
      exact ⟨q - 1, by simp; omega, i + 1, x, _, m2, by omega, rfl, rfl, rfl, rfl, hRx, hpx, hhx, hokx, by omega, hl, st⟩
    ·refine wc_skip ?_
     refine then_go ?_
     refine wc_seq ?_
     have hcond : ¬ (1 ≤ L[i].1.root.epoch.toNat ∧ L[i].1.root.epoch.toNat ≤ x.roots.length) := by omega
     have hse : lrnE x L[i].1 = followE x.head L[i].1 := by rw [lrnE, if_neg hcond]
     refine wc_draw TF.mixed ?_
     have st := st.pure (touch_drew _)
     refine fl_val 0 rfl (fun _ => (v_fa TF.f29_1 rfl)) rfl (by kernel_rfl) ?_
     refine fl_ld 1 rfl (v_load rfl (by first | exact st.reads (v := hdV x.head) 0 rfl TF.t26 (vw_h hpx hhx) | exact st.reads (v := hdV x.head) 1 rfl TF.t26 (vw_h hpx hhx))) (by kernel_rfl) ?_
     refine fl_val 2 rfl (fun _ => (v_move' (by conv => (lhs; whnf)))) rfl (by kernel_rfl) ?_
     refine fl_val 3 rfl (fun _ => (v_move' (by conv => (lhs; whnf)))) rfl (by kernel_rfl) ?_
     refine fl_val 4 rfl (fun _ => (v_ias i Try.underlying30 TF.t71 rfl rfl (by first | rfl | omega) (by first | omega | (dsimp only at *; omega)))) rfl (by kernel_rfl) ?_
     refine fl_ld 5 rfl (v_load rfl (hl.1.rd0 rfl hi (by decide) TF.t71 (v' := .agg (sgC L[i].1.root L[i].2).toArray) (getV_all (by rw [List.size_toArray]; exact h98)) st.im)) (by kernel_rfl) ?_
     refine fl_effs [6, 10] (by kernel_rfl) ⟨obl_ld rfl rfl rfl (v_load rfl (hl.1.rd0 rfl hi (by decide) TF.t71 (v' := .agg (sgC L[i].1.root L[i].2).toArray) (getV_all (by rw [List.size_toArray]; exact h98)) st.im)), obl_ld rfl rfl rfl (v_load rfl (by first | exact st.reads (v := hdV x.head) 0 rfl TF.t26 (vw_h hpx hhx) | exact st.reads (v := hdV x.head) 1 rfl TF.t26 (vw_h hpx hhx))), trivial⟩ (all2 ?_ ?_)
     ·refine stepE 6 (pure' := [4, 3, 2, 0]) (lds' := []) rfl (by kernel_rfl) (by kernel_rfl) ?_
      refine wl_call rfl (c_rfollow (s := L[i].1) st.im hhx ⟨_, rfl, hsk, hrk⟩) rfl ?_
      rintro v46 w ⟨t46, m3, hg3, hi3, rfl⟩
      have st := st.grown hg3 t46 hi3
      have hl := hl.mono hg3.le
      refine wl_nil ⟨rfl, ?_⟩
      refine fl_val 7 rfl (fun _ => (v_move' (by conv => (lhs; whnf)))) rfl (by kernel_rfl) ?_
      refine fl_val 8 rfl (fun _ => (v_extract rfl rfl)) rfl (by kernel_rfl) ?_
      refine fl_val 9 rfl (fun _ => (v_extract rfl rfl)) rfl (by kernel_rfl) ?_
      refine fl_eff1 10 [9, 8, 7, 4, 3, 2, 0] [] (by kernel_rfl) trivial rfl ?_
      refine wl_alloc TF.z26 st rfl ?_
      intro b10 w st
      refine wl_nil ⟨rfl, ?_⟩
      refine fl_eff1 11 [9] [] (by kernel_rfl) trivial rfl ?_
      refine wl_storeW (cs := (hdC (followH x.head L[i].1)).toArray) 0 st rfl TF.t26 rfl rfl (by rw [List.size_toArray, length_hdC (followH_ok hrk)]) rfl (fun u hu => one_hdC u (by simpa using hu)) ?_
      intro w st
      refine wl_nil ⟨rfl, ?_⟩
      refine fl_eff1 12 [] [] (by kernel_rfl) trivial rfl ?_
      refine wl_val (v_assign' (by conv => (lhs; whnf))) rfl ?_
      refine wl_nil ⟨rfl, ?_⟩
      refine fl_nil (by kernel_rfl) trivial ?_
      refine then_go ?_
      refine wc_seq ?_
      refine wc_seq ?_
      refine wc_region ?_
      refine wl_val (v_move' (by conv => (lhs; whnf))) rfl ?_
      refine wl_val (v_neq rfl rfl) rfl ?_
      refine wl_nil ?_
      refine then_go ?_
      refine wc_if rfl (fun h67 => ?_) (fun h67 => ?_)
      ·refine wc_seq ?_
       refine wc_region ?_
       refine wl_val (v_build (c' := (vwC z32 hd0 (.slice none 0 0)).toArray) [] TF.z29 TF.p29 rfl rfl) rfl ?_
       refine wl_val (v_move' (by conv => (lhs; whnf))) rfl ?_
       refine wl_storeW (cs := (vwC z32 hd0 (.slice none 0 0)).toArray) 3 st rfl TF.t29 rfl rfl rfl rfl (fun u hu => one_vwC rfl u (by simpa using hu)) ?_
       intro w st
       refine wl_val (v_assign' (by conv => (lhs; whnf))) rfl ?_
       refine wl_nil ?_
       refine then_go ?_
       refine wc_ret (then_ret (block_ret (then_ret (then_ret (block_ret (then_ret ?_))))))
       rw [hse, if_neg h67] at hRx
       exact ret2c rfl (st.reads 3 rfl TF.t29 (getV_all rfl)) rfl ((st.keepOnly (l := []) (List.nil_sublist _)).out ⟨_, by rw [hRx]; rfl, by rw [hRx]; exact vw0_M⟩)
      ·refine wc_skip ?_
       refine then_go ?_
       refine wc_seq ?_
       refine wc_region ?_
       refine wl_val (v_load rfl (st.reads (v := hdV (followH x.head L[i].1)) 0 rfl TF.t26 (getV_all (by rw [List.size_toArray, length_hdC (followH_ok hrk)])))) rfl ?_
       refine wl_val (v_fa TF.f29_1 rfl) rfl ?_
       refine wl_store (v := hdV (followH x.head L[i].1)) 1 st rfl TF.t26 rfl rfl (by simp [hdV, Value.cells, length_hdC (followH_ok hrk)]) (fun u hu => one_hdC u (by simpa [hdV, Value.cells] using hu)) (by rw [List.size_toArray, length_vwC hpx hhx]; decide) ?_
       intro w st
       rw [show (hdV (followH x.head L[i].1)).cells.toList = hdC (followH x.head L[i].1) by simp [hdV, Value.cells], show 0 + 32 = 32 from rfl, set_vwH hpx hhx (followH_ok hrk)] at st
       refine wl_nil ?_
       refine then_go ?_
       refine wc_draw TF.mixed ?_
       have st := st.pure (touch_drew _)
       refine fl_val 0 rfl (fun _ => (v_fa TF.f29_2 rfl)) rfl (by kernel_rfl) ?_
       refine fl_ld 1 rfl (v_load rfl (by first | exact st.reads (v := rv) (b := b7) (c := (vwC x.pin (followH x.head L[i].1) rv).toArray) 1 rfl TF.t27 (vw_r hpx (followH_ok hrk)) | exact st.reads (v := rv) (b := b7) (c := (vwC x.pin (followH x.head L[i].1) rv).toArray) 2 rfl TF.t27 (vw_r hpx (followH_ok hrk)) | exact st.reads (b := b7) (c := (vwC x.pin (followH x.head L[i].1) (.slice ra x.roots.length rc)).toArray) 1 rfl TF.t27 (vw_r hpx (followH_ok hrk)) | exact st.reads (b := b7) (c := (vwC x.pin (followH x.head L[i].1) (.slice ra x.roots.length rc)).toArray) 2 rfl TF.t27 (vw_r hpx (followH_ok hrk)))) (by kernel_rfl) ?_
       refine fl_val 2 rfl (fun _ => (v_move' (by conv => (lhs; whnf)))) rfl (by kernel_rfl) ?_
       refine fl_val 3 rfl (fun _ => (v_move' (by conv => (lhs; whnf)))) rfl (by kernel_rfl) ?_
       refine fl_val 4 rfl (fun _ => (v_ias i Try.underlying30 TF.t71 rfl rfl (by first | rfl | omega) (by first | omega | (dsimp only at *; omega)))) rfl (by kernel_rfl) ?_
       refine fl_val 5 rfl (fun _ => (v_fa TF.f71_0 rfl)) rfl (by kernel_rfl) ?_
       refine fl_ld 6 rfl (v_load rfl (hl.1.rd rfl hi (by decide) TF.t55 (v' := rtV L[i].1.root) (sg_rt hrk) st.im)) (by kernel_rfl) ?_
       refine fl_eff1 7 [5, 4, 3, 2, 0] [1] (by kernel_rfl) ⟨obl_ld rfl rfl rfl (v_load rfl (hl.1.rd rfl hi (by decide) TF.t55 (v' := rtV L[i].1.root) (sg_rt hrk) st.im)), obl_ld rfl rfl rfl (v_load rfl (by first | exact st.reads (v := rv) (b := b7) (c := (vwC x.pin (followH x.head L[i].1) rv).toArray) 1 rfl TF.t27 (vw_r hpx (followH_ok hrk)) | exact st.reads (v := rv) (b := b7) (c := (vwC x.pin (followH x.head L[i].1) rv).toArray) 2 rfl TF.t27 (vw_r hpx (followH_ok hrk)) | exact st.reads (b := b7) (c := (vwC x.pin (followH x.head L[i].1) (.slice ra x.roots.length rc)).toArray) 1 rfl TF.t27 (vw_r hpx (followH_ok hrk)) | exact st.reads (b := b7) (c := (vwC x.pin (followH x.head L[i].1) (.slice ra x.roots.length rc)).toArray) 2 rfl TF.t27 (vw_r hpx (followH_ok hrk)))), trivial⟩ rfl ?_
       refine wl_lsOne (rtC L[i].1.root) Try.underlying27 TF.t55 TF.z55 (by decide) (by decide) (length_rtC hrk) rfl st rfl ?_
       intro b58 w st
       refine wl_nil ⟨rfl, ?_⟩
       refine fl_eff1 8 [5, 4, 3, 2, 0] [] (by kernel_rfl) ⟨obl_ld rfl rfl rfl (v_load rfl (by first | exact st.reads (v := rv) (b := b7) (c := (vwC x.pin (followH x.head L[i].1) rv).toArray) 1 rfl TF.t27 (vw_r hpx (followH_ok hrk)) | exact st.reads (v := rv) (b := b7) (c := (vwC x.pin (followH x.head L[i].1) rv).toArray) 2 rfl TF.t27 (vw_r hpx (followH_ok hrk)) | exact st.reads (b := b7) (c := (vwC x.pin (followH x.head L[i].1) (.slice ra x.roots.length rc)).toArray) 1 rfl TF.t27 (vw_r hpx (followH_ok hrk)) | exact st.reads (b := b7) (c := (vwC x.pin (followH x.head L[i].1) (.slice ra x.roots.length rc)).toArray) 2 rfl TF.t27 (vw_r hpx (followH_ok hrk)))), trivial⟩ rfl ?_
       refine wl_lsApp 2 (c := rtC) (e := L[i].1.root) st rfl Try.underlying27 TF.t55 TF.z55 rfl (length_rtC hrk) one_rtC rfl rfl (by omega) (by omega) rfl ?_
       intro rv2 w st hrv2
       refine wl_nil ⟨rfl, ?_⟩
       refine fl_val 9 rfl (fun _ => (v_fa TF.f29_2 rfl)) rfl (by kernel_rfl) ?_
       refine fl_eff1 10 [] [] (by kernel_rfl) trivial rfl ?_
       refine wl_store1 1 st rfl TF.t27 rfl (by conv => (lhs; whnf)) hrv2 (by rw [List.size_toArray, length_vwC hpx (followH_ok hrk)]; decide) ?_
       intro w st
       rw [show 0 + 97 = 97 from rfl, set_vwR hpx (followH_ok hrk)] at st
       refine wl_nil ⟨rfl, ?_⟩
       refine fl_nil (by kernel_rfl) trivial ?_
       refine block_go (then_go ?_)
       refine wc_region ?_
       refine wl_val (v_move' (by conv => (lhs; whnf))) rfl ?_
       refine wl_val (v_add' rfl rfl rfl (by first | omega | (dsimp only at *; omega)) (by first | omega | (dsimp only at *; omega))) rfl ?_
       refine wl_val (v_assign' (by conv => (lhs; whnf))) rfl ?_
       refine wl_nil ?_
       refine then_go ?_
       rw [hse, if_pos (Decidable.not_not.1 h67)] at hRx
       have hsv : lrnV x L[i].1 = ⟨x.pin, followH x.head L[i].1, x.roots ++ [L[i].1.root]⟩ := by rw [lrnV, if_neg hcond]
       refine ⟨q - 1, by simp; omega, i + 1, lrnV x L[i].1, rv2, _, by omega, rfl, rfl, rfl, rfl, hRx, by rw [ko3]; exact hpx, ko1, ko2, by omega, hl, ?_⟩
       rw [hsv]
       exact st.drop 0
     ·refine stepE 10 (pure' := [4, 3, 2, 0]) (lds' := [5, 1]) rfl (by kernel_rfl) (by kernel_rfl) ?_
      refine wl_alloc TF.z26 st rfl ?_
      intro b10 w st
      refine wl_nil ⟨rfl, ?_⟩
      refine fl_eff1 6 [4, 3, 2, 0] [] (by kernel_rfl) ⟨obl_ld rfl rfl rfl (v_load rfl (hl.1.rd0 rfl hi (by decide) TF.t71 (v' := .agg (sgC L[i].1.root L[i].2).toArray) (getV_all (by rw [List.size_toArray]; exact h98)) st.im)), obl_ld rfl rfl rfl (v_load rfl (by first | exact st.reads (v := hdV x.head) 0 rfl TF.t26 (vw_h hpx hhx) | exact st.reads (v := hdV x.head) 1 rfl TF.t26 (vw_h hpx hhx))), trivial⟩ rfl ?_
      refine wl_call rfl (c_rfollow (s := L[i].1) st.im hhx ⟨_, rfl, hsk, hrk⟩) rfl ?_
      rintro v46 w ⟨t46, m3, hg3, hi3, rfl⟩
      have st := st.grown hg3 t46 hi3
      have hl := hl.mono hg3.le
      refine wl_nil ⟨rfl, ?_⟩
      refine fl_val 7 rfl (fun _ => (v_move' (by conv => (lhs; whnf)))) rfl (by kernel_rfl) ?_
      refine fl_val 8 rfl (fun _ => (v_extract rfl rfl)) rfl (by kernel_rfl) ?_
      refine fl_val 9 rfl (fun _ => (v_extract rfl rfl)) rfl (by kernel_rfl) ?_
      refine fl_eff1 11 [9] [] (by kernel_rfl) trivial rfl ?_
      refine wl_storeW (cs := (hdC (followH x.head L[i].1)).toArray) 0 st rfl TF.t26 rfl rfl (by rw [List.size_toArray, length_hdC (followH_ok hrk)]) rfl (fun u hu => one_hdC u (by simpa using hu)) ?_
      intro w st
      refine wl_nil ⟨rfl, ?_⟩
      refine fl_eff1 12 [] [] (by kernel_rfl) trivial rfl ?_
      refine wl_val (v_assign' (by conv => (lhs; whnf))) rfl ?_
      refine wl_nil ⟨rfl, ?_⟩
      refine fl_nil (by kernel_rfl) trivial ?_
      refine then_go ?_
      refine wc_seq ?_
      refine wc_seq ?_
      refine wc_region ?_
      refine wl_val (v_move' (by conv => (lhs; whnf))) rfl ?_
      refine wl_val (v_neq rfl rfl) rfl ?_
      refine wl_nil ?_
      refine then_go ?_
      refine wc_if rfl (fun h67 => ?_) (fun h67 => ?_)
      ·refine wc_seq ?_
       refine wc_region ?_
       refine wl_val (v_build (c' := (vwC z32 hd0 (.slice none 0 0)).toArray) [] TF.z29 TF.p29 rfl rfl) rfl ?_
       refine wl_val (v_move' (by conv => (lhs; whnf))) rfl ?_
       refine wl_storeW (cs := (vwC z32 hd0 (.slice none 0 0)).toArray) 3 st rfl TF.t29 rfl rfl rfl rfl (fun u hu => one_vwC rfl u (by simpa using hu)) ?_
       intro w st
       refine wl_val (v_assign' (by conv => (lhs; whnf))) rfl ?_
       refine wl_nil ?_
       refine then_go ?_
       refine wc_ret (then_ret (block_ret (then_ret (then_ret (block_ret (then_ret ?_))))))
       rw [hse, if_neg h67] at hRx
       exact ret2c rfl (st.reads 3 rfl TF.t29 (getV_all rfl)) rfl ((st.keepOnly (l := []) (List.nil_sublist _)).out ⟨_, by rw [hRx]; rfl, by rw [hRx]; exact vw0_M⟩)
      ·refine wc_skip ?_
       refine then_go ?_
       refine wc_seq ?_
       refine wc_region ?_
       refine wl_val (v_load rfl (st.reads (v := hdV (followH x.head L[i].1)) 0 rfl TF.t26 (getV_all (by rw [List.size_toArray, length_hdC (followH_ok hrk)])))) rfl ?_
       refine wl_val (v_fa TF.f29_1 rfl) rfl ?_
       refine wl_store (v := hdV (followH x.head L[i].1)) 1 st rfl TF.t26 rfl rfl (by simp [hdV, Value.cells, length_hdC (followH_ok hrk)]) (fun u hu => one_hdC u (by simpa [hdV, Value.cells] using hu)) (by rw [List.size_toArray, length_vwC hpx hhx]; decide) ?_
       intro w st
       rw [show (hdV (followH x.head L[i].1)).cells.toList = hdC (followH x.head L[i].1) by simp [hdV, Value.cells], show 0 + 32 = 32 from rfl, set_vwH hpx hhx (followH_ok hrk)] at st
       refine wl_nil ?_
       refine then_go ?_
       refine wc_draw TF.mixed ?_
       have st := st.pure (touch_drew _)
       refine fl_val 0 rfl (fun _ => (v_fa TF.f29_2 rfl)) rfl (by kernel_rfl) ?_
       refine fl_ld 1 rfl (v_load rfl (by first | exact st.reads (v := rv) (b := b7) (c := (vwC x.pin (followH x.head L[i].1) rv).toArray) 1 rfl TF.t27 (vw_r hpx (followH_ok hrk)) | exact st.reads (v := rv) (b := b7) (c := (vwC x.pin (followH x.head L[i].1) rv).toArray) 2 rfl TF.t27 (vw_r hpx (followH_ok hrk)) | exact st.reads (b := b7) (c := (vwC x.pin (followH x.head L[i].1) (.slice ra x.roots.length rc)).toArray) 1 rfl TF.t27 (vw_r hpx (followH_ok hrk)) | exact st.reads (b := b7) (c := (vwC x.pin (followH x.head L[i].1) (.slice ra x.roots.length rc)).toArray) 2 rfl TF.t27 (vw_r hpx (followH_ok hrk)))) (by kernel_rfl) ?_
       refine fl_val 2 rfl (fun _ => (v_move' (by conv => (lhs; whnf)))) rfl (by kernel_rfl) ?_
       refine fl_val 3 rfl (fun _ => (v_move' (by conv => (lhs; whnf)))) rfl (by kernel_rfl) ?_
       refine fl_val 4 rfl (fun _ => (v_ias i Try.underlying30 TF.t71 rfl rfl (by first | rfl | omega) (by first | omega | (dsimp only at *; omega)))) rfl (by kernel_rfl) ?_
       refine fl_val 5 rfl (fun _ => (v_fa TF.f71_0 rfl)) rfl (by kernel_rfl) ?_
       refine fl_ld 6 rfl (v_load rfl (hl.1.rd rfl hi (by decide) TF.t55 (v' := rtV L[i].1.root) (sg_rt hrk) st.im)) (by kernel_rfl) ?_
       refine fl_eff1 7 [5, 4, 3, 2, 0] [1] (by kernel_rfl) ⟨obl_ld rfl rfl rfl (v_load rfl (hl.1.rd rfl hi (by decide) TF.t55 (v' := rtV L[i].1.root) (sg_rt hrk) st.im)), obl_ld rfl rfl rfl (v_load rfl (by first | exact st.reads (v := rv) (b := b7) (c := (vwC x.pin (followH x.head L[i].1) rv).toArray) 1 rfl TF.t27 (vw_r hpx (followH_ok hrk)) | exact st.reads (v := rv) (b := b7) (c := (vwC x.pin (followH x.head L[i].1) rv).toArray) 2 rfl TF.t27 (vw_r hpx (followH_ok hrk)) | exact st.reads (b := b7) (c := (vwC x.pin (followH x.head L[i].1) (.slice ra x.roots.length rc)).toArray) 1 rfl TF.t27 (vw_r hpx (followH_ok hrk)) | exact st.reads (b := b7) (c := (vwC x.pin (followH x.head L[i].1) (.slice ra x.roots.length rc)).toArray) 2 rfl TF.t27 (vw_r hpx (followH_ok hrk)))), trivial⟩ rfl ?_
       refine wl_lsOne (rtC L[i].1.root) Try.underlying27 TF.t55 TF.z55 (by decide) (by decide) (length_rtC hrk) rfl st rfl ?_
       intro b58 w st
       refine wl_nil ⟨rfl, ?_⟩
       refine fl_eff1 8 [5, 4, 3, 2, 0] [] (by kernel_rfl) ⟨obl_ld rfl rfl rfl (v_load rfl (by first | exact st.reads (v := rv) (b := b7) (c := (vwC x.pin (followH x.head L[i].1) rv).toArray) 1 rfl TF.t27 (vw_r hpx (followH_ok hrk)) | exact st.reads (v := rv) (b := b7) (c := (vwC x.pin (followH x.head L[i].1) rv).toArray) 2 rfl TF.t27 (vw_r hpx (followH_ok hrk)) | exact st.reads (b := b7) (c := (vwC x.pin (followH x.head L[i].1) (.slice ra x.roots.length rc)).toArray) 1 rfl TF.t27 (vw_r hpx (followH_ok hrk)) | exact st.reads (b := b7) (c := (vwC x.pin (followH x.head L[i].1) (.slice ra x.roots.length rc)).toArray) 2 rfl TF.t27 (vw_r hpx (followH_ok hrk)))), trivial⟩ rfl ?_
       refine wl_lsApp 2 (c := rtC) (e := L[i].1.root) st rfl Try.underlying27 TF.t55 TF.z55 rfl (length_rtC hrk) one_rtC rfl rfl (by omega) (by omega) rfl ?_
       intro rv2 w st hrv2
       refine wl_nil ⟨rfl, ?_⟩
       refine fl_val 9 rfl (fun _ => (v_fa TF.f29_2 rfl)) rfl (by kernel_rfl) ?_
       refine fl_eff1 10 [] [] (by kernel_rfl) trivial rfl ?_
       refine wl_store1 1 st rfl TF.t27 rfl (by conv => (lhs; whnf)) hrv2 (by rw [List.size_toArray, length_vwC hpx (followH_ok hrk)]; decide) ?_
       intro w st
       rw [show 0 + 97 = 97 from rfl, set_vwR hpx (followH_ok hrk)] at st
       refine wl_nil ⟨rfl, ?_⟩
       refine fl_nil (by kernel_rfl) trivial ?_
       refine block_go (then_go ?_)
       refine wc_region ?_
       refine wl_val (v_move' (by conv => (lhs; whnf))) rfl ?_
       refine wl_val (v_add' rfl rfl rfl (by first | omega | (dsimp only at *; omega)) (by first | omega | (dsimp only at *; omega))) rfl ?_
       refine wl_val (v_assign' (by conv => (lhs; whnf))) rfl ?_
       refine wl_nil ?_
       refine then_go ?_
       rw [hse, if_pos (Decidable.not_not.1 h67)] at hRx
       have hsv : lrnV x L[i].1 = ⟨x.pin, followH x.head L[i].1, x.roots ++ [L[i].1.root]⟩ := by rw [lrnV, if_neg hcond]
       refine ⟨q - 1, by simp; omega, i + 1, lrnV x L[i].1, rv2, _, by omega, rfl, rfl, rfl, rfl, hRx, by rw [ko3]; exact hpx, ko1, ko2, by omega, hl, ?_⟩
       rw [hsv]
       exact st.drop 0
   ·rw [show decide ((1 : Int) ≤ (L[i].1.root.epoch.toNat : Int)) = false from decide_eq_false hg2]
    refine wl_off rfl rfl rfl rfl ?_
    refine wl_off rfl rfl rfl rfl ?_
    refine wl_off rfl rfl rfl rfl ?_
    refine wl_off rfl rfl rfl rfl ?_
    refine wl_off rfl rfl rfl rfl ?_
    refine wl_off rfl rfl rfl rfl ?_
    refine wl_val (v_pick rfl) rfl ?_
    refine wl_nil ?_
    refine then_go ?_
    refine wc_false rfl ?_
    refine wc_skip ?_
    refine then_go ?_
    refine wc_seq ?_
    have hcond : ¬ (1 ≤ L[i].1.root.epoch.toNat ∧ L[i].1.root.epoch.toNat ≤ x.roots.length) := by omega
    have hse : lrnE x L[i].1 = followE x.head L[i].1 := by rw [lrnE, if_neg hcond]
    refine wc_draw TF.mixed ?_
    have st := st.pure (touch_drew _)
    refine fl_val 0 rfl (fun _ => (v_fa TF.f29_1 rfl)) rfl (by kernel_rfl) ?_
    refine fl_ld 1 rfl (v_load rfl (by first | exact st.reads (v := hdV x.head) 0 rfl TF.t26 (vw_h hpx hhx) | exact st.reads (v := hdV x.head) 1 rfl TF.t26 (vw_h hpx hhx))) (by kernel_rfl) ?_
    refine fl_val 2 rfl (fun _ => (v_move' (by conv => (lhs; whnf)))) rfl (by kernel_rfl) ?_
    refine fl_val 3 rfl (fun _ => (v_move' (by conv => (lhs; whnf)))) rfl (by kernel_rfl) ?_
    refine fl_val 4 rfl (fun _ => (v_ias i Try.underlying30 TF.t71 rfl rfl (by first | rfl | omega) (by first | omega | (dsimp only at *; omega)))) rfl (by kernel_rfl) ?_
    refine fl_ld 5 rfl (v_load rfl (hl.1.rd0 rfl hi (by decide) TF.t71 (v' := .agg (sgC L[i].1.root L[i].2).toArray) (getV_all (by rw [List.size_toArray]; exact h98)) st.im)) (by kernel_rfl) ?_
    refine fl_effs [6, 10] (by kernel_rfl) ⟨obl_ld rfl rfl rfl (v_load rfl (hl.1.rd0 rfl hi (by decide) TF.t71 (v' := .agg (sgC L[i].1.root L[i].2).toArray) (getV_all (by rw [List.size_toArray]; exact h98)) st.im)), obl_ld rfl rfl rfl (v_load rfl (by first | exact st.reads (v := hdV x.head) 0 rfl TF.t26 (vw_h hpx hhx) | exact st.reads (v := hdV x.head) 1 rfl TF.t26 (vw_h hpx hhx))), trivial⟩ (all2 ?_ ?_)
    ·refine stepE 6 (pure' := [4, 3, 2, 0]) (lds' := []) rfl (by kernel_rfl) (by kernel_rfl) ?_
     refine wl_call rfl (c_rfollow (s := L[i].1) st.im hhx ⟨_, rfl, hsk, hrk⟩) rfl ?_
     rintro v46 w ⟨t46, m3, hg3, hi3, rfl⟩
     have st := st.grown hg3 t46 hi3
     have hl := hl.mono hg3.le
     refine wl_nil ⟨rfl, ?_⟩
     refine fl_val 7 rfl (fun _ => (v_move' (by conv => (lhs; whnf)))) rfl (by kernel_rfl) ?_
     refine fl_val 8 rfl (fun _ => (v_extract rfl rfl)) rfl (by kernel_rfl) ?_
     refine fl_val 9 rfl (fun _ => (v_extract rfl rfl)) rfl (by kernel_rfl) ?_
     refine fl_eff1 10 [9, 8, 7, 4, 3, 2, 0] [] (by kernel_rfl) trivial rfl ?_
     refine wl_alloc TF.z26 st rfl ?_
     intro b10 w st
     refine wl_nil ⟨rfl, ?_⟩
     refine fl_eff1 11 [9] [] (by kernel_rfl) trivial rfl ?_
     refine wl_storeW (cs := (hdC (followH x.head L[i].1)).toArray) 0 st rfl TF.t26 rfl rfl (by rw [List.size_toArray, length_hdC (followH_ok hrk)]) rfl (fun u hu => one_hdC u (by simpa using hu)) ?_
     intro w st
     refine wl_nil ⟨rfl, ?_⟩
     refine fl_eff1 12 [] [] (by kernel_rfl) trivial rfl ?_
     refine wl_val (v_assign' (by conv => (lhs; whnf))) rfl ?_
     refine wl_nil ⟨rfl, ?_⟩
     refine fl_nil (by kernel_rfl) trivial ?_
     refine then_go ?_
     refine wc_seq ?_
     refine wc_seq ?_
     refine wc_region ?_
     refine wl_val (v_move' (by conv => (lhs; whnf))) rfl ?_
     refine wl_val (v_neq rfl rfl) rfl ?_
     refine wl_nil ?_
     refine then_go ?_
     refine wc_if rfl (fun h67 => ?_) (fun h67 => ?_)
     ·refine wc_seq ?_
      refine wc_region ?_
      refine wl_val (v_build (c' := (vwC z32 hd0 (.slice none 0 0)).toArray) [] TF.z29 TF.p29 rfl rfl) rfl ?_
      refine wl_val (v_move' (by conv => (lhs; whnf))) rfl ?_
      refine wl_storeW (cs := (vwC z32 hd0 (.slice none 0 0)).toArray) 3 st rfl TF.t29 rfl rfl rfl rfl (fun u hu => one_vwC rfl u (by simpa using hu)) ?_
      intro w st
      refine wl_val (v_assign' (by conv => (lhs; whnf))) rfl ?_
      refine wl_nil ?_
      refine then_go ?_
      refine wc_ret (then_ret (block_ret (then_ret (then_ret (block_ret (then_ret ?_))))))
      rw [hse, if_neg h67] at hRx
      exact ret2c rfl (st.reads 3 rfl TF.t29 (getV_all rfl)) rfl ((st.keepOnly (l := []) (List.nil_sublist _)).out ⟨_, by rw [hRx]; rfl, by rw [hRx]; exact vw0_M⟩)
     ·refine wc_skip ?_
      refine then_go ?_
      refine wc_seq ?_
      refine wc_region ?_
      refine wl_val (v_load rfl (st.reads (v := hdV (followH x.head L[i].1)) 0 rfl TF.t26 (getV_all (by rw [List.size_toArray, length_hdC (followH_ok hrk)])))) rfl ?_
      refine wl_val (v_fa TF.f29_1 rfl) rfl ?_
      refine wl_store (v := hdV (followH x.head L[i].1)) 1 st rfl TF.t26 rfl rfl (by simp [hdV, Value.cells, length_hdC (followH_ok hrk)]) (fun u hu => one_hdC u (by simpa [hdV, Value.cells] using hu)) (by rw [List.size_toArray, length_vwC hpx hhx]; decide) ?_
      intro w st
      rw [show (hdV (followH x.head L[i].1)).cells.toList = hdC (followH x.head L[i].1) by simp [hdV, Value.cells], show 0 + 32 = 32 from rfl, set_vwH hpx hhx (followH_ok hrk)] at st
      refine wl_nil ?_
      refine then_go ?_
      refine wc_draw TF.mixed ?_
      have st := st.pure (touch_drew _)
      refine fl_val 0 rfl (fun _ => (v_fa TF.f29_2 rfl)) rfl (by kernel_rfl) ?_
      refine fl_ld 1 rfl (v_load rfl (by first | exact st.reads (v := rv) (b := b7) (c := (vwC x.pin (followH x.head L[i].1) rv).toArray) 1 rfl TF.t27 (vw_r hpx (followH_ok hrk)) | exact st.reads (v := rv) (b := b7) (c := (vwC x.pin (followH x.head L[i].1) rv).toArray) 2 rfl TF.t27 (vw_r hpx (followH_ok hrk)) | exact st.reads (b := b7) (c := (vwC x.pin (followH x.head L[i].1) (.slice ra x.roots.length rc)).toArray) 1 rfl TF.t27 (vw_r hpx (followH_ok hrk)) | exact st.reads (b := b7) (c := (vwC x.pin (followH x.head L[i].1) (.slice ra x.roots.length rc)).toArray) 2 rfl TF.t27 (vw_r hpx (followH_ok hrk)))) (by kernel_rfl) ?_
      refine fl_val 2 rfl (fun _ => (v_move' (by conv => (lhs; whnf)))) rfl (by kernel_rfl) ?_
      refine fl_val 3 rfl (fun _ => (v_move' (by conv => (lhs; whnf)))) rfl (by kernel_rfl) ?_
      refine fl_val 4 rfl (fun _ => (v_ias i Try.underlying30 TF.t71 rfl rfl (by first | rfl | omega) (by first | omega | (dsimp only at *; omega)))) rfl (by kernel_rfl) ?_
      refine fl_val 5 rfl (fun _ => (v_fa TF.f71_0 rfl)) rfl (by kernel_rfl) ?_
      refine fl_ld 6 rfl (v_load rfl (hl.1.rd rfl hi (by decide) TF.t55 (v' := rtV L[i].1.root) (sg_rt hrk) st.im)) (by kernel_rfl) ?_
      refine fl_eff1 7 [5, 4, 3, 2, 0] [1] (by kernel_rfl) ⟨obl_ld rfl rfl rfl (v_load rfl (hl.1.rd rfl hi (by decide) TF.t55 (v' := rtV L[i].1.root) (sg_rt hrk) st.im)), obl_ld rfl rfl rfl (v_load rfl (by first | exact st.reads (v := rv) (b := b7) (c := (vwC x.pin (followH x.head L[i].1) rv).toArray) 1 rfl TF.t27 (vw_r hpx (followH_ok hrk)) | exact st.reads (v := rv) (b := b7) (c := (vwC x.pin (followH x.head L[i].1) rv).toArray) 2 rfl TF.t27 (vw_r hpx (followH_ok hrk)) | exact st.reads (b := b7) (c := (vwC x.pin (followH x.head L[i].1) (.slice ra x.roots.length rc)).toArray) 1 rfl TF.t27 (vw_r hpx (followH_ok hrk)) | exact st.reads (b := b7) (c := (vwC x.pin (followH x.head L[i].1) (.slice ra x.roots.length rc)).toArray) 2 rfl TF.t27 (vw_r hpx (followH_ok hrk)))), trivial⟩ rfl ?_
      refine wl_lsOne (rtC L[i].1.root) Try.underlying27 TF.t55 TF.z55 (by decide) (by decide) (length_rtC hrk) rfl st rfl ?_
      intro b58 w st
      refine wl_nil ⟨rfl, ?_⟩
      refine fl_eff1 8 [5, 4, 3, 2, 0] [] (by kernel_rfl) ⟨obl_ld rfl rfl rfl (v_load rfl (by first | exact st.reads (v := rv) (b := b7) (c := (vwC x.pin (followH x.head L[i].1) rv).toArray) 1 rfl TF.t27 (vw_r hpx (followH_ok hrk)) | exact st.reads (v := rv) (b := b7) (c := (vwC x.pin (followH x.head L[i].1) rv).toArray) 2 rfl TF.t27 (vw_r hpx (followH_ok hrk)) | exact st.reads (b := b7) (c := (vwC x.pin (followH x.head L[i].1) (.slice ra x.roots.length rc)).toArray) 1 rfl TF.t27 (vw_r hpx (followH_ok hrk)) | exact st.reads (b := b7) (c := (vwC x.pin (followH x.head L[i].1) (.slice ra x.roots.length rc)).toArray) 2 rfl TF.t27 (vw_r hpx (followH_ok hrk)))), trivial⟩ rfl ?_
      refine wl_lsApp 2 (c := rtC) (e := L[i].1.root) st rfl Try.underlying27 TF.t55 TF.z55 rfl (length_rtC hrk) one_rtC rfl rfl (by omega) (by omega) rfl ?_
      intro rv2 w st hrv2
      refine wl_nil ⟨rfl, ?_⟩
      refine fl_val 9 rfl (fun _ => (v_fa TF.f29_2 rfl)) rfl (by kernel_rfl) ?_
      refine fl_eff1 10 [] [] (by kernel_rfl) trivial rfl ?_
      refine wl_store1 1 st rfl TF.t27 rfl (by conv => (lhs; whnf)) hrv2 (by rw [List.size_toArray, length_vwC hpx (followH_ok hrk)]; decide) ?_
      intro w st
      rw [show 0 + 97 = 97 from rfl, set_vwR hpx (followH_ok hrk)] at st
      refine wl_nil ⟨rfl, ?_⟩
      refine fl_nil (by kernel_rfl) trivial ?_
      refine block_go (then_go ?_)
      refine wc_region ?_
      refine wl_val (v_move' (by conv => (lhs; whnf))) rfl ?_
      refine wl_val (v_add' rfl rfl rfl (by first | omega | (dsimp only at *; omega)) (by first | omega | (dsimp only at *; omega))) rfl ?_
      refine wl_val (v_assign' (by conv => (lhs; whnf))) rfl ?_
      refine wl_nil ?_
      refine then_go ?_
      rw [hse, if_pos (Decidable.not_not.1 h67)] at hRx
      have hsv : lrnV x L[i].1 = ⟨x.pin, followH x.head L[i].1, x.roots ++ [L[i].1.root]⟩ := by rw [lrnV, if_neg hcond]
      refine ⟨q - 1, by simp; omega, i + 1, lrnV x L[i].1, rv2, _, by omega, rfl, rfl, rfl, rfl, hRx, by rw [ko3]; exact hpx, ko1, ko2, by omega, hl, ?_⟩
      rw [hsv]
      exact st.drop 0
    ·refine stepE 10 (pure' := [4, 3, 2, 0]) (lds' := [5, 1]) rfl (by kernel_rfl) (by kernel_rfl) ?_
     refine wl_alloc TF.z26 st rfl ?_
     intro b10 w st
     refine wl_nil ⟨rfl, ?_⟩
     refine fl_eff1 6 [4, 3, 2, 0] [] (by kernel_rfl) ⟨obl_ld rfl rfl rfl (v_load rfl (hl.1.rd0 rfl hi (by decide) TF.t71 (v' := .agg (sgC L[i].1.root L[i].2).toArray) (getV_all (by rw [List.size_toArray]; exact h98)) st.im)), obl_ld rfl rfl rfl (v_load rfl (by first | exact st.reads (v := hdV x.head) 0 rfl TF.t26 (vw_h hpx hhx) | exact st.reads (v := hdV x.head) 1 rfl TF.t26 (vw_h hpx hhx))), trivial⟩ rfl ?_
     refine wl_call rfl (c_rfollow (s := L[i].1) st.im hhx ⟨_, rfl, hsk, hrk⟩) rfl ?_
     rintro v46 w ⟨t46, m3, hg3, hi3, rfl⟩
     have st := st.grown hg3 t46 hi3
     have hl := hl.mono hg3.le
     refine wl_nil ⟨rfl, ?_⟩
     refine fl_val 7 rfl (fun _ => (v_move' (by conv => (lhs; whnf)))) rfl (by kernel_rfl) ?_
     refine fl_val 8 rfl (fun _ => (v_extract rfl rfl)) rfl (by kernel_rfl) ?_
     refine fl_val 9 rfl (fun _ => (v_extract rfl rfl)) rfl (by kernel_rfl) ?_
     refine fl_eff1 11 [9] [] (by kernel_rfl) trivial rfl ?_
     refine wl_storeW (cs := (hdC (followH x.head L[i].1)).toArray) 0 st rfl TF.t26 rfl rfl (by rw [List.size_toArray, length_hdC (followH_ok hrk)]) rfl (fun u hu => one_hdC u (by simpa using hu)) ?_
     intro w st
     refine wl_nil ⟨rfl, ?_⟩
     refine fl_eff1 12 [] [] (by kernel_rfl) trivial rfl ?_
     refine wl_val (v_assign' (by conv => (lhs; whnf))) rfl ?_
     refine wl_nil ⟨rfl, ?_⟩
     refine fl_nil (by kernel_rfl) trivial ?_
     refine then_go ?_
     refine wc_seq ?_
     refine wc_seq ?_
     refine wc_region ?_
     refine wl_val (v_move' (by conv => (lhs; whnf))) rfl ?_
     refine wl_val (v_neq rfl rfl) rfl ?_
     refine wl_nil ?_
     refine then_go ?_
     refine wc_if rfl (fun h67 => ?_) (fun h67 => ?_)
     ·refine wc_seq ?_
      refine wc_region ?_
      refine wl_val (v_build (c' := (vwC z32 hd0 (.slice none 0 0)).toArray) [] TF.z29 TF.p29 rfl rfl) rfl ?_
      refine wl_val (v_move' (by conv => (lhs; whnf))) rfl ?_
      refine wl_storeW (cs := (vwC z32 hd0 (.slice none 0 0)).toArray) 3 st rfl TF.t29 rfl rfl rfl rfl (fun u hu => one_vwC rfl u (by simpa using hu)) ?_
      intro w st
      refine wl_val (v_assign' (by conv => (lhs; whnf))) rfl ?_
      refine wl_nil ?_
      refine then_go ?_
      refine wc_ret (then_ret (block_ret (then_ret (then_ret (block_ret (then_ret ?_))))))
      rw [hse, if_neg h67] at hRx
      exact ret2c rfl (st.reads 3 rfl TF.t29 (getV_all rfl)) rfl ((st.keepOnly (l := []) (List.nil_sublist _)).out ⟨_, by rw [hRx]; rfl, by rw [hRx]; exact vw0_M⟩)
     ·refine wc_skip ?_
      refine then_go ?_
      refine wc_seq ?_
      refine wc_region ?_
      refine wl_val (v_load rfl (st.reads (v := hdV (followH x.head L[i].1)) 0 rfl TF.t26 (getV_all (by rw [List.size_toArray, length_hdC (followH_ok hrk)])))) rfl ?_
      refine wl_val (v_fa TF.f29_1 rfl) rfl ?_
      refine wl_store (v := hdV (followH x.head L[i].1)) 1 st rfl TF.t26 rfl rfl (by simp [hdV, Value.cells, length_hdC (followH_ok hrk)]) (fun u hu => one_hdC u (by simpa [hdV, Value.cells] using hu)) (by rw [List.size_toArray, length_vwC hpx hhx]; decide) ?_
      intro w st
      rw [show (hdV (followH x.head L[i].1)).cells.toList = hdC (followH x.head L[i].1) by simp [hdV, Value.cells], show 0 + 32 = 32 from rfl, set_vwH hpx hhx (followH_ok hrk)] at st
      refine wl_nil ?_
      refine then_go ?_
      refine wc_draw TF.mixed ?_
      have st := st.pure (touch_drew _)
      refine fl_val 0 rfl (fun _ => (v_fa TF.f29_2 rfl)) rfl (by kernel_rfl) ?_
      refine fl_ld 1 rfl (v_load rfl (by first | exact st.reads (v := rv) (b := b7) (c := (vwC x.pin (followH x.head L[i].1) rv).toArray) 1 rfl TF.t27 (vw_r hpx (followH_ok hrk)) | exact st.reads (v := rv) (b := b7) (c := (vwC x.pin (followH x.head L[i].1) rv).toArray) 2 rfl TF.t27 (vw_r hpx (followH_ok hrk)) | exact st.reads (b := b7) (c := (vwC x.pin (followH x.head L[i].1) (.slice ra x.roots.length rc)).toArray) 1 rfl TF.t27 (vw_r hpx (followH_ok hrk)) | exact st.reads (b := b7) (c := (vwC x.pin (followH x.head L[i].1) (.slice ra x.roots.length rc)).toArray) 2 rfl TF.t27 (vw_r hpx (followH_ok hrk)))) (by kernel_rfl) ?_
      refine fl_val 2 rfl (fun _ => (v_move' (by conv => (lhs; whnf)))) rfl (by kernel_rfl) ?_
      refine fl_val 3 rfl (fun _ => (v_move' (by conv => (lhs; whnf)))) rfl (by kernel_rfl) ?_
      refine fl_val 4 rfl (fun _ => (v_ias i Try.underlying30 TF.t71 rfl rfl (by first | rfl | omega) (by first | omega | (dsimp only at *; omega)))) rfl (by kernel_rfl) ?_
      refine fl_val 5 rfl (fun _ => (v_fa TF.f71_0 rfl)) rfl (by kernel_rfl) ?_
      refine fl_ld 6 rfl (v_load rfl (hl.1.rd rfl hi (by decide) TF.t55 (v' := rtV L[i].1.root) (sg_rt hrk) st.im)) (by kernel_rfl) ?_
      refine fl_eff1 7 [5, 4, 3, 2, 0] [1] (by kernel_rfl) ⟨obl_ld rfl rfl rfl (v_load rfl (hl.1.rd rfl hi (by decide) TF.t55 (v' := rtV L[i].1.root) (sg_rt hrk) st.im)), obl_ld rfl rfl rfl (v_load rfl (by first | exact st.reads (v := rv) (b := b7) (c := (vwC x.pin (followH x.head L[i].1) rv).toArray) 1 rfl TF.t27 (vw_r hpx (followH_ok hrk)) | exact st.reads (v := rv) (b := b7) (c := (vwC x.pin (followH x.head L[i].1) rv).toArray) 2 rfl TF.t27 (vw_r hpx (followH_ok hrk)) | exact st.reads (b := b7) (c := (vwC x.pin (followH x.head L[i].1) (.slice ra x.roots.length rc)).toArray) 1 rfl TF.t27 (vw_r hpx (followH_ok hrk)) | exact st.reads (b := b7) (c := (vwC x.pin (followH x.head L[i].1) (.slice ra x.roots.length rc)).toArray) 2 rfl TF.t27 (vw_r hpx (followH_ok hrk)))), trivial⟩ rfl ?_
      refine wl_lsOne (rtC L[i].1.root) Try.underlying27 TF.t55 TF.z55 (by decide) (by decide) (length_rtC hrk) rfl st rfl ?_
      intro b58 w st
      refine wl_nil ⟨rfl, ?_⟩
      refine fl_eff1 8 [5, 4, 3, 2, 0] [] (by kernel_rfl) ⟨obl_ld rfl rfl rfl (v_load rfl (by first | exact st.reads (v := rv) (b := b7) (c := (vwC x.pin (followH x.head L[i].1) rv).toArray) 1 rfl TF.t27 (vw_r hpx (followH_ok hrk)) | exact st.reads (v := rv) (b := b7) (c := (vwC x.pin (followH x.head L[i].1) rv).toArray) 2 rfl TF.t27 (vw_r hpx (followH_ok hrk)) | exact st.reads (b := b7) (c := (vwC x.pin (followH x.head L[i].1) (.slice ra x.roots.length rc)).toArray) 1 rfl TF.t27 (vw_r hpx (followH_ok hrk)) | exact st.reads (b := b7) (c := (vwC x.pin (followH x.head L[i].1) (.slice ra x.roots.length rc)).toArray) 2 rfl TF.t27 (vw_r hpx (followH_ok hrk)))), trivial⟩ rfl ?_
      refine wl_lsApp 2 (c := rtC) (e := L[i].1.root) st rfl Try.underlying27 TF.t55 TF.z55 rfl (length_rtC hrk) one_rtC rfl rfl (by omega) (by omega) rfl ?_
      intro rv2 w st hrv2
      refine wl_nil ⟨rfl, ?_⟩
      refine fl_val 9 rfl (fun _ => (v_fa TF.f29_2 rfl)) rfl (by kernel_rfl) ?_
      refine fl_eff1 10 [] [] (by kernel_rfl) trivial rfl ?_
      refine wl_store1 1 st rfl TF.t27 rfl (by conv => (lhs; whnf)) hrv2 (by rw [List.size_toArray, length_vwC hpx (followH_ok hrk)]; decide) ?_
      intro w st
      rw [show 0 + 97 = 97 from rfl, set_vwR hpx (followH_ok hrk)] at st
      refine wl_nil ⟨rfl, ?_⟩
      refine fl_nil (by kernel_rfl) trivial ?_
      refine block_go (then_go ?_)
      refine wc_region ?_
      refine wl_val (v_move' (by conv => (lhs; whnf))) rfl ?_
      refine wl_val (v_add' rfl rfl rfl (by first | omega | (dsimp only at *; omega)) (by first | omega | (dsimp only at *; omega))) rfl ?_
      refine wl_val (v_assign' (by conv => (lhs; whnf))) rfl ?_
      refine wl_nil ?_
      refine then_go ?_
      rw [hse, if_pos (Decidable.not_not.1 h67)] at hRx
      have hsv : lrnV x L[i].1 = ⟨x.pin, followH x.head L[i].1, x.roots ++ [L[i].1.root]⟩ := by rw [lrnV, if_neg hcond]
      refine ⟨q - 1, by simp; omega, i + 1, lrnV x L[i].1, rv2, _, by omega, rfl, rfl, rfl, rfl, hRx, by rw [ko3]; exact hpx, ko1, ko2, by omega, hl, ?_⟩
      rw [hsv]
      exact st.drop 0
  ·refine wc_exit (then_exit (then_exit (block_hit ?_)))
   refine then_go ?_
   refine wc_seq ?_
   refine wc_region ?_
   refine wl_val (v_load rfl (st.reads (v := .agg (vwC x.pin x.head rv).toArray) 0 rfl TF.t29 (getV_all (by rw [List.size_toArray, length_vwC hpx hhx])))) rfl ?_
   refine wl_storeW (cs := (vwC x.pin x.head rv).toArray) 2 st rfl TF.t29 rfl rfl (by rw [List.size_toArray, length_vwC hpx hhx]) (by rw [List.size_toArray, hz98]) (fun u hu => one_vwC (row_one (st.at (i := 1) rfl)) u (by simpa using hu)) ?_
   intro w st
   refine wl_val (v_assign' (by conv => (lhs; whnf))) rfl ?_
   refine wl_nil ?_
   refine then_go ?_
   refine wc_ret ?_
   have hiL : i = L.length := by omega
   subst hiL
   rw [List.drop_length, List.map_nil, learnG] at hRx
   have hrd := st.reads (v := .agg (vwC x.pin x.head rv).toArray) 2 rfl TF.t29 (getV_all (by rw [List.size_toArray, length_vwC hpx hhx]))
   obtain ⟨m4, hg4, hq4, st⟩ := st.keepLs (i := 1) rfl (fun t ht => length_rtC (hokx t ht))
   exact ret2c rfl hrd rfl ((st.keepOnly (l := []) (List.nil_sublist _)).out ⟨_, by rw [hRx]; rfl, by rw [hRx]; exact ⟨rv, rfl, hq4, hpx, hhx, hokx⟩⟩)
 refine fl_val 0 rfl (fun _ => (v_fa TF.f29_0 rfl)) rfl (by kernel_rfl) ?_
 refine fl_ld 1 rfl (v_load rfl (by first | exact st.reads (v := arr x0.pin) 1 rfl TF.t23 (vw_p hp) | exact st.reads (v := arr x0.pin) 2 rfl TF.t23 (vw_p hp) | exact st.reads (v := arr x0.pin) 3 rfl TF.t23 (vw_p hp))) (by kernel_rfl) ?_
 refine fl_val 2 rfl (fun _ => (v_fa TF.f29_1 rfl)) rfl (by kernel_rfl) ?_
 refine fl_ld 3 rfl (v_load rfl (by first | exact st.reads (v := hdV x0.head) 1 rfl TF.t26 (vw_h hp hh0) | exact st.reads (v := hdV x0.head) 2 rfl TF.t26 (vw_h hp hh0) | exact st.reads (v := hdV x0.head) 3 rfl TF.t26 (vw_h hp hh0))) (by kernel_rfl) ?_
 refine fl_val 4 rfl (fun _ => (v_move' (by conv => (lhs; whnf)))) rfl (by kernel_rfl) ?_
 refine fl_val 5 rfl (fun _ => (v_fa TF.f29_2 rfl)) rfl (by kernel_rfl) ?_
 refine fl_ld 6 rfl (v_load rfl (by first | exact st.reads (v := rv0) 1 rfl TF.t27 (vw_r hp hh0) | exact st.reads (v := rv0) 2 rfl TF.t27 (vw_r hp hh0) | exact st.reads (v := rv0) 3 rfl TF.t27 (vw_r hp hh0))) (by kernel_rfl) ?_
 refine fl_effs [7, 9] (by kernel_rfl) ⟨obl_ld rfl rfl rfl (v_load rfl (by first | exact st.reads (v := rv0) 1 rfl TF.t27 (vw_r hp hh0) | exact st.reads (v := rv0) 2 rfl TF.t27 (vw_r hp hh0) | exact st.reads (v := rv0) 3 rfl TF.t27 (vw_r hp hh0))), obl_ld rfl rfl rfl (v_load rfl (by first | exact st.reads (v := hdV x0.head) 1 rfl TF.t26 (vw_h hp hh0) | exact st.reads (v := hdV x0.head) 2 rfl TF.t26 (vw_h hp hh0) | exact st.reads (v := hdV x0.head) 3 rfl TF.t26 (vw_h hp hh0))), obl_ld rfl rfl rfl (v_load rfl (by first | exact st.reads (v := arr x0.pin) 1 rfl TF.t23 (vw_p hp) | exact st.reads (v := arr x0.pin) 2 rfl TF.t23 (vw_p hp) | exact st.reads (v := arr x0.pin) 3 rfl TF.t23 (vw_p hp))), trivial⟩ (all2 ?_ ?_)
 ·refine stepE 7 (pure' := [5, 2, 0]) (lds' := [3, 1]) rfl (by kernel_rfl) (by kernel_rfl) ?_
  have st := nilRow st 55 97
  refine wl_append (news := x0.roots.flatMap rtC) 0 st rfl Try.underlying27 Try.underlying27 (.inr ⟨_, rfl⟩) TF.t55 TF.z55 rfl rfl rfl (hrt0.row.src st.im (fun u hu => by obtain ⟨t, _, h⟩ := List.mem_flatMap.1 hu; exact one_rtC u h)) (by omega) (by omega) rfl ?_
  intro rv w _ st
  rw [Nat.zero_add, List.nil_append] at st
  have hone : rv.oneCell' = true := row_one (st.at (i := 0) rfl)
  refine wl_nil ⟨rfl, ?_⟩
  refine fl_val 8 rfl (fun _ => (v_build (c' := (vwC x0.pin x0.head rv).toArray) [(0, arr x0.pin), (1, hdV x0.head), (2, rv)] TF.z29 TF.p29 rfl (fill_vw hp hh0 hone))) rfl (by kernel_rfl) ?_
  refine fl_eff1 9 [8, 5, 2, 0] [3, 1] (by kernel_rfl) ⟨obl_ld rfl rfl rfl (v_load rfl (by first | exact st.reads (v := hdV x0.head) 1 rfl TF.t26 (vw_h hp hh0) | exact st.reads (v := hdV x0.head) 2 rfl TF.t26 (vw_h hp hh0) | exact st.reads (v := hdV x0.head) 3 rfl TF.t26 (vw_h hp hh0))), obl_ld rfl rfl rfl (v_load rfl (by first | exact st.reads (v := arr x0.pin) 1 rfl TF.t23 (vw_p hp) | exact st.reads (v := arr x0.pin) 2 rfl TF.t23 (vw_p hp) | exact st.reads (v := arr x0.pin) 3 rfl TF.t23 (vw_p hp))), trivial⟩ rfl ?_
  refine wl_alloc TF.z29 st rfl ?_
  intro b7 w st
  refine wl_nil ⟨rfl, ?_⟩
  refine FL.permB [9, 8, 7, 6, 5, 4, 3, 2, 1, 0] [8, 5, 2, 0] [3, 1] (by kernel_rfl) ?_
  first
   | exact fin _ _ _ _ rfl rfl rfl rfl rfl rfl rfl rfl rfl rfl hone st
   | exact fin _ _ _ _ rfl rfl rfl rfl rfl rfl rfl rfl rfl rfl hone (st.perm (List.Perm.swap _ _ _))
 ·refine stepE 9 (pure' := [5, 4, 2, 0]) (lds' := [6, 3, 1]) rfl (by kernel_rfl) (by kernel_rfl) ?_
  refine wl_alloc TF.z29 st rfl ?_
  intro b7 w st
  refine wl_nil ⟨rfl, ?_⟩
  refine fl_eff1 7 [5, 2, 0] [3, 1] (by kernel_rfl) ⟨obl_ld rfl rfl rfl (v_load rfl (by first | exact st.reads (v := rv0) 1 rfl TF.t27 (vw_r hp hh0) | exact st.reads (v := rv0) 2 rfl TF.t27 (vw_r hp hh0) | exact st.reads (v := rv0) 3 rfl TF.t27 (vw_r hp hh0))), obl_ld rfl rfl rfl (v_load rfl (by first | exact st.reads (v := hdV x0.head) 1 rfl TF.t26 (vw_h hp hh0) | exact st.reads (v := hdV x0.head) 2 rfl TF.t26 (vw_h hp hh0) | exact st.reads (v := hdV x0.head) 3 rfl TF.t26 (vw_h hp hh0))), obl_ld rfl rfl rfl (v_load rfl (by first | exact st.reads (v := arr x0.pin) 1 rfl TF.t23 (vw_p hp) | exact st.reads (v := arr x0.pin) 2 rfl TF.t23 (vw_p hp) | exact st.reads (v := arr x0.pin) 3 rfl TF.t23 (vw_p hp))), trivial⟩ rfl ?_
  have st := nilRow st 55 97
  refine wl_append (news := x0.roots.flatMap rtC) 0 st rfl Try.underlying27 Try.underlying27 (.inr ⟨_, rfl⟩) TF.t55 TF.z55 rfl rfl rfl (hrt0.row.src st.im (fun u hu => by obtain ⟨t, _, h⟩ := List.mem_flatMap.1 hu; exact one_rtC u h)) (by omega) (by omega) rfl ?_
  intro rv w _ st
  rw [Nat.zero_add, List.nil_append] at st
  have hone : rv.oneCell' = true := row_one (st.at (i := 0) rfl)
  refine wl_nil ⟨rfl, ?_⟩
  refine fl_val 8 rfl (fun _ => (v_build (c' := (vwC x0.pin x0.head rv).toArray) [(0, arr x0.pin), (1, hdV x0.head), (2, rv)] TF.z29 TF.p29 rfl (fill_vw hp hh0 hone))) rfl (by kernel_rfl) ?_
  refine FL.permB [9, 8, 7, 6, 5, 4, 3, 2, 1, 0] [8, 5, 2, 0] [3, 1] (by kernel_rfl) ?_
  first
   | exact fin _ _ _ _ rfl rfl rfl rfl rfl rfl rfl rfl rfl rfl hone st
   | exact fin _ _ _ _ rfl rfl rfl rfl rfl rfl rfl rfl rfl rfl hone (st.perm (List.Perm.swap _ _ _))
end
end Go.Proofs.Ytjjpakjgppmmdaa

namespace Go.Proofs.Ytjjpakjgppmmdaa
open Go Go.RowKit K SH PT
def nameCh (c : UInt8) : Prop := (97 ≤ c.toNat ∧ c.toNat ≤ 122) ∨ (48 ≤ c.toNat ∧ c.toNat ≤ 57) ∨ c.toNat = 46 ∨ c.toNat = 45
instance {c : UInt8} : Decidable (nameCh c) := by unfold nameCh; infer_instance
def okName (n : By) : Prop := (∀ c ∈ n, nameCh c) ∧ n ≠ [] ∧ n.length ≤ 32
instance {n : By} : Decidable (okName n) := by unfold okName; infer_instance
theorem strB_size (n : By) : (strB n).size = n.length := rfl
section
variable {P : Program} {r : Fr} {w : World} {ty : TypeId}
theorem v_nes {T U : TypeId} {x y : Operand} {a b : By} (hx : ev r x = .string (strB a)) (hy : ev r y = .string (strB b)) : Val P (.binOp .neq T x y U) ty r w (.bool (decide (¬ a = b))) w := by
 intro _ _ _ _
 simp only [execOp, eqGuard, hx, hy, binOp, Op.stringOp, strB_toList, Sem.run_bind, Sem.run_pure, Result.andThen_ok]
 by_cases h : a = b
 ·subst h; simp
 ·simp [h]
theorem v_idxs {T : TypeId} {x ix : Operand} {n : By} {i : Nat} (hT : P.underlying T = some .string) (hx : ev r x = .string (strB n)) (hi : ev r ix = .int .i64 i) (h : i < n.length) : Val P (.index T x ix) ty r w (u8 n[i]) w := by
 refine v_index_str hT hx hi (by omega) ?_
 rw [Int.toNat_natCast, getElem?_pos (strB n) i h]
 rfl
theorem v_geB {T U : TypeId} {x y : Operand} {k : IntKind} {a b : Int} {z : Bool} (hx : ev r x = .int k a) (hy : ev r y = .int k b) (h : z = decide (b ≤ a)) : Val P (.binOp .geq T x y U) ty r w (.bool z) w := by rw [h]; exact v_geq hx hy
theorem v_leB {T U : TypeId} {x y : Operand} {k : IntKind} {a b : Int} {z : Bool} (hx : ev r x = .int k a) (hy : ev r y = .int k b) (h : z = decide (a ≤ b)) : Val P (.binOp .leq T x y U) ty r w (.bool z) w := by rw [h]; exact v_leq hx hy
theorem v_eqB {T U : TypeId} {x y : Operand} {k : IntKind} {a b : Int} {z : Bool} (hx : ev r x = .int k a) (hy : ev r y = .int k b) (h : z = decide (a = b)) : Val P (.binOp .eql T x y U) ty r w (.bool z) w := by rw [h]; exact v_eql hx hy
theorem v_neB {T U : TypeId} {x y : Operand} {k : IntKind} {a b : Int} {z : Bool} (hx : ev r x = .int k a) (hy : ev r y = .int k b) (h : z = decide (¬ a = b)) : Val P (.binOp .neq T x y U) ty r w (.bool z) w := by rw [h]; exact v_neq hx hy
end
section
variable {m : Mem} {wI : World}
theorem c_recname {n : By} (him : Im m wI) (hn : n.length ≤ 9223372036854775807) : Ret Try.prog 73 #[.string (strB n)] wI fun v' w' => Tch wI w' [] [] ∧ v' = .bool (decide (okName n)) := by
  have st := St.start him
  have hsz := strB_size n
  refine ret_of Try.call73 Try.func73 rfl Try.ntmps73 Try.results73 rfl ?_
  refine wc_seq ?_
  refine wc_region ?_
  refine wl_val (v_assign' (by conv => (lhs; whnf))) rfl ?_
  refine wl_nil ?_
  refine then_go ?_
  refine wc_seq ?_
  refine wc_seq ?_
  refine wc_region ?_
  refine wl_val (v_assign' (by conv => (lhs; whnf))) rfl ?_
  refine wl_nil ?_
  refine then_go ?_
  refine wc_block ?_
  refine wc_loop (S := Nat) (fun q r w' => ∃ (i : Nat), q + i = n.length ∧ r 0 = .string (strB n) ∧ r 3 = .int .i64 i ∧ (∀ c ∈ n.take i, nameCh c) ∧ St m m [] wI w' []) id n.length ⟨0, by omega, rfl, rfl, by simp, st⟩ ?_
  rintro q r w2 ⟨i, hqi, g0, g3, hall, st⟩
  refine wc_o 0 g0 (wc_o 3 g3 ?_)
  refine wc_seq ?_
  refine wc_seq ?_
  refine wc_region ?_
  refine wl_val (v_move' (by conv => (lhs; whnf))) rfl ?_
  refine wl_val (v_move' (by conv => (lhs; whnf))) rfl ?_
  refine wl_val (v_len_str Try.underlying9 rfl) rfl ?_
  refine wl_val (v_lss rfl rfl) rfl ?_
  refine wl_nil ?_
  refine then_go ?_
  refine wc_if rfl (fun h8 => ?_) (fun h8 => ?_)
  · refine wc_skip ?_
    refine then_go ?_
    refine wc_seq ?_
    refine wc_block ?_
    refine wc_seq ?_
    have hi : i < n.length := by omega
    refine wc_region ?_
    refine wl_val (v_move' (by conv => (lhs; whnf))) rfl ?_
    refine wl_val (v_move' (by conv => (lhs; whnf))) rfl ?_
    refine wl_val (v_idxs Try.underlying9 rfl rfl hi) rfl ?_
    refine wl_val (v_assign' (by conv => (lhs; whnf))) rfl ?_
    refine wl_nil ?_
    refine then_go ?_
    refine wc_seq ?_
    by_cases hA : 97 ≤ n[i].toNat ∧ n[i].toNat ≤ 122
    · refine wc_region ?_
      refine wl_val (v_move' (by conv => (lhs; whnf))) rfl ?_
      refine wl_val (by first | exact v_geB (z := true) rfl rfl (decide_eq_true (by omega)).symm | exact v_geB (z := false) rfl rfl (decide_eq_false (by omega)).symm) rfl ?_
      refine wl_val (v_move' (by conv => (lhs; whnf))) rfl ?_
      refine wl_on rfl rfl ?_
      refine wl_val (v_move' (by conv => (lhs; whnf))) rfl ?_
      refine wl_on rfl rfl ?_
      refine wl_val (by first | exact v_leB (z := true) rfl rfl (decide_eq_true (by omega)).symm | exact v_leB (z := false) rfl rfl (decide_eq_false (by omega)).symm) rfl ?_
      refine wl_val (v_pick rfl) rfl ?_
      refine wl_val (v_move' (by conv => (lhs; whnf))) rfl ?_
      refine wl_off rfl rfl rfl rfl ?_
      refine wl_off rfl rfl rfl rfl ?_
      refine wl_off rfl rfl rfl rfl ?_
      refine offU rfl rfl rfl ?_
      refine offU rfl rfl rfl ?_
      refine wl_off rfl rfl rfl rfl ?_
      refine wl_val (v_pick rfl) rfl ?_
      refine wl_val (v_move' (by conv => (lhs; whnf))) rfl ?_
      refine wl_off rfl rfl rfl rfl ?_
      refine wl_off rfl rfl rfl rfl ?_
      refine wl_val (v_pick rfl) rfl ?_
      refine wl_val (v_move' (by conv => (lhs; whnf))) rfl ?_
      refine wl_off rfl rfl rfl rfl ?_
      refine wl_off rfl rfl rfl rfl ?_
      refine wl_val (v_pick rfl) rfl ?_
      refine wl_val (v_not rfl) rfl ?_
      refine wl_nil ?_
      refine then_go ?_
      refine wc_false rfl ?_
      refine wc_skip ?_
      refine block_go (then_go ?_)
      refine wc_region ?_
      refine wl_val (v_move' (by conv => (lhs; whnf))) rfl ?_
      refine wl_val (v_add' rfl rfl rfl (by first | omega | (dsimp only at *; omega)) (by first | omega | (dsimp only at *; omega))) rfl ?_
      refine wl_val (v_assign' (by conv => (lhs; whnf))) rfl ?_
      refine wl_nil ?_
      refine then_go ?_
      have hch : nameCh n[i] := by unfold nameCh; omega
      refine ⟨q - 1, by simp; omega, i + 1, by omega, rfl, rfl, fun c hc => ?_, st⟩
      rw [List.take_succ_eq_append_getElem hi] at hc
      rcases List.mem_append.1 hc with h | h
      · exact hall c h
      · simp at h; rw [h]; exact hch
    · by_cases hB : 48 ≤ n[i].toNat ∧ n[i].toNat ≤ 57
      · refine wc_region ?_
        refine wl_val (v_move' (by conv => (lhs; whnf))) rfl ?_
        refine wl_val (by first | exact v_geB (z := true) rfl rfl (decide_eq_true (by omega)).symm | exact v_geB (z := false) rfl rfl (decide_eq_false (by omega)).symm) rfl ?_
        refine wl_val (v_move' (by conv => (lhs; whnf))) rfl ?_
        refine wl_off rfl rfl rfl rfl ?_
        refine wl_off rfl rfl rfl rfl ?_
        refine wl_val (v_pick rfl) rfl ?_
        refine wl_val (v_move' (by conv => (lhs; whnf))) rfl ?_
        refine wl_on rfl rfl ?_
        refine wl_val (v_move' (by conv => (lhs; whnf))) rfl ?_
        refine wl_on rfl rfl ?_
        refine wl_val (by first | exact v_geB (z := true) rfl rfl (decide_eq_true (by omega)).symm | exact v_geB (z := false) rfl rfl (decide_eq_false (by omega)).symm) rfl ?_
        refine wl_on rfl rfl ?_
        refine wl_val (v_move' (by conv => (lhs; whnf))) rfl ?_
        refine wl_on rfl rfl ?_
        refine wl_val (v_move' (by conv => (lhs; whnf))) rfl ?_
        refine wl_on rfl rfl ?_
        refine wl_val (by first | exact v_leB (z := true) rfl rfl (decide_eq_true (by omega)).symm | exact v_leB (z := false) rfl rfl (decide_eq_false (by omega)).symm) rfl ?_
        refine wl_on rfl rfl ?_
        refine wl_val (v_pick rfl) rfl ?_
        refine wl_val (v_pick rfl) rfl ?_
        refine wl_val (v_move' (by conv => (lhs; whnf))) rfl ?_
        refine wl_off rfl rfl rfl rfl ?_
        refine wl_off rfl rfl rfl rfl ?_
        refine wl_val (v_pick rfl) rfl ?_
        refine wl_val (v_move' (by conv => (lhs; whnf))) rfl ?_
        refine wl_off rfl rfl rfl rfl ?_
        refine wl_off rfl rfl rfl rfl ?_
        refine wl_val (v_pick rfl) rfl ?_
        refine wl_val (v_not rfl) rfl ?_
        refine wl_nil ?_
        refine then_go ?_
        refine wc_false rfl ?_
        refine wc_skip ?_
        refine block_go (then_go ?_)
        refine wc_region ?_
        refine wl_val (v_move' (by conv => (lhs; whnf))) rfl ?_
        refine wl_val (v_add' rfl rfl rfl (by first | omega | (dsimp only at *; omega)) (by first | omega | (dsimp only at *; omega))) rfl ?_
        refine wl_val (v_assign' (by conv => (lhs; whnf))) rfl ?_
        refine wl_nil ?_
        refine then_go ?_
        have hch : nameCh n[i] := by unfold nameCh; omega
        refine ⟨q - 1, by simp; omega, i + 1, by omega, rfl, rfl, fun c hc => ?_, st⟩
        rw [List.take_succ_eq_append_getElem hi] at hc
        rcases List.mem_append.1 hc with h | h
        · exact hall c h
        · simp at h; rw [h]; exact hch
      · by_cases hC : n[i].toNat = 46
        · refine wc_region ?_
          refine wl_val (v_move' (by conv => (lhs; whnf))) rfl ?_
          refine wl_val (by first | exact v_geB (z := true) rfl rfl (decide_eq_true (by omega)).symm | exact v_geB (z := false) rfl rfl (decide_eq_false (by omega)).symm) rfl ?_
          refine wl_val (v_move' (by conv => (lhs; whnf))) rfl ?_
          refine wl_off rfl rfl rfl rfl ?_
          refine wl_off rfl rfl rfl rfl ?_
          refine wl_val (v_pick rfl) rfl ?_
          refine wl_val (v_move' (by conv => (lhs; whnf))) rfl ?_
          refine wl_on rfl rfl ?_
          refine wl_val (v_move' (by conv => (lhs; whnf))) rfl ?_
          refine wl_on rfl rfl ?_
          refine wl_val (by first | exact v_geB (z := true) rfl rfl (decide_eq_true (by omega)).symm | exact v_geB (z := false) rfl rfl (decide_eq_false (by omega)).symm) rfl ?_
          refine wl_on rfl rfl ?_
          refine wl_val (v_move' (by conv => (lhs; whnf))) rfl ?_
          refine wl_off rfl rfl rfl rfl ?_
          refine wl_off rfl rfl rfl rfl ?_
          refine wl_on rfl rfl ?_
          refine wl_val (v_pick rfl) rfl ?_
          refine wl_val (v_pick rfl) rfl ?_
          refine wl_val (v_move' (by conv => (lhs; whnf))) rfl ?_
          refine wl_on rfl rfl ?_
          refine wl_val (v_move' (by conv => (lhs; whnf))) rfl ?_
          refine wl_on rfl rfl ?_
          refine wl_val (by first | exact v_eqB (z := true) rfl rfl (decide_eq_true (by omega)).symm | exact v_eqB (z := false) rfl rfl (decide_eq_false (by omega)).symm) rfl ?_
          refine wl_val (v_pick rfl) rfl ?_
          refine wl_val (v_move' (by conv => (lhs; whnf))) rfl ?_
          refine wl_off rfl rfl rfl rfl ?_
          refine wl_off rfl rfl rfl rfl ?_
          refine wl_val (v_pick rfl) rfl ?_
          refine wl_val (v_not rfl) rfl ?_
          refine wl_nil ?_
          refine then_go ?_
          refine wc_false rfl ?_
          refine wc_skip ?_
          refine block_go (then_go ?_)
          refine wc_region ?_
          refine wl_val (v_move' (by conv => (lhs; whnf))) rfl ?_
          refine wl_val (v_add' rfl rfl rfl (by first | omega | (dsimp only at *; omega)) (by first | omega | (dsimp only at *; omega))) rfl ?_
          refine wl_val (v_assign' (by conv => (lhs; whnf))) rfl ?_
          refine wl_nil ?_
          refine then_go ?_
          have hch : nameCh n[i] := by unfold nameCh; omega
          refine ⟨q - 1, by simp; omega, i + 1, by omega, rfl, rfl, fun c hc => ?_, st⟩
          rw [List.take_succ_eq_append_getElem hi] at hc
          rcases List.mem_append.1 hc with h | h
          · exact hall c h
          · simp at h; rw [h]; exact hch
        · by_cases hE : n[i].toNat = 45
          · refine wc_region ?_
            refine wl_val (v_move' (by conv => (lhs; whnf))) rfl ?_
            refine wl_val (by first | exact v_geB (z := true) rfl rfl (decide_eq_true (by omega)).symm | exact v_geB (z := false) rfl rfl (decide_eq_false (by omega)).symm) rfl ?_
            refine wl_val (v_move' (by conv => (lhs; whnf))) rfl ?_
            refine wl_off rfl rfl rfl rfl ?_
            refine wl_off rfl rfl rfl rfl ?_
            refine wl_val (v_pick rfl) rfl ?_
            refine wl_val (v_move' (by conv => (lhs; whnf))) rfl ?_
            refine wl_on rfl rfl ?_
            refine wl_val (v_move' (by conv => (lhs; whnf))) rfl ?_
            refine wl_on rfl rfl ?_
            refine wl_val (by first | exact v_geB (z := true) rfl rfl (decide_eq_true (by omega)).symm | exact v_geB (z := false) rfl rfl (decide_eq_false (by omega)).symm) rfl ?_
            refine wl_on rfl rfl ?_
            refine wl_val (v_move' (by conv => (lhs; whnf))) rfl ?_
            refine wl_off rfl rfl rfl rfl ?_
            refine wl_off rfl rfl rfl rfl ?_
            refine wl_on rfl rfl ?_
            refine wl_val (v_pick rfl) rfl ?_
            refine wl_val (v_pick rfl) rfl ?_
            refine wl_val (v_move' (by conv => (lhs; whnf))) rfl ?_
            refine wl_on rfl rfl ?_
            refine wl_val (v_move' (by conv => (lhs; whnf))) rfl ?_
            refine wl_on rfl rfl ?_
            refine wl_val (by first | exact v_eqB (z := true) rfl rfl (decide_eq_true (by omega)).symm | exact v_eqB (z := false) rfl rfl (decide_eq_false (by omega)).symm) rfl ?_
            refine wl_val (v_pick rfl) rfl ?_
            refine wl_val (v_move' (by conv => (lhs; whnf))) rfl ?_
            refine wl_on rfl rfl ?_
            refine wl_val (v_move' (by conv => (lhs; whnf))) rfl ?_
            refine wl_on rfl rfl ?_
            refine wl_val (by first | exact v_eqB (z := true) rfl rfl (decide_eq_true (by omega)).symm | exact v_eqB (z := false) rfl rfl (decide_eq_false (by omega)).symm) rfl ?_
            refine wl_val (v_pick rfl) rfl ?_
            refine wl_val (v_not rfl) rfl ?_
            refine wl_nil ?_
            refine then_go ?_
            refine wc_false rfl ?_
            refine wc_skip ?_
            refine block_go (then_go ?_)
            refine wc_region ?_
            refine wl_val (v_move' (by conv => (lhs; whnf))) rfl ?_
            refine wl_val (v_add' rfl rfl rfl (by first | omega | (dsimp only at *; omega)) (by first | omega | (dsimp only at *; omega))) rfl ?_
            refine wl_val (v_assign' (by conv => (lhs; whnf))) rfl ?_
            refine wl_nil ?_
            refine then_go ?_
            have hch : nameCh n[i] := by unfold nameCh; omega
            refine ⟨q - 1, by simp; omega, i + 1, by omega, rfl, rfl, fun c hc => ?_, st⟩
            rw [List.take_succ_eq_append_getElem hi] at hc
            rcases List.mem_append.1 hc with h | h
            · exact hall c h
            · simp at h; rw [h]; exact hch
          · by_cases hF : 122 < n[i].toNat
            · refine wc_region ?_
              refine wl_val (v_move' (by conv => (lhs; whnf))) rfl ?_
              refine wl_val (by first | exact v_geB (z := true) rfl rfl (decide_eq_true (by omega)).symm | exact v_geB (z := false) rfl rfl (decide_eq_false (by omega)).symm) rfl ?_
              refine wl_val (v_move' (by conv => (lhs; whnf))) rfl ?_
              refine wl_on rfl rfl ?_
              refine wl_val (v_move' (by conv => (lhs; whnf))) rfl ?_
              refine wl_on rfl rfl ?_
              refine wl_val (by first | exact v_leB (z := true) rfl rfl (decide_eq_true (by omega)).symm | exact v_leB (z := false) rfl rfl (decide_eq_false (by omega)).symm) rfl ?_
              refine wl_val (v_pick rfl) rfl ?_
              refine wl_val (v_move' (by conv => (lhs; whnf))) rfl ?_
              refine wl_on rfl rfl ?_
              refine wl_val (v_move' (by conv => (lhs; whnf))) rfl ?_
              refine wl_on rfl rfl ?_
              refine wl_val (by first | exact v_geB (z := true) rfl rfl (decide_eq_true (by omega)).symm | exact v_geB (z := false) rfl rfl (decide_eq_false (by omega)).symm) rfl ?_
              refine wl_on rfl rfl ?_
              refine wl_val (v_move' (by conv => (lhs; whnf))) rfl ?_
              refine wl_on rfl rfl ?_
              refine wl_val (v_move' (by conv => (lhs; whnf))) rfl ?_
              refine wl_on rfl rfl ?_
              refine wl_val (by first | exact v_leB (z := true) rfl rfl (decide_eq_true (by omega)).symm | exact v_leB (z := false) rfl rfl (decide_eq_false (by omega)).symm) rfl ?_
              refine wl_on rfl rfl ?_
              refine wl_val (v_pick rfl) rfl ?_
              refine wl_val (v_pick rfl) rfl ?_
              refine wl_val (v_move' (by conv => (lhs; whnf))) rfl ?_
              refine wl_on rfl rfl ?_
              refine wl_val (v_move' (by conv => (lhs; whnf))) rfl ?_
              refine wl_on rfl rfl ?_
              refine wl_val (by first | exact v_eqB (z := true) rfl rfl (decide_eq_true (by omega)).symm | exact v_eqB (z := false) rfl rfl (decide_eq_false (by omega)).symm) rfl ?_
              refine wl_val (v_pick rfl) rfl ?_
              refine wl_val (v_move' (by conv => (lhs; whnf))) rfl ?_
              refine wl_on rfl rfl ?_
              refine wl_val (v_move' (by conv => (lhs; whnf))) rfl ?_
              refine wl_on rfl rfl ?_
              refine wl_val (by first | exact v_eqB (z := true) rfl rfl (decide_eq_true (by omega)).symm | exact v_eqB (z := false) rfl rfl (decide_eq_false (by omega)).symm) rfl ?_
              refine wl_val (v_pick rfl) rfl ?_
              refine wl_val (v_not rfl) rfl ?_
              refine wl_nil ?_
              refine then_go ?_
              refine wc_true rfl ?_
              refine wc_seq ?_
              refine wc_region ?_
              refine wl_val (v_assign' (by conv => (lhs; whnf))) rfl ?_
              refine wl_nil ?_
              refine then_go ?_
              refine wc_ret (block_ret (then_ret (then_ret (block_ret (then_ret ?_)))))
              exact ret1 rfl ⟨st.touch, by rw [show decide (okName n) = false from decide_eq_false (fun hc => by rcases hc.1 _ (List.getElem_mem hi) with h | h | h | h <;> omega)]; rfl⟩
            · by_cases hG : 58 ≤ n[i].toNat
              · refine wc_region ?_
                refine wl_val (v_move' (by conv => (lhs; whnf))) rfl ?_
                refine wl_val (by first | exact v_geB (z := true) rfl rfl (decide_eq_true (by omega)).symm | exact v_geB (z := false) rfl rfl (decide_eq_false (by omega)).symm) rfl ?_
                refine wl_val (v_move' (by conv => (lhs; whnf))) rfl ?_
                refine wl_off rfl rfl rfl rfl ?_
                refine wl_off rfl rfl rfl rfl ?_
                refine wl_val (v_pick rfl) rfl ?_
                refine wl_val (v_move' (by conv => (lhs; whnf))) rfl ?_
                refine wl_on rfl rfl ?_
                refine wl_val (v_move' (by conv => (lhs; whnf))) rfl ?_
                refine wl_on rfl rfl ?_
                refine wl_val (by first | exact v_geB (z := true) rfl rfl (decide_eq_true (by omega)).symm | exact v_geB (z := false) rfl rfl (decide_eq_false (by omega)).symm) rfl ?_
                refine wl_on rfl rfl ?_
                refine wl_val (v_move' (by conv => (lhs; whnf))) rfl ?_
                refine wl_on rfl rfl ?_
                refine wl_val (v_move' (by conv => (lhs; whnf))) rfl ?_
                refine wl_on rfl rfl ?_
                refine wl_val (by first | exact v_leB (z := true) rfl rfl (decide_eq_true (by omega)).symm | exact v_leB (z := false) rfl rfl (decide_eq_false (by omega)).symm) rfl ?_
                refine wl_on rfl rfl ?_
                refine wl_val (v_pick rfl) rfl ?_
                refine wl_val (v_pick rfl) rfl ?_
                refine wl_val (v_move' (by conv => (lhs; whnf))) rfl ?_
                refine wl_on rfl rfl ?_
                refine wl_val (v_move' (by conv => (lhs; whnf))) rfl ?_
                refine wl_on rfl rfl ?_
                refine wl_val (by first | exact v_eqB (z := true) rfl rfl (decide_eq_true (by omega)).symm | exact v_eqB (z := false) rfl rfl (decide_eq_false (by omega)).symm) rfl ?_
                refine wl_val (v_pick rfl) rfl ?_
                refine wl_val (v_move' (by conv => (lhs; whnf))) rfl ?_
                refine wl_on rfl rfl ?_
                refine wl_val (v_move' (by conv => (lhs; whnf))) rfl ?_
                refine wl_on rfl rfl ?_
                refine wl_val (by first | exact v_eqB (z := true) rfl rfl (decide_eq_true (by omega)).symm | exact v_eqB (z := false) rfl rfl (decide_eq_false (by omega)).symm) rfl ?_
                refine wl_val (v_pick rfl) rfl ?_
                refine wl_val (v_not rfl) rfl ?_
                refine wl_nil ?_
                refine then_go ?_
                refine wc_true rfl ?_
                refine wc_seq ?_
                refine wc_region ?_
                refine wl_val (v_assign' (by conv => (lhs; whnf))) rfl ?_
                refine wl_nil ?_
                refine then_go ?_
                refine wc_ret (block_ret (then_ret (then_ret (block_ret (then_ret ?_)))))
                exact ret1 rfl ⟨st.touch, by rw [show decide (okName n) = false from decide_eq_false (fun hc => by rcases hc.1 _ (List.getElem_mem hi) with h | h | h | h <;> omega)]; rfl⟩
              · refine wc_region ?_
                refine wl_val (v_move' (by conv => (lhs; whnf))) rfl ?_
                refine wl_val (by first | exact v_geB (z := true) rfl rfl (decide_eq_true (by omega)).symm | exact v_geB (z := false) rfl rfl (decide_eq_false (by omega)).symm) rfl ?_
                refine wl_val (v_move' (by conv => (lhs; whnf))) rfl ?_
                refine wl_off rfl rfl rfl rfl ?_
                refine wl_off rfl rfl rfl rfl ?_
                refine wl_val (v_pick rfl) rfl ?_
                refine wl_val (v_move' (by conv => (lhs; whnf))) rfl ?_
                refine wl_on rfl rfl ?_
                refine wl_val (v_move' (by conv => (lhs; whnf))) rfl ?_
                refine wl_on rfl rfl ?_
                refine wl_val (by first | exact v_geB (z := true) rfl rfl (decide_eq_true (by omega)).symm | exact v_geB (z := false) rfl rfl (decide_eq_false (by omega)).symm) rfl ?_
                refine wl_on rfl rfl ?_
                refine wl_val (v_move' (by conv => (lhs; whnf))) rfl ?_
                refine wl_off rfl rfl rfl rfl ?_
                refine wl_off rfl rfl rfl rfl ?_
                refine wl_on rfl rfl ?_
                refine wl_val (v_pick rfl) rfl ?_
                refine wl_val (v_pick rfl) rfl ?_
                refine wl_val (v_move' (by conv => (lhs; whnf))) rfl ?_
                refine wl_on rfl rfl ?_
                refine wl_val (v_move' (by conv => (lhs; whnf))) rfl ?_
                refine wl_on rfl rfl ?_
                refine wl_val (by first | exact v_eqB (z := true) rfl rfl (decide_eq_true (by omega)).symm | exact v_eqB (z := false) rfl rfl (decide_eq_false (by omega)).symm) rfl ?_
                refine wl_val (v_pick rfl) rfl ?_
                refine wl_val (v_move' (by conv => (lhs; whnf))) rfl ?_
                refine wl_on rfl rfl ?_
                refine wl_val (v_move' (by conv => (lhs; whnf))) rfl ?_
                refine wl_on rfl rfl ?_
                refine wl_val (by first | exact v_eqB (z := true) rfl rfl (decide_eq_true (by omega)).symm | exact v_eqB (z := false) rfl rfl (decide_eq_false (by omega)).symm) rfl ?_
                refine wl_val (v_pick rfl) rfl ?_
                refine wl_val (v_not rfl) rfl ?_
                refine wl_nil ?_
                refine then_go ?_
                refine wc_true rfl ?_
                refine wc_seq ?_
                refine wc_region ?_
                refine wl_val (v_assign' (by conv => (lhs; whnf))) rfl ?_
                refine wl_nil ?_
                refine then_go ?_
                refine wc_ret (block_ret (then_ret (then_ret (block_ret (then_ret ?_)))))
                exact ret1 rfl ⟨st.touch, by rw [show decide (okName n) = false from decide_eq_false (fun hc => by rcases hc.1 _ (List.getElem_mem hi) with h | h | h | h <;> omega)]; rfl⟩
  · refine wc_exit (then_exit (then_exit (block_hit ?_)))
    refine then_go ?_
    refine wc_seq ?_
    refine wc_region ?_
    refine wl_val (v_move' (by conv => (lhs; whnf))) rfl ?_
    refine wl_val (v_nes (b := []) rfl rfl) rfl ?_
    refine wl_val (v_move' (by conv => (lhs; whnf))) rfl ?_
    by_cases hg2 : ¬ n = []
    · rw [show decide (¬ n = []) = true from decide_eq_true hg2]
      refine wl_on rfl rfl ?_
      refine wl_val (v_move' (by conv => (lhs; whnf))) rfl ?_
      refine wl_on rfl rfl ?_
      refine wl_val (v_len_str Try.underlying9 rfl) rfl ?_
      refine wl_on rfl rfl ?_
      refine wl_val (v_leq rfl rfl) rfl ?_
      refine wl_val (v_pick rfl) rfl ?_
      refine wl_val (v_assign' (by conv => (lhs; whnf))) rfl ?_
      refine wl_nil ?_
      refine then_go ?_
      refine wc_ret ?_
      have hiN : i = n.length := by omega
      subst hiN
      rw [List.take_length] at hall
      refine ret1 rfl ⟨st.touch, ?_⟩
      first
        | (have e : decide (okName n) = decide ((n.length : Int) ≤ 32) := decide_eq_decide.2 ⟨fun h => by have := h.2.2; omega, fun h => ⟨hall, hg2, by omega⟩⟩
           rw [e]; rfl)
        | (rw [show decide (okName n) = false from decide_eq_false (fun hc => hg2 hc.2.1)]; rfl)
    · rw [show decide (¬ n = []) = false from decide_eq_false hg2]
      refine wl_off rfl rfl rfl rfl ?_
      refine wl_off rfl rfl rfl rfl ?_
      refine wl_off rfl rfl rfl rfl ?_
      refine wl_val (v_pick rfl) rfl ?_
      refine wl_val (v_assign' (by conv => (lhs; whnf))) rfl ?_
      refine wl_nil ?_
      refine then_go ?_
      refine wc_ret ?_
      have hiN : i = n.length := by omega
      subst hiN
      rw [List.take_length] at hall
      refine ret1 rfl ⟨st.touch, ?_⟩
      first
        | (have e : decide (okName n) = decide ((n.length : Int) ≤ 32) := decide_eq_decide.2 ⟨fun h => by have := h.2.2; omega, fun h => ⟨hall, hg2, by omega⟩⟩
           rw [e]; rfl)
        | (rw [show decide (okName n) = false from decide_eq_false (fun hc => hg2 hc.2.1)]; rfl)
theorem c_r5name {n : By} (him : Im m wI) (hn : n.length ≤ 9223372036854775807) : Ret Try.prog 52 #[.string (strB n)] wI fun v' w' => Tch wI w' [] [] ∧ v' = .bool (decide (okName n)) := by
 have st := St.start him
 have hsz := strB_size n
 refine ret_of Try.call52 Try.func52 rfl Try.ntmps52 Try.results52 rfl ?_
 refine wc_seq ?_
 refine wc_region ?_
 refine wl_val (v_assign' (by conv => (lhs; whnf))) rfl ?_
 refine wl_nil ?_
 refine then_go ?_
 refine wc_seq ?_
 refine wc_seq ?_
 refine wc_region ?_
 refine wl_val (v_move' (by conv => (lhs; whnf))) rfl ?_
 refine wl_val (v_len_str Try.underlying9 rfl) rfl ?_
 refine wl_val (v_lss rfl rfl) rfl ?_
 refine wl_val (v_move' (by conv => (lhs; whnf))) rfl ?_
 by_cases hg3 : ((strB n).size : Int) < 1
 ·rw [show decide (((strB n).size : Int) < 1) = true from decide_eq_true hg3]
  refine wl_off rfl rfl rfl rfl ?_
  refine wl_off rfl rfl rfl rfl ?_
  refine wl_off rfl rfl rfl rfl ?_
  refine wl_val (v_pick rfl) rfl ?_
  refine wl_nil ?_
  refine then_go ?_
  refine wc_true rfl ?_
  refine wc_seq ?_
  refine wc_region ?_
  refine wl_val (v_assign' (by conv => (lhs; whnf))) rfl ?_
  refine wl_nil ?_
  refine then_go ?_
  refine wc_ret (then_ret ?_)
  exact ret1 rfl ⟨st.touch, by rw [show decide (okName n) = false from decide_eq_false (fun hc => hc.2.1 (List.eq_nil_of_length_eq_zero (by omega)))]; rfl⟩
 ·rw [show decide (((strB n).size : Int) < 1) = false from decide_eq_false hg3]
  refine wl_on rfl rfl ?_
  refine wl_val (v_move' (by conv => (lhs; whnf))) rfl ?_
  refine wl_on rfl rfl ?_
  refine wl_val (v_len_str Try.underlying9 rfl) rfl ?_
  refine wl_on rfl rfl ?_
  refine wl_val (v_gtr rfl rfl) rfl ?_
  refine wl_val (v_pick rfl) rfl ?_
  refine wl_nil ?_
  refine then_go ?_
  refine wc_if rfl (fun h14 => ?_) (fun h14 => ?_)
  ·refine wc_seq ?_
   refine wc_region ?_
   refine wl_val (v_assign' (by conv => (lhs; whnf))) rfl ?_
   refine wl_nil ?_
   refine then_go ?_
   refine wc_ret (then_ret ?_)
   exact ret1 rfl ⟨st.touch, by rw [show decide (okName n) = false from decide_eq_false (fun hc => by have := hc.2.2; omega)]; rfl⟩
  ·refine wc_skip ?_
   refine then_go ?_
   refine wc_seq ?_
   refine wc_seq ?_
   refine wc_region ?_
   refine wl_val (v_assign' (by conv => (lhs; whnf))) rfl ?_
   refine wl_nil ?_
   refine then_go ?_
   refine wc_block ?_
   refine wc_loop (S := Nat) (fun q r w' => ∃ (i : Nat), q + i = n.length ∧ r 0 = .string (strB n) ∧ r 3 = .int .i64 i ∧ (∀ c ∈ n.take i, nameCh c) ∧ St m m [] wI w' []) id n.length ⟨0, by omega, rfl, rfl, by simp, st⟩ ?_
   rintro q r w2 ⟨i, hqi, g0, g3, hall, st⟩
   refine wc_o 0 g0 (wc_o 3 g3 ?_)
   refine wc_seq ?_
   refine wc_seq ?_
   refine wc_region ?_
   refine wl_val (v_move' (by conv => (lhs; whnf))) rfl ?_
   refine wl_val (v_move' (by conv => (lhs; whnf))) rfl ?_
   refine wl_val (v_len_str Try.underlying9 rfl) rfl ?_
   refine wl_val (v_lss rfl rfl) rfl ?_
   refine wl_nil ?_
   refine then_go ?_
   refine wc_if rfl (fun h18 => ?_) (fun h18 => ?_)
   ·refine wc_skip ?_
    refine then_go ?_
    refine wc_seq ?_
    refine wc_block ?_
    refine wc_seq ?_
    have hi : i < n.length := by omega
    refine wc_region ?_
    refine wl_val (v_move' (by conv => (lhs; whnf))) rfl ?_
    refine wl_val (v_move' (by conv => (lhs; whnf))) rfl ?_
    refine wl_val (v_idxs Try.underlying9 rfl rfl hi) rfl ?_
    refine wl_val (v_assign' (by conv => (lhs; whnf))) rfl ?_
    refine wl_nil ?_
    refine then_go ?_
    refine wc_seq ?_
    by_cases hA : 97 ≤ n[i].toNat ∧ n[i].toNat ≤ 122
    ·refine wc_region ?_
     refine wl_val (v_move' (by conv => (lhs; whnf))) rfl ?_
     refine wl_val (by first | exact v_geB (z := true) rfl rfl (decide_eq_true (by omega)).symm | exact v_geB (z := false) rfl rfl (decide_eq_false (by omega)).symm) rfl ?_
     refine wl_val (v_move' (by conv => (lhs; whnf))) rfl ?_
     refine wl_on rfl rfl ?_
     refine wl_val (v_move' (by conv => (lhs; whnf))) rfl ?_
     refine wl_on rfl rfl ?_
     refine wl_val (by first | exact v_leB (z := true) rfl rfl (decide_eq_true (by omega)).symm | exact v_leB (z := false) rfl rfl (decide_eq_false (by omega)).symm) rfl ?_
     refine wl_val (v_pick rfl) rfl ?_
     refine wl_val (v_assign' (by conv => (lhs; whnf))) rfl ?_
     refine wl_nil ?_
     refine then_go ?_
     refine wc_seq ?_
     refine wc_region ?_
     refine wl_val (v_move' (by conv => (lhs; whnf))) rfl ?_
     refine wl_val (by first | exact v_geB (z := true) rfl rfl (decide_eq_true (by omega)).symm | exact v_geB (z := false) rfl rfl (decide_eq_false (by omega)).symm) rfl ?_
     refine wl_val (v_move' (by conv => (lhs; whnf))) rfl ?_
     refine wl_on rfl rfl ?_
     refine wl_val (v_move' (by conv => (lhs; whnf))) rfl ?_
     refine wl_on rfl rfl ?_
     refine wl_val (by first | exact v_leB (z := true) rfl rfl (decide_eq_true (by omega)).symm | exact v_leB (z := false) rfl rfl (decide_eq_false (by omega)).symm) rfl ?_
     refine wl_val (v_pick rfl) rfl ?_
     refine wl_val (v_assign' (by conv => (lhs; whnf))) rfl ?_
     refine wl_nil ?_
     refine then_go ?_
     refine wc_seq ?_
     refine wc_region ?_
     refine wl_val (v_move' (by conv => (lhs; whnf))) rfl ?_
     refine wl_val (v_not rfl) rfl ?_
     refine wl_val (v_move' (by conv => (lhs; whnf))) rfl ?_
     refine wl_off rfl rfl rfl rfl ?_
     refine wl_off rfl rfl rfl rfl ?_
     refine wl_val (v_pick rfl) rfl ?_
     refine wl_val (v_move' (by conv => (lhs; whnf))) rfl ?_
     refine wl_off rfl rfl rfl rfl ?_
     refine wl_off rfl rfl rfl rfl ?_
     refine wl_val (v_pick rfl) rfl ?_
     refine wl_val (v_move' (by conv => (lhs; whnf))) rfl ?_
     refine wl_off rfl rfl rfl rfl ?_
     refine wl_off rfl rfl rfl rfl ?_
     refine wl_val (v_pick rfl) rfl ?_
     refine wl_nil ?_
     refine then_go ?_
     refine wc_false rfl ?_
     refine wc_skip ?_
     refine block_go (then_go ?_)
     refine wc_region ?_
     refine wl_val (v_move' (by conv => (lhs; whnf))) rfl ?_
     refine wl_val (v_add' rfl rfl rfl (by first | omega | (dsimp only at *; omega)) (by first | omega | (dsimp only at *; omega))) rfl ?_
     refine wl_val (v_assign' (by conv => (lhs; whnf))) rfl ?_
     refine wl_nil ?_
     refine then_go ?_
     have hch : nameCh n[i] := by unfold nameCh; omega
     refine ⟨q - 1, by simp; omega, i + 1, by omega, rfl, rfl, fun c hc => ?_, st⟩
     rw [List.take_succ_eq_append_getElem hi] at hc
     rcases List.mem_append.1 hc with h | h
     ·exact hall c h
     ·simp at h; rw [h]; exact hch
    ·by_cases hB : 48 ≤ n[i].toNat ∧ n[i].toNat ≤ 57
     ·refine wc_region ?_
      refine wl_val (v_move' (by conv => (lhs; whnf))) rfl ?_
      refine wl_val (by first | exact v_geB (z := true) rfl rfl (decide_eq_true (by omega)).symm | exact v_geB (z := false) rfl rfl (decide_eq_false (by omega)).symm) rfl ?_
      refine wl_val (v_move' (by conv => (lhs; whnf))) rfl ?_
      refine wl_off rfl rfl rfl rfl ?_
      refine wl_off rfl rfl rfl rfl ?_
      refine wl_val (v_pick rfl) rfl ?_
      refine wl_val (v_assign' (by conv => (lhs; whnf))) rfl ?_
      refine wl_nil ?_
      refine then_go ?_
      refine wc_seq ?_
      refine wc_region ?_
      refine wl_val (v_move' (by conv => (lhs; whnf))) rfl ?_
      refine wl_val (by first | exact v_geB (z := true) rfl rfl (decide_eq_true (by omega)).symm | exact v_geB (z := false) rfl rfl (decide_eq_false (by omega)).symm) rfl ?_
      refine wl_val (v_move' (by conv => (lhs; whnf))) rfl ?_
      refine wl_on rfl rfl ?_
      refine wl_val (v_move' (by conv => (lhs; whnf))) rfl ?_
      refine wl_on rfl rfl ?_
      refine wl_val (by first | exact v_leB (z := true) rfl rfl (decide_eq_true (by omega)).symm | exact v_leB (z := false) rfl rfl (decide_eq_false (by omega)).symm) rfl ?_
      refine wl_val (v_pick rfl) rfl ?_
      refine wl_val (v_assign' (by conv => (lhs; whnf))) rfl ?_
      refine wl_nil ?_
      refine then_go ?_
      refine wc_seq ?_
      refine wc_region ?_
      refine wl_val (v_move' (by conv => (lhs; whnf))) rfl ?_
      refine wl_val (v_not rfl) rfl ?_
      refine wl_val (v_move' (by conv => (lhs; whnf))) rfl ?_
      refine wl_on rfl rfl ?_
      refine wl_val (v_move' (by conv => (lhs; whnf))) rfl ?_
      refine wl_on rfl rfl ?_
      refine wl_val (v_not rfl) rfl ?_
      refine wl_val (v_pick rfl) rfl ?_
      refine wl_val (v_move' (by conv => (lhs; whnf))) rfl ?_
      refine wl_off rfl rfl rfl rfl ?_
      refine wl_off rfl rfl rfl rfl ?_
      refine wl_val (v_pick rfl) rfl ?_
      refine wl_val (v_move' (by conv => (lhs; whnf))) rfl ?_
      refine wl_off rfl rfl rfl rfl ?_
      refine wl_off rfl rfl rfl rfl ?_
      refine wl_val (v_pick rfl) rfl ?_
      refine wl_nil ?_
      refine then_go ?_
      refine wc_false rfl ?_
      refine wc_skip ?_
      refine block_go (then_go ?_)
      refine wc_region ?_
      refine wl_val (v_move' (by conv => (lhs; whnf))) rfl ?_
      refine wl_val (v_add' rfl rfl rfl (by first | omega | (dsimp only at *; omega)) (by first | omega | (dsimp only at *; omega))) rfl ?_
      refine wl_val (v_assign' (by conv => (lhs; whnf))) rfl ?_
      refine wl_nil ?_
      refine then_go ?_
      have hch : nameCh n[i] := by unfold nameCh; omega
      refine ⟨q - 1, by simp; omega, i + 1, by omega, rfl, rfl, fun c hc => ?_, st⟩
      rw [List.take_succ_eq_append_getElem hi] at hc
      rcases List.mem_append.1 hc with h | h
      ·exact hall c h
      ·simp at h; rw [h]; exact hch
     ·by_cases hC : n[i].toNat = 46
      ·refine wc_region ?_
       refine wl_val (v_move' (by conv => (lhs; whnf))) rfl ?_
       refine wl_val (by first | exact v_geB (z := true) rfl rfl (decide_eq_true (by omega)).symm | exact v_geB (z := false) rfl rfl (decide_eq_false (by omega)).symm) rfl ?_
       refine wl_val (v_move' (by conv => (lhs; whnf))) rfl ?_
       refine wl_off rfl rfl rfl rfl ?_
       refine wl_off rfl rfl rfl rfl ?_
       refine wl_val (v_pick rfl) rfl ?_
       refine wl_val (v_assign' (by conv => (lhs; whnf))) rfl ?_
       refine wl_nil ?_
       refine then_go ?_
       refine wc_seq ?_
       refine wc_region ?_
       refine wl_val (v_move' (by conv => (lhs; whnf))) rfl ?_
       refine wl_val (by first | exact v_geB (z := true) rfl rfl (decide_eq_true (by omega)).symm | exact v_geB (z := false) rfl rfl (decide_eq_false (by omega)).symm) rfl ?_
       refine wl_val (v_move' (by conv => (lhs; whnf))) rfl ?_
       refine wl_off rfl rfl rfl rfl ?_
       refine wl_off rfl rfl rfl rfl ?_
       refine wl_val (v_pick rfl) rfl ?_
       refine wl_val (v_assign' (by conv => (lhs; whnf))) rfl ?_
       refine wl_nil ?_
       refine then_go ?_
       refine wc_seq ?_
       refine wc_region ?_
       refine wl_val (v_move' (by conv => (lhs; whnf))) rfl ?_
       refine wl_val (v_not rfl) rfl ?_
       refine wl_val (v_move' (by conv => (lhs; whnf))) rfl ?_
       refine wl_on rfl rfl ?_
       refine wl_val (v_move' (by conv => (lhs; whnf))) rfl ?_
       refine wl_on rfl rfl ?_
       refine wl_val (v_not rfl) rfl ?_
       refine wl_val (v_pick rfl) rfl ?_
       refine wl_val (v_move' (by conv => (lhs; whnf))) rfl ?_
       refine wl_on rfl rfl ?_
       refine wl_val (v_move' (by conv => (lhs; whnf))) rfl ?_
       refine wl_on rfl rfl ?_
       refine wl_val (by first | exact v_neB (z := true) rfl rfl (decide_eq_true (by omega)).symm | exact v_neB (z := false) rfl rfl (decide_eq_false (by omega)).symm) rfl ?_
       refine wl_val (v_pick rfl) rfl ?_
       refine wl_val (v_move' (by conv => (lhs; whnf))) rfl ?_
       refine wl_off rfl rfl rfl rfl ?_
       refine wl_off rfl rfl rfl rfl ?_
       refine wl_val (v_pick rfl) rfl ?_
       refine wl_nil ?_
       refine then_go ?_
       refine wc_false rfl ?_
       refine wc_skip ?_
       refine block_go (then_go ?_)
       refine wc_region ?_
       refine wl_val (v_move' (by conv => (lhs; whnf))) rfl ?_
       refine wl_val (v_add' rfl rfl rfl (by first | omega | (dsimp only at *; omega)) (by first | omega | (dsimp only at *; omega))) rfl ?_
       refine wl_val (v_assign' (by conv => (lhs; whnf))) rfl ?_
       refine wl_nil ?_
       refine then_go ?_
       have hch : nameCh n[i] := by unfold nameCh; omega
       refine ⟨q - 1, by simp; omega, i + 1, by omega, rfl, rfl, fun c hc => ?_, st⟩
       rw [List.take_succ_eq_append_getElem hi] at hc
       rcases List.mem_append.1 hc with h | h
       ·exact hall c h
       ·simp at h; rw [h]; exact hch
      ·by_cases hE : n[i].toNat = 45
       ·refine wc_region ?_
        refine wl_val (v_move' (by conv => (lhs; whnf))) rfl ?_
        refine wl_val (by first | exact v_geB (z := true) rfl rfl (decide_eq_true (by omega)).symm | exact v_geB (z := false) rfl rfl (decide_eq_false (by omega)).symm) rfl ?_
        refine wl_val (v_move' (by conv => (lhs; whnf))) rfl ?_
        refine wl_off rfl rfl rfl rfl ?_
        refine wl_off rfl rfl rfl rfl ?_
        refine wl_val (v_pick rfl) rfl ?_
        refine wl_val (v_assign' (by conv => (lhs; whnf))) rfl ?_
        refine wl_nil ?_
        refine then_go ?_
        refine wc_seq ?_
        refine wc_region ?_
        refine wl_val (v_move' (by conv => (lhs; whnf))) rfl ?_
        refine wl_val (by first | exact v_geB (z := true) rfl rfl (decide_eq_true (by omega)).symm | exact v_geB (z := false) rfl rfl (decide_eq_false (by omega)).symm) rfl ?_
        refine wl_val (v_move' (by conv => (lhs; whnf))) rfl ?_
        refine wl_off rfl rfl rfl rfl ?_
        refine wl_off rfl rfl rfl rfl ?_
        refine wl_val (v_pick rfl) rfl ?_
        refine wl_val (v_assign' (by conv => (lhs; whnf))) rfl ?_
        refine wl_nil ?_
        refine then_go ?_
        refine wc_seq ?_
        refine wc_region ?_
        refine wl_val (v_move' (by conv => (lhs; whnf))) rfl ?_
        refine wl_val (v_not rfl) rfl ?_
        refine wl_val (v_move' (by conv => (lhs; whnf))) rfl ?_
        refine wl_on rfl rfl ?_
        refine wl_val (v_move' (by conv => (lhs; whnf))) rfl ?_
        refine wl_on rfl rfl ?_
        refine wl_val (v_not rfl) rfl ?_
        refine wl_val (v_pick rfl) rfl ?_
        refine wl_val (v_move' (by conv => (lhs; whnf))) rfl ?_
        refine wl_on rfl rfl ?_
        refine wl_val (v_move' (by conv => (lhs; whnf))) rfl ?_
        refine wl_on rfl rfl ?_
        refine wl_val (by first | exact v_neB (z := true) rfl rfl (decide_eq_true (by omega)).symm | exact v_neB (z := false) rfl rfl (decide_eq_false (by omega)).symm) rfl ?_
        refine wl_val (v_pick rfl) rfl ?_
        refine wl_val (v_move' (by conv => (lhs; whnf))) rfl ?_
        refine wl_on rfl rfl ?_
        refine wl_val (v_move' (by conv => (lhs; whnf))) rfl ?_
        refine wl_on rfl rfl ?_
        refine wl_val (by first | exact v_neB (z := true) rfl rfl (decide_eq_true (by omega)).symm | exact v_neB (z := false) rfl rfl (decide_eq_false (by omega)).symm) rfl ?_
        refine wl_val (v_pick rfl) rfl ?_
        refine wl_nil ?_
        refine then_go ?_
        refine wc_false rfl ?_
        refine wc_skip ?_
        refine block_go (then_go ?_)
        refine wc_region ?_
        refine wl_val (v_move' (by conv => (lhs; whnf))) rfl ?_
        refine wl_val (v_add' rfl rfl rfl (by first | omega | (dsimp only at *; omega)) (by first | omega | (dsimp only at *; omega))) rfl ?_
        refine wl_val (v_assign' (by conv => (lhs; whnf))) rfl ?_
        refine wl_nil ?_
        refine then_go ?_
        have hch : nameCh n[i] := by unfold nameCh; omega
        refine ⟨q - 1, by simp; omega, i + 1, by omega, rfl, rfl, fun c hc => ?_, st⟩
        rw [List.take_succ_eq_append_getElem hi] at hc
        rcases List.mem_append.1 hc with h | h
        ·exact hall c h
        ·simp at h; rw [h]; exact hch
       ·by_cases hF : 122 < n[i].toNat
        ·refine wc_region ?_
         refine wl_val (v_move' (by conv => (lhs; whnf))) rfl ?_
         refine wl_val (by first | exact v_geB (z := true) rfl rfl (decide_eq_true (by omega)).symm | exact v_geB (z := false) rfl rfl (decide_eq_false (by omega)).symm) rfl ?_
         refine wl_val (v_move' (by conv => (lhs; whnf))) rfl ?_
         refine wl_on rfl rfl ?_
         refine wl_val (v_move' (by conv => (lhs; whnf))) rfl ?_
         refine wl_on rfl rfl ?_
         refine wl_val (by first | exact v_leB (z := true) rfl rfl (decide_eq_true (by omega)).symm | exact v_leB (z := false) rfl rfl (decide_eq_false (by omega)).symm) rfl ?_
         refine wl_val (v_pick rfl) rfl ?_
         refine wl_val (v_assign' (by conv => (lhs; whnf))) rfl ?_
         refine wl_nil ?_
         refine then_go ?_
         refine wc_seq ?_
         refine wc_region ?_
         refine wl_val (v_move' (by conv => (lhs; whnf))) rfl ?_
         refine wl_val (by first | exact v_geB (z := true) rfl rfl (decide_eq_true (by omega)).symm | exact v_geB (z := false) rfl rfl (decide_eq_false (by omega)).symm) rfl ?_
         refine wl_val (v_move' (by conv => (lhs; whnf))) rfl ?_
         refine wl_on rfl rfl ?_
         refine wl_val (v_move' (by conv => (lhs; whnf))) rfl ?_
         refine wl_on rfl rfl ?_
         refine wl_val (by first | exact v_leB (z := true) rfl rfl (decide_eq_true (by omega)).symm | exact v_leB (z := false) rfl rfl (decide_eq_false (by omega)).symm) rfl ?_
         refine wl_val (v_pick rfl) rfl ?_
         refine wl_val (v_assign' (by conv => (lhs; whnf))) rfl ?_
         refine wl_nil ?_
         refine then_go ?_
         refine wc_seq ?_
         refine wc_region ?_
         refine wl_val (v_move' (by conv => (lhs; whnf))) rfl ?_
         refine wl_val (v_not rfl) rfl ?_
         refine wl_val (v_move' (by conv => (lhs; whnf))) rfl ?_
         refine wl_on rfl rfl ?_
         refine wl_val (v_move' (by conv => (lhs; whnf))) rfl ?_
         refine wl_on rfl rfl ?_
         refine wl_val (v_not rfl) rfl ?_
         refine wl_val (v_pick rfl) rfl ?_
         refine wl_val (v_move' (by conv => (lhs; whnf))) rfl ?_
         refine wl_on rfl rfl ?_
         refine wl_val (v_move' (by conv => (lhs; whnf))) rfl ?_
         refine wl_on rfl rfl ?_
         refine wl_val (by first | exact v_neB (z := true) rfl rfl (decide_eq_true (by omega)).symm | exact v_neB (z := false) rfl rfl (decide_eq_false (by omega)).symm) rfl ?_
         refine wl_val (v_pick rfl) rfl ?_
         refine wl_val (v_move' (by conv => (lhs; whnf))) rfl ?_
         refine wl_on rfl rfl ?_
         refine wl_val (v_move' (by conv => (lhs; whnf))) rfl ?_
         refine wl_on rfl rfl ?_
         refine wl_val (by first | exact v_neB (z := true) rfl rfl (decide_eq_true (by omega)).symm | exact v_neB (z := false) rfl rfl (decide_eq_false (by omega)).symm) rfl ?_
         refine wl_val (v_pick rfl) rfl ?_
         refine wl_nil ?_
         refine then_go ?_
         refine wc_true rfl ?_
         refine wc_seq ?_
         refine wc_region ?_
         refine wl_val (v_assign' (by conv => (lhs; whnf))) rfl ?_
         refine wl_nil ?_
         refine then_go ?_
         refine wc_ret (block_ret (then_ret (then_ret (block_ret (then_ret ?_)))))
         exact ret1 rfl ⟨st.touch, by rw [show decide (okName n) = false from decide_eq_false (fun hc => by rcases hc.1 _ (List.getElem_mem hi) with h | h | h | h <;> omega)]; rfl⟩
        ·by_cases hG : 58 ≤ n[i].toNat
         ·refine wc_region ?_
          refine wl_val (v_move' (by conv => (lhs; whnf))) rfl ?_
          refine wl_val (by first | exact v_geB (z := true) rfl rfl (decide_eq_true (by omega)).symm | exact v_geB (z := false) rfl rfl (decide_eq_false (by omega)).symm) rfl ?_
          refine wl_val (v_move' (by conv => (lhs; whnf))) rfl ?_
          refine wl_off rfl rfl rfl rfl ?_
          refine wl_off rfl rfl rfl rfl ?_
          refine wl_val (v_pick rfl) rfl ?_
          refine wl_val (v_assign' (by conv => (lhs; whnf))) rfl ?_
          refine wl_nil ?_
          refine then_go ?_
          refine wc_seq ?_
          refine wc_region ?_
          refine wl_val (v_move' (by conv => (lhs; whnf))) rfl ?_
          refine wl_val (by first | exact v_geB (z := true) rfl rfl (decide_eq_true (by omega)).symm | exact v_geB (z := false) rfl rfl (decide_eq_false (by omega)).symm) rfl ?_
          refine wl_val (v_move' (by conv => (lhs; whnf))) rfl ?_
          refine wl_on rfl rfl ?_
          refine wl_val (v_move' (by conv => (lhs; whnf))) rfl ?_
          refine wl_on rfl rfl ?_
          refine wl_val (by first | exact v_leB (z := true) rfl rfl (decide_eq_true (by omega)).symm | exact v_leB (z := false) rfl rfl (decide_eq_false (by omega)).symm) rfl ?_
          refine wl_val (v_pick rfl) rfl ?_
          refine wl_val (v_assign' (by conv => (lhs; whnf))) rfl ?_
          refine wl_nil ?_
          refine then_go ?_
          refine wc_seq ?_
          refine wc_region ?_
          refine wl_val (v_move' (by conv => (lhs; whnf))) rfl ?_
          refine wl_val (v_not rfl) rfl ?_
          refine wl_val (v_move' (by conv => (lhs; whnf))) rfl ?_
          refine wl_on rfl rfl ?_
          refine wl_val (v_move' (by conv => (lhs; whnf))) rfl ?_
          refine wl_on rfl rfl ?_
          refine wl_val (v_not rfl) rfl ?_
          refine wl_val (v_pick rfl) rfl ?_
          refine wl_val (v_move' (by conv => (lhs; whnf))) rfl ?_
          refine wl_on rfl rfl ?_
          refine wl_val (v_move' (by conv => (lhs; whnf))) rfl ?_
          refine wl_on rfl rfl ?_
          refine wl_val (by first | exact v_neB (z := true) rfl rfl (decide_eq_true (by omega)).symm | exact v_neB (z := false) rfl rfl (decide_eq_false (by omega)).symm) rfl ?_
          refine wl_val (v_pick rfl) rfl ?_
          refine wl_val (v_move' (by conv => (lhs; whnf))) rfl ?_
          refine wl_on rfl rfl ?_
          refine wl_val (v_move' (by conv => (lhs; whnf))) rfl ?_
          refine wl_on rfl rfl ?_
          refine wl_val (by first | exact v_neB (z := true) rfl rfl (decide_eq_true (by omega)).symm | exact v_neB (z := false) rfl rfl (decide_eq_false (by omega)).symm) rfl ?_
          refine wl_val (v_pick rfl) rfl ?_
          refine wl_nil ?_
          refine then_go ?_
          refine wc_true rfl ?_
          refine wc_seq ?_
          refine wc_region ?_
          refine wl_val (v_assign' (by conv => (lhs; whnf))) rfl ?_
          refine wl_nil ?_
          refine then_go ?_
          refine wc_ret (block_ret (then_ret (then_ret (block_ret (then_ret ?_)))))
          exact ret1 rfl ⟨st.touch, by rw [show decide (okName n) = false from decide_eq_false (fun hc => by rcases hc.1 _ (List.getElem_mem hi) with h | h | h | h <;> omega)]; rfl⟩
         ·refine wc_region ?_
          refine wl_val (v_move' (by conv => (lhs; whnf))) rfl ?_
          refine wl_val (by first | exact v_geB (z := true) rfl rfl (decide_eq_true (by omega)).symm | exact v_geB (z := false) rfl rfl (decide_eq_false (by omega)).symm) rfl ?_
          refine wl_val (v_move' (by conv => (lhs; whnf))) rfl ?_
          refine wl_off rfl rfl rfl rfl ?_
          refine wl_off rfl rfl rfl rfl ?_
          refine wl_val (v_pick rfl) rfl ?_
          refine wl_val (v_assign' (by conv => (lhs; whnf))) rfl ?_
          refine wl_nil ?_
          refine then_go ?_
          refine wc_seq ?_
          refine wc_region ?_
          refine wl_val (v_move' (by conv => (lhs; whnf))) rfl ?_
          refine wl_val (by first | exact v_geB (z := true) rfl rfl (decide_eq_true (by omega)).symm | exact v_geB (z := false) rfl rfl (decide_eq_false (by omega)).symm) rfl ?_
          refine wl_val (v_move' (by conv => (lhs; whnf))) rfl ?_
          refine wl_off rfl rfl rfl rfl ?_
          refine wl_off rfl rfl rfl rfl ?_
          refine wl_val (v_pick rfl) rfl ?_
          refine wl_val (v_assign' (by conv => (lhs; whnf))) rfl ?_
          refine wl_nil ?_
          refine then_go ?_
          refine wc_seq ?_
          refine wc_region ?_
          refine wl_val (v_move' (by conv => (lhs; whnf))) rfl ?_
          refine wl_val (v_not rfl) rfl ?_
          refine wl_val (v_move' (by conv => (lhs; whnf))) rfl ?_
          refine wl_on rfl rfl ?_
          refine wl_val (v_move' (by conv => (lhs; whnf))) rfl ?_
          refine wl_on rfl rfl ?_
          refine wl_val (v_not rfl) rfl ?_
          refine wl_val (v_pick rfl) rfl ?_
          refine wl_val (v_move' (by conv => (lhs; whnf))) rfl ?_
          refine wl_on rfl rfl ?_
          refine wl_val (v_move' (by conv => (lhs; whnf))) rfl ?_
          refine wl_on rfl rfl ?_
          refine wl_val (by first | exact v_neB (z := true) rfl rfl (decide_eq_true (by omega)).symm | exact v_neB (z := false) rfl rfl (decide_eq_false (by omega)).symm) rfl ?_
          refine wl_val (v_pick rfl) rfl ?_
          refine wl_val (v_move' (by conv => (lhs; whnf))) rfl ?_
          refine wl_on rfl rfl ?_
          refine wl_val (v_move' (by conv => (lhs; whnf))) rfl ?_
          refine wl_on rfl rfl ?_
          refine wl_val (by first | exact v_neB (z := true) rfl rfl (decide_eq_true (by omega)).symm | exact v_neB (z := false) rfl rfl (decide_eq_false (by omega)).symm) rfl ?_
          refine wl_val (v_pick rfl) rfl ?_
          refine wl_nil ?_
          refine then_go ?_
          refine wc_true rfl ?_
          refine wc_seq ?_
          refine wc_region ?_
          refine wl_val (v_assign' (by conv => (lhs; whnf))) rfl ?_
          refine wl_nil ?_
          refine then_go ?_
          refine wc_ret (block_ret (then_ret (then_ret (block_ret (then_ret ?_)))))
          exact ret1 rfl ⟨st.touch, by rw [show decide (okName n) = false from decide_eq_false (fun hc => by rcases hc.1 _ (List.getElem_mem hi) with h | h | h | h <;> omega)]; rfl⟩
   ·refine wc_exit (then_exit (then_exit (block_hit ?_)))
    refine then_go ?_
    refine wc_seq ?_
    refine wc_region ?_
    refine wl_val (v_assign' (by conv => (lhs; whnf))) rfl ?_
    refine wl_nil ?_
    refine then_go ?_
    refine wc_ret ?_
    have hiN : i = n.length := by omega
    subst hiN
    rw [List.take_length] at hall
    have hne : n ≠ [] := by intro e; rw [e] at hg3; exact hg3 (by decide)
    exact ret1 rfl ⟨st.touch, by rw [show decide (okName n) = true from decide_eq_true ⟨hall, hne, by omega⟩]; rfl⟩
end
end Go.Proofs.Ytjjpakjgppmmdaa
