/-
  What is hashed for a leaf, a node, nothing: the program's bytes and the reference's.
-/
import Derived.Test.YtkbmhhbclbgdpaaTa
namespace Go.Proofs.Ytkbmhhbclbgdpaa
open Go Go.RowKit K SH

section
variable {P : Program} {n : Nat} {ops : Array Oper} {Q : Po} {rest : List Oper} {r : Fr} {w : World} {d : Nat} {ty : TypeId} {pos : String} {after : Array Edge} {m0 m : Mem} {F : List Nat} {w0 : World} {Es : List Ent}

/-- Two pieces. -/
theorem wl_pcs2 {x y : Operand} {v1 v2 : Value} {l1 l2 : List UInt8} (st : St m0 m [] w0 w Es) (hx : ev r x = v1) (hy : ev r y = v2) (h1 : SlM m v1 1 l1.length (bs l1)) (h2 : SlM m v2 1 l2.length (bs l2)) (hd : Nat.blt d n = true)
    (kk : ∀ m' v' w', (∀ k o, m k = some o → m' k = some o) → St m0 m' [] w0 w' Es → PcsM m' v' [(l1, v1), (l2, v2)] → WL Try.prog n ops Q rest (upd d v' r) w') :
    WL Try.prog n ops Q (⟨some d, .buildSlice 74 2 #[(0, x), (1, y)], ty, pos, after, none⟩ :: rest) r w := by
  have o1 : v1.oneCell' = true := by obtain ⟨_, a, c, rfl, _⟩ := h1; rfl
  have o2 : v2.oneCell' = true := by obtain ⟨_, a, c, rfl, _⟩ := h2; rfl
  refine wl_buildSlice (c' := #[v1, v2]) [(0, v1), (1, v2)] Try.underlying74 TF.t66 TF.z66 (by decide) (by decide) (by simp [hx, hy]) (fill_one [] [.slice none 0 0] [.slice none 0 0] (by rw [show (Value.slice none 0 0).cells = Array.replicate (0 + 1) (Value.slice none 0 0) from rfl, madeCells_rep]; rfl) rfl (by rw [cells_one o1]; rfl) ?_) st hd ?_
  · rw [cells_one o1]
    refine fill_one [v1] [.slice none 0 0] [] rfl rfl (by rw [cells_one o2]; rfl) ?_
    rw [cells_one o2]
    rfl
  · intro b w' st'
    obtain ⟨m1, hg1, hm1, st1⟩ := st'.freeze (i := 0) rfl (by simp)
    refine kk m1 _ w' hg1.le st1 ⟨SlM.of hm1 (by simp) (Nat.le_refl _) (fun j u hj => by simpa using hj), ?_⟩
    intro z hz
    simp only [List.mem_cons, List.not_mem_nil, or_false] at hz
    rcases hz with rfl | rfl
    · exact h1.mono hg1.le
    · exact h2.mono hg1.le
end

section
variable {m : Mem} {wI : World}

theorem c_join {pv : Value} {L : List (List UInt8 × Value)} (him : Im m wI) (hp : PcsM m pv L) (hb : (joinB L).length ≤ 1099511627776) (hLl : L.length ≤ 1099511627776) :
    Ret Try.prog 60 #[pv] wI fun v w' => Out m wI w' fun m' => SlM m' v 1 (joinB L).length (bs (joinB L)) := by
  have st := St.start him
  have hp0 := hp
  obtain ⟨⟨_, pa, pc, rfl, _⟩, _⟩ := hp
  refine ret_of Try.call60 Try.func60 rfl Try.ntmps60 Try.results60 rfl ?_
  refine wc_seq ?_
  refine wc_region ?_
  refine wl_val (v_assign' (by conv => (lhs; whnf))) rfl ?_
  refine wl_nil ?_
  refine then_go ?_
  refine wc_seq ?_
  refine wc_region ?_
  refine wl_val (v_assign' (by conv => (lhs; whnf))) rfl ?_
  refine wl_nil ?_
  refine then_go ?_
  refine wc_seq ?_
  refine wc_seq ?_
  refine wc_region ?_
  refine wl_val (v_assign' (by conv => (lhs; whnf))) rfl ?_
  refine wl_nil ?_
  refine then_go ?_
  refine wc_block ?_
  have st := nilRow st 5 1
  change St _ _ _ _ _ [rowE _ _ 1 (joinB (L.take 0)).length (bs (joinB (L.take 0)))] at st
  refine wc_loop (S := Nat) (fun q r w' => ∃ i v, q + i = L.length ∧ r 0 = .slice pa L.length pc ∧ r 3 = v ∧ r 4 = .int .i64 i ∧ St m m [] wI w' [rowE v 5 1 (joinB (L.take i)).length (bs (joinB (L.take i)))]) id L.length ⟨0, _, by omega, rfl, rfl, rfl, st⟩ ?_
  rintro q r w2 ⟨i, v, hqi, h0, h3, h4, st⟩
  refine wc_o 0 h0 (wc_o 3 h3 (wc_o 4 h4 ?_))
  refine wc_seq ?_
  refine wc_seq ?_
  refine wc_region ?_
  refine wl_val (v_move' (by conv => (lhs; whnf))) rfl ?_
  refine wl_val (v_move' (by conv => (lhs; whnf))) rfl ?_
  refine wl_val (v_len_s Try.underlying74 rfl) rfl ?_
  refine wl_val (v_lss rfl rfl) rfl ?_
  refine wl_nil ?_
  refine then_go ?_
  refine wc_if rfl (fun h8 => ?_) (fun h8 => ?_)
  · refine wc_skip ?_
    refine then_go ?_
    refine wc_seq ?_
    refine wc_block ?_
    have hi : i < L.length := by omega
    have hjl2 := joinB_le (L := L) (i + 1)
    obtain ⟨lb, lo, lcap, hlv, hel, hrd⟩ := hp0.elem hi
    simp only [Value.slice.injEq] at hlv
    obtain ⟨hpa, _, _⟩ := hlv
    rw [hpa]
    rw [joinB_take hi, List.length_append] at hjl2
    refine wc_region ?_
    refine wl_val (v_move' (by conv => (lhs; whnf))) rfl ?_
    refine wl_val (v_move' (by conv => (lhs; whnf))) rfl ?_
    refine wl_val (v_move' (by conv => (lhs; whnf))) rfl ?_
    refine wl_val (v_ias i Try.underlying74 TF.t66 rfl rfl (by first | rfl | omega) (by first | omega | (dsimp only at *; omega))) rfl ?_
    refine wl_val (v_load rfl (hrd st.im)) rfl ?_
    refine wl_appB (l2 := L[i].1) st Try.underlying66 Try.underlying66 (.inr ⟨_, rfl⟩) TF.t5 TF.z5 rfl rfl (hel.src st.im (one_bs _)) (by omega) (by omega) rfl ?_
    intro v16 w st hv16
    refine wl_val (v_assign' (by conv => (lhs; whnf))) rfl ?_
    refine wl_nil ?_
    refine block_go (then_go ?_)
    refine wc_region ?_
    refine wl_val (v_move' (by conv => (lhs; whnf))) rfl ?_
    refine wl_val (v_add' rfl rfl rfl (by first | omega | (dsimp only at *; omega)) (by first | omega | (dsimp only at *; omega))) rfl ?_
    refine wl_val (v_assign' (by conv => (lhs; whnf))) rfl ?_
    refine wl_nil ?_
    refine then_go ?_
    refine ⟨q - 1, by simp; omega, i + 1, v16, by omega, rfl, rfl, rfl, ?_⟩
    rw [joinB_take hi]
    exact st
  · refine wc_exit (then_exit (then_exit (block_hit ?_)))
    refine then_go ?_
    refine wc_seq ?_
    refine wc_region ?_
    refine wl_val (v_move' (by conv => (lhs; whnf))) rfl ?_
    refine wl_val (v_assign' (by conv => (lhs; whnf))) rfl ?_
    refine wl_nil ?_
    refine then_go ?_
    refine wc_ret ?_
    have hiL : i = L.length := by omega
    subst hiL
    rw [List.take_length] at st
    exact ret1 rfl st.bytesOut

theorem c_sign {c : UInt8} {pv : Value} {L : List (List UInt8 × Value)} (him : Im m wI) (hp : PcsM m pv L) (hb : (joinB L).length ≤ 1000000000000) (hLl : L.length ≤ 1099511627776) :
    Ret Try.prog 50 #[u8 c, pv] wI fun v w' => Out m wI w' fun m' => SlM m' v 1 (c :: joinB L).length (bs (c :: joinB L)) := by
  have st := St.start him
  refine ret_of Try.call50 Try.func50 rfl Try.ntmps50 Try.results50 rfl ?_
  refine wc_seq ?_
  refine wc_region ?_
  refine wl_val (v_assign' (by conv => (lhs; whnf))) rfl ?_
  refine wl_nil ?_
  refine then_go ?_
  refine wc_seq ?_
  refine wc_region ?_
  refine wl_val (v_move' (by conv => (lhs; whnf))) rfl ?_
  refine wl_byte1 c Try.underlying66 TF.t5 TF.z5 rfl st rfl ?_
  intro b6 w st
  obtain ⟨m1, hg1, hm1, st⟩ := st.freeze (i := 0) rfl (by simp)
  change St _ _ _ _ _ [] at st
  have hs1 : SlM m1 (.slice (some ⟨b6, 0, none⟩) 1 1) 1 [c].length (bs [c]) := SlM.ofBlock (pre := []) (post := []) hm1 (by simp) rfl (Nat.le_refl _)
  refine wl_val (v_move' (by conv => (lhs; whnf))) rfl ?_
  refine wl_call rfl (c_join st.im (hp.mono hg1.le) (by omega) hLl) rfl ?_
  rintro v8 w ⟨t, m2, hg2, hi2, hs2⟩
  have st := st.grown hg2 t hi2
  refine wl_pcs2 st rfl rfl (hs1.mono hg2.le) hs2 rfl ?_
  intro m3 v9 w hle3 st hp3
  have hj : ∀ a b, joinB [([c], a), (joinB L, b)] = c :: joinB L := fun a b => by simp [joinB]
  refine wl_call rfl (c_join st.im hp3 (by rw [hj, List.length_cons]; omega) (by simp)) rfl ?_
  rintro v10 w ⟨t, m4, hg4, hi4, hs4⟩
  have st := st.grown hg4 t hi4
  rw [hj] at hs4
  refine wl_val (v_assign' (by conv => (lhs; whnf))) rfl ?_
  refine wl_nil ?_
  refine then_go ?_
  refine wc_ret ?_
  exact ret1 rfl (st.out hs4)

theorem c_leafb {x y : List UInt8} (him : Im m wI) (hx : x.length = 32) (hy : y.length = 32) :
    Ret Try.prog 46 #[arr x, arr y] wI fun v w' => Out m wI w' fun m' => SlM m' v 1 (76 :: (x ++ y)).length (bs (76 :: (x ++ y))) := by
  have st := St.start him
  refine ret_of Try.call46 Try.func46 rfl Try.ntmps46 Try.results46 rfl ?_
  refine wc_seq ?_
  refine wc_region ?_
  refine wl_box (v := arr x) rfl st rfl ?_
  intro b2 w st
  refine wl_box (v := arr y) rfl st rfl ?_
  intro b3 w st
  refine wl_val (v_assign' (by conv => (lhs; whnf))) rfl ?_
  refine wl_nil ?_
  obtain ⟨m1, hg1, hm1, st⟩ := st.freeze (i := 0) rfl (by simp)
  change St _ _ _ _ _ [_] at st
  obtain ⟨m2, hg2, hm2, st⟩ := st.freeze (i := 0) rfl (by simp)
  change St _ _ _ _ _ [] at st
  have hsx : SlM m2 (.slice (some ⟨b2, 0 + 0 * 1, none⟩) (32 - 0) (32 - 0)) 1 x.length (bs x) := by
    have := SlM.ofBlock (o := 0) (cap := 32) (l := x) (pre := []) (post := []) hm2 (by simp [arr, Value.cells]) rfl (by omega)
    rw [hx] at this ⊢
    exact this
  have hsy : SlM m2 (.slice (some ⟨b3, 0 + 0 * 1, none⟩) (32 - 0) (32 - 0)) 1 y.length (bs y) := by
    have := SlM.ofBlock (o := 0) (cap := 32) (l := y) (pre := []) (post := []) (hg2.le _ _ hm1) (by simp [arr, Value.cells]) rfl (by omega)
    rw [hy] at this ⊢
    exact this
  refine then_go ?_
  refine wc_seq ?_
  refine wc_draw TF.mixed ?_
  have st := st.pure (touch_drew _)
  refine fl_val 0 rfl (fun _ => (v_sla 0 32 Try.underlying24 TF.t5 rfl rfl rfl (by omega) (by omega) (by omega))) rfl (by kernel_rfl) ?_
  refine fl_val 1 rfl (fun _ => (v_sla 0 32 Try.underlying24 TF.t5 rfl rfl rfl (by omega) (by omega) (by omega))) rfl (by kernel_rfl) ?_
  refine fl_eff1 2 [] [] (by kernel_rfl) trivial rfl ?_
  refine wl_pcs2 st rfl rfl hsx hsy rfl ?_
  intro m3 v7 w hle3 st hp3
  refine wl_nil ⟨rfl, ?_⟩
  refine fl_eff1 3 [] [] (by kernel_rfl) trivial rfl ?_
  have hj : ∀ a b, joinB [(x, a), (y, b)] = x ++ y := fun a b => by simp [joinB]
  refine wl_call rfl (c_begin (c := 76) st.im hp3 (by rw [hj, List.length_append]; omega) (by simp)) rfl ?_
  rintro v8 w ⟨t, m4, hg4, hi4, hs4⟩
  have st := st.grown hg4 t hi4
  rw [hj] at hs4
  refine wl_nil ⟨rfl, ?_⟩
  refine fl_eff1 4 [] [] (by kernel_rfl) trivial rfl ?_
  refine wl_val (v_assign' (by conv => (lhs; whnf))) rfl ?_
  refine wl_nil ⟨rfl, ?_⟩
  refine fl_nil (by kernel_rfl) trivial ?_
  refine then_go ?_
  refine wc_ret ?_
  exact ret1 rfl (st.out hs4)

theorem c_nodeb {x y : List UInt8} (him : Im m wI) (hx : x.length = 32) (hy : y.length = 32) :
    Ret Try.prog 53 #[arr x, arr y] wI fun v w' => Out m wI w' fun m' => SlM m' v 1 (78 :: (x ++ y)).length (bs (78 :: (x ++ y))) := by
  have st := St.start him
  refine ret_of Try.call53 Try.func53 rfl Try.ntmps53 Try.results53 rfl ?_
  refine wc_seq ?_
  refine wc_region ?_
  refine wl_box (v := arr x) rfl st rfl ?_
  intro b2 w st
  refine wl_box (v := arr y) rfl st rfl ?_
  intro b3 w st
  refine wl_val (v_assign' (by conv => (lhs; whnf))) rfl ?_
  refine wl_nil ?_
  obtain ⟨m1, hg1, hm1, st⟩ := st.freeze (i := 0) rfl (by simp)
  change St _ _ _ _ _ [_] at st
  obtain ⟨m2, hg2, hm2, st⟩ := st.freeze (i := 0) rfl (by simp)
  change St _ _ _ _ _ [] at st
  have hsx : SlM m2 (.slice (some ⟨b2, 0 + 0 * 1, none⟩) (32 - 0) (32 - 0)) 1 x.length (bs x) := by
    have := SlM.ofBlock (o := 0) (cap := 32) (l := x) (pre := []) (post := []) hm2 (by simp [arr, Value.cells]) rfl (by omega)
    rw [hx] at this ⊢
    exact this
  have hsy : SlM m2 (.slice (some ⟨b3, 0 + 0 * 1, none⟩) (32 - 0) (32 - 0)) 1 y.length (bs y) := by
    have := SlM.ofBlock (o := 0) (cap := 32) (l := y) (pre := []) (post := []) (hg2.le _ _ hm1) (by simp [arr, Value.cells]) rfl (by omega)
    rw [hy] at this ⊢
    exact this
  refine then_go ?_
  refine wc_seq ?_
  refine wc_draw TF.mixed ?_
  have st := st.pure (touch_drew _)
  refine fl_val 0 rfl (fun _ => (v_sla 0 32 Try.underlying24 TF.t5 rfl rfl rfl (by omega) (by omega) (by omega))) rfl (by kernel_rfl) ?_
  refine fl_val 1 rfl (fun _ => (v_sla 0 32 Try.underlying24 TF.t5 rfl rfl rfl (by omega) (by omega) (by omega))) rfl (by kernel_rfl) ?_
  refine fl_eff1 2 [] [] (by kernel_rfl) trivial rfl ?_
  refine wl_pcs2 st rfl rfl hsx hsy rfl ?_
  intro m3 v7 w hle3 st hp3
  refine wl_nil ⟨rfl, ?_⟩
  refine fl_eff1 3 [] [] (by kernel_rfl) trivial rfl ?_
  have hj : ∀ a b, joinB [(x, a), (y, b)] = x ++ y := fun a b => by simp [joinB]
  refine wl_call rfl (c_begin (c := 78) st.im hp3 (by rw [hj, List.length_append]; omega) (by simp)) rfl ?_
  rintro v8 w ⟨t, m4, hg4, hi4, hs4⟩
  have st := st.grown hg4 t hi4
  rw [hj] at hs4
  refine wl_nil ⟨rfl, ?_⟩
  refine fl_eff1 4 [] [] (by kernel_rfl) trivial rfl ?_
  refine wl_val (v_assign' (by conv => (lhs; whnf))) rfl ?_
  refine wl_nil ⟨rfl, ?_⟩
  refine fl_nil (by kernel_rfl) trivial ?_
  refine then_go ?_
  refine wc_ret ?_
  exact ret1 rfl (st.out hs4)

theorem c_rleafb {x y : List UInt8} (him : Im m wI) (hx : x.length = 32) (hy : y.length = 32) :
    Ret Try.prog 39 #[arr x, arr y] wI fun v w' => Out m wI w' fun m' => SlM m' v 1 (76 :: (x ++ y)).length (bs (76 :: (x ++ y))) := by
  have st := St.start him
  refine ret_of Try.call39 Try.func39 rfl Try.ntmps39 Try.results39 rfl ?_
  refine wc_seq ?_
  refine wc_region ?_
  refine wl_box (v := arr x) rfl st rfl ?_
  intro b2 w st
  refine wl_box (v := arr y) rfl st rfl ?_
  intro b3 w st
  refine wl_val (v_assign' (by conv => (lhs; whnf))) rfl ?_
  refine wl_nil ?_
  obtain ⟨m1, hg1, hm1, st⟩ := st.freeze (i := 0) rfl (by simp)
  change St _ _ _ _ _ [_] at st
  obtain ⟨m2, hg2, hm2, st⟩ := st.freeze (i := 0) rfl (by simp)
  change St _ _ _ _ _ [] at st
  have hsx : SlM m2 (.slice (some ⟨b2, 0 + 0 * 1, none⟩) (32 - 0) (32 - 0)) 1 x.length (bs x) := by
    have := SlM.ofBlock (o := 0) (cap := 32) (l := x) (pre := []) (post := []) hm2 (by simp [arr, Value.cells]) rfl (by omega)
    rw [hx] at this ⊢
    exact this
  have hsy : SlM m2 (.slice (some ⟨b3, 0 + 0 * 1, none⟩) (32 - 0) (32 - 0)) 1 y.length (bs y) := by
    have := SlM.ofBlock (o := 0) (cap := 32) (l := y) (pre := []) (post := []) (hg2.le _ _ hm1) (by simp [arr, Value.cells]) rfl (by omega)
    rw [hy] at this ⊢
    exact this
  refine then_go ?_
  refine wc_seq ?_
  refine wc_draw TF.mixed ?_
  have st := st.pure (touch_drew _)
  refine fl_val 0 rfl (fun _ => (v_sla 0 32 Try.underlying24 TF.t5 rfl rfl rfl (by omega) (by omega) (by omega))) rfl (by kernel_rfl) ?_
  refine fl_val 1 rfl (fun _ => (v_sla 0 32 Try.underlying24 TF.t5 rfl rfl rfl (by omega) (by omega) (by omega))) rfl (by kernel_rfl) ?_
  refine fl_eff1 2 [] [] (by kernel_rfl) trivial rfl ?_
  refine wl_pcs2 st rfl rfl hsx hsy rfl ?_
  intro m3 v7 w hle3 st hp3
  refine wl_nil ⟨rfl, ?_⟩
  refine fl_eff1 3 [] [] (by kernel_rfl) trivial rfl ?_
  have hj : ∀ a b, joinB [(x, a), (y, b)] = x ++ y := fun a b => by simp [joinB]
  refine wl_call rfl (c_sign (c := 76) st.im hp3 (by rw [hj, List.length_append]; omega) (by simp)) rfl ?_
  rintro v8 w ⟨t, m4, hg4, hi4, hs4⟩
  have st := st.grown hg4 t hi4
  rw [hj] at hs4
  refine wl_nil ⟨rfl, ?_⟩
  refine fl_eff1 4 [] [] (by kernel_rfl) trivial rfl ?_
  refine wl_val (v_assign' (by conv => (lhs; whnf))) rfl ?_
  refine wl_nil ⟨rfl, ?_⟩
  refine fl_nil (by kernel_rfl) trivial ?_
  refine then_go ?_
  refine wc_ret ?_
  exact ret1 rfl (st.out hs4)

theorem c_rnodeb {x y : List UInt8} (him : Im m wI) (hx : x.length = 32) (hy : y.length = 32) :
    Ret Try.prog 41 #[arr x, arr y] wI fun v w' => Out m wI w' fun m' => SlM m' v 1 (78 :: (x ++ y)).length (bs (78 :: (x ++ y))) := by
  have st := St.start him
  refine ret_of Try.call41 Try.func41 rfl Try.ntmps41 Try.results41 rfl ?_
  refine wc_seq ?_
  refine wc_region ?_
  refine wl_box (v := arr x) rfl st rfl ?_
  intro b2 w st
  refine wl_box (v := arr y) rfl st rfl ?_
  intro b3 w st
  refine wl_val (v_assign' (by conv => (lhs; whnf))) rfl ?_
  refine wl_nil ?_
  obtain ⟨m1, hg1, hm1, st⟩ := st.freeze (i := 0) rfl (by simp)
  change St _ _ _ _ _ [_] at st
  obtain ⟨m2, hg2, hm2, st⟩ := st.freeze (i := 0) rfl (by simp)
  change St _ _ _ _ _ [] at st
  have hsx : SlM m2 (.slice (some ⟨b2, 0 + 0 * 1, none⟩) (32 - 0) (32 - 0)) 1 x.length (bs x) := by
    have := SlM.ofBlock (o := 0) (cap := 32) (l := x) (pre := []) (post := []) hm2 (by simp [arr, Value.cells]) rfl (by omega)
    rw [hx] at this ⊢
    exact this
  have hsy : SlM m2 (.slice (some ⟨b3, 0 + 0 * 1, none⟩) (32 - 0) (32 - 0)) 1 y.length (bs y) := by
    have := SlM.ofBlock (o := 0) (cap := 32) (l := y) (pre := []) (post := []) (hg2.le _ _ hm1) (by simp [arr, Value.cells]) rfl (by omega)
    rw [hy] at this ⊢
    exact this
  refine then_go ?_
  refine wc_seq ?_
  refine wc_draw TF.mixed ?_
  have st := st.pure (touch_drew _)
  refine fl_val 0 rfl (fun _ => (v_sla 0 32 Try.underlying24 TF.t5 rfl rfl rfl (by omega) (by omega) (by omega))) rfl (by kernel_rfl) ?_
  refine fl_val 1 rfl (fun _ => (v_sla 0 32 Try.underlying24 TF.t5 rfl rfl rfl (by omega) (by omega) (by omega))) rfl (by kernel_rfl) ?_
  refine fl_eff1 2 [] [] (by kernel_rfl) trivial rfl ?_
  refine wl_pcs2 st rfl rfl hsx hsy rfl ?_
  intro m3 v7 w hle3 st hp3
  refine wl_nil ⟨rfl, ?_⟩
  refine fl_eff1 3 [] [] (by kernel_rfl) trivial rfl ?_
  have hj : ∀ a b, joinB [(x, a), (y, b)] = x ++ y := fun a b => by simp [joinB]
  refine wl_call rfl (c_sign (c := 78) st.im hp3 (by rw [hj, List.length_append]; omega) (by simp)) rfl ?_
  rintro v8 w ⟨t, m4, hg4, hi4, hs4⟩
  have st := st.grown hg4 t hi4
  rw [hj] at hs4
  refine wl_nil ⟨rfl, ?_⟩
  refine fl_eff1 4 [] [] (by kernel_rfl) trivial rfl ?_
  refine wl_val (v_assign' (by conv => (lhs; whnf))) rfl ?_
  refine wl_nil ⟨rfl, ?_⟩
  refine fl_nil (by kernel_rfl) trivial ?_
  refine then_go ?_
  refine wc_ret ?_
  exact ret1 rfl (st.out hs4)

theorem c_emptyb (him : Im m wI) : Ret Try.prog 36 #[] wI fun v w' => Out m wI w' fun m' => SlM m' v 1 [(69 : UInt8)].length (bs [69]) := by
  have st := St.start him
  refine ret_of Try.call36 Try.func36 rfl Try.ntmps36 Try.results36 rfl ?_
  refine wc_seq ?_
  refine wc_region ?_
  refine wl_val (v_assign' (by conv => (lhs; whnf))) rfl ?_
  refine wl_nil ?_
  refine then_go ?_
  refine wc_seq ?_
  refine wc_region ?_
  refine wl_call rfl (c_begin (c := 69) (L := []) st.im ⟨SlM.nil, by simp⟩ (by simp [joinB]) (by simp)) rfl ?_
  rintro v1 w ⟨t, m2, hg2, hi2, hs2⟩
  have st := st.grown hg2 t hi2
  refine wl_val (v_assign' (by conv => (lhs; whnf))) rfl ?_
  refine wl_nil ?_
  refine then_go ?_
  refine wc_ret ?_
  exact ret1 rfl (st.out hs2)

theorem c_remptyb (him : Im m wI) : Ret Try.prog 38 #[] wI fun v w' => Out m wI w' fun m' => SlM m' v 1 [(69 : UInt8)].length (bs [69]) := by
  have st := St.start him
  refine ret_of Try.call38 Try.func38 rfl Try.ntmps38 Try.results38 rfl ?_
  refine wc_seq ?_
  refine wc_region ?_
  refine wl_val (v_assign' (by conv => (lhs; whnf))) rfl ?_
  refine wl_nil ?_
  refine then_go ?_
  refine wc_seq ?_
  refine wc_region ?_
  refine wl_byte1 69 Try.underlying66 TF.t5 TF.z5 rfl st rfl ?_
  intro b1 w st
  obtain ⟨m1, hg1, hm1, st⟩ := st.freeze (i := 0) rfl (by simp)
  change St _ _ _ _ _ [] at st
  have hs1 : SlM m1 (.slice (some ⟨b1, 0, none⟩) 1 1) 1 [(69 : UInt8)].length (bs [69]) := SlM.ofBlock (pre := []) (post := []) hm1 (by simp) rfl (Nat.le_refl _)
  refine wl_val (v_assign' (by conv => (lhs; whnf))) rfl ?_
  refine wl_nil ?_
  refine then_go ?_
  refine wc_ret ?_
  exact ret1 rfl (st.out hs1)

theorem c_tagsof {bv : Value} {b : List UInt8} (him : Im m wI) (hb : SlM m bv 1 b.length (bs b)) (hl : b.length ≤ 1099511627776) :
    Ret Try.prog 35 #[bv] wI fun v w' => Tch wI w' [] [] ∧ v = arr (sum b) := by
  have st := St.start him
  refine ret_of Try.call35 Try.func35 rfl Try.ntmps35 Try.results35 rfl ?_
  refine wc_seq ?_
  refine wc_region ?_
  refine wl_alloc TF.z24 st rfl ?_
  intro b2 w st
  refine wl_nil ?_
  refine then_go ?_
  refine wc_seq ?_
  refine wc_region ?_
  refine wl_val (v_move' (by conv => (lhs; whnf))) rfl ?_
  refine wl_call rfl (c_sum st.im hb hl) rfl ?_
  rintro v4 w ⟨t, rfl⟩
  have st := st.pure t
  refine wl_storeW (cs := (bs (sum b)).toArray) 0 st rfl TF.t24 rfl rfl (by simp [bs, length_sum]) rfl (by simpa using one_bs _) ?_
  intro w st
  refine wl_nil ?_
  refine then_go ?_
  refine wc_ret ?_
  exact ret1c rfl (st.reads 0 rfl TF.t24 (getV_all (by simp [bs, length_sum]))) ⟨(st.keepOnly (l := []) (List.nil_sublist _)).touch, rfl⟩

theorem c_ref3of {bv : Value} {b : List UInt8} (him : Im m wI) (hb : SlM m bv 1 b.length (bs b)) (hl : b.length ≤ 1099511627776) :
    Ret Try.prog 37 #[bv] wI fun v w' => Tch wI w' [] [] ∧ v = arr (sum b) := by
  have st := St.start him
  refine ret_of Try.call37 Try.func37 rfl Try.ntmps37 Try.results37 rfl ?_
  refine wc_seq ?_
  refine wc_region ?_
  refine wl_alloc TF.z24 st rfl ?_
  intro b2 w st
  refine wl_nil ?_
  refine then_go ?_
  refine wc_seq ?_
  refine wc_region ?_
  refine wl_val (v_move' (by conv => (lhs; whnf))) rfl ?_
  refine wl_call rfl (c_rsum st.im hb hl) rfl ?_
  rintro v4 w ⟨t, rfl⟩
  have st := st.pure t
  refine wl_storeW (cs := (bs (sum b)).toArray) 0 st rfl TF.t24 rfl rfl (by simp [bs, length_sum]) rfl (by simpa using one_bs _) ?_
  intro w st
  refine wl_nil ?_
  refine then_go ?_
  refine wc_ret ?_
  exact ret1c rfl (st.reads 0 rfl TF.t24 (getV_all (by simp [bs, length_sum]))) ⟨(st.keepOnly (l := []) (List.nil_sublist _)).touch, rfl⟩

theorem c_rempty (him : Im m wI) : Ret Try.prog 24 #[] wI fun v w' => Tch wI w' [] [] ∧ v = arr (sum [69]) := by
  have st := St.start him
  refine ret_of Try.call24 Try.func24 rfl Try.ntmps24 Try.results24 rfl ?_
  refine wc_seq ?_
  refine wc_region ?_
  refine wl_alloc TF.z24 st rfl ?_
  intro b0 w st
  refine wl_nil ?_
  refine then_go ?_
  refine wc_seq ?_
  refine wc_region ?_
  refine wl_call rfl (c_remptyb st.im) rfl ?_
  rintro v1 w ⟨t, m2, hg2, hi2, hs2⟩
  have st := st.grown hg2 t hi2
  refine wl_call rfl (c_ref3of st.im hs2 (by simp)) rfl ?_
  rintro v2 w ⟨t, rfl⟩
  have st := st.pure t
  refine wl_storeW (cs := (bs (sum [69])).toArray) 0 st rfl TF.t24 rfl rfl (by simp [bs, length_sum]) rfl (by simpa using one_bs _) ?_
  intro w st
  refine wl_nil ?_
  refine then_go ?_
  refine wc_ret ?_
  exact ret1c rfl (st.reads 0 rfl TF.t24 (getV_all (by simp [bs, length_sum]))) ⟨(st.keepOnly (l := []) (List.nil_sublist _)).touch, rfl⟩

theorem c_rleaf {x y : List UInt8} (him : Im m wI) (hx : x.length = 32) (hy : y.length = 32) :
    Ret Try.prog 25 #[arr x, arr y] wI fun v w' => Tch wI w' [] [] ∧ v = arr (sum (76 :: (x ++ y))) := by
  have st := St.start him
  refine ret_of Try.call25 Try.func25 rfl Try.ntmps25 Try.results25 rfl ?_
  refine wc_seq ?_
  refine wc_region ?_
  refine wl_box (v := arr x) rfl st rfl ?_
  intro b2 w st
  refine wl_box (v := arr y) rfl st rfl ?_
  intro b3 w st
  refine wl_alloc TF.z24 st rfl ?_
  intro b4 w st
  refine wl_nil ?_
  refine then_go ?_
  refine wc_seq ?_
  refine wc_region ?_
  refine wl_val (v_load rfl (st.reads 2 rfl TF.t24 (getV_all (by simp [arr, Value.cells, bs, hx])))) rfl ?_
  refine wl_val (v_load rfl (st.reads 1 rfl TF.t24 (getV_all (by simp [arr, Value.cells, bs, hy])))) rfl ?_
  refine wl_call rfl (c_rleafb st.im hx hy) rfl ?_
  rintro v7 w ⟨t, m2, hg2, hi2, hs2⟩
  have st := st.grown hg2 t hi2
  refine wl_call rfl (c_ref3of st.im hs2 (by simp; omega)) rfl ?_
  rintro v8 w ⟨t, rfl⟩
  have st := st.pure t
  refine wl_storeW (cs := (bs (sum (76 :: (x ++ y)))).toArray) 0 st rfl TF.t24 rfl rfl (by simp [bs, length_sum]) rfl (by simpa using one_bs _) ?_
  intro w st
  refine wl_nil ?_
  refine then_go ?_
  refine wc_ret ?_
  exact ret1c rfl (st.reads 0 rfl TF.t24 (getV_all (by simp [bs, length_sum]))) ⟨(st.keepOnly (l := []) (List.nil_sublist _)).touch, rfl⟩

theorem c_rnode {x y : List UInt8} (him : Im m wI) (hx : x.length = 32) (hy : y.length = 32) :
    Ret Try.prog 27 #[arr x, arr y] wI fun v w' => Tch wI w' [] [] ∧ v = arr (sum (78 :: (x ++ y))) := by
  have st := St.start him
  refine ret_of Try.call27 Try.func27 rfl Try.ntmps27 Try.results27 rfl ?_
  refine wc_seq ?_
  refine wc_region ?_
  refine wl_box (v := arr x) rfl st rfl ?_
  intro b2 w st
  refine wl_box (v := arr y) rfl st rfl ?_
  intro b3 w st
  refine wl_alloc TF.z24 st rfl ?_
  intro b4 w st
  refine wl_nil ?_
  refine then_go ?_
  refine wc_seq ?_
  refine wc_region ?_
  refine wl_val (v_load rfl (st.reads 2 rfl TF.t24 (getV_all (by simp [arr, Value.cells, bs, hx])))) rfl ?_
  refine wl_val (v_load rfl (st.reads 1 rfl TF.t24 (getV_all (by simp [arr, Value.cells, bs, hy])))) rfl ?_
  refine wl_call rfl (c_rnodeb st.im hx hy) rfl ?_
  rintro v7 w ⟨t, m2, hg2, hi2, hs2⟩
  have st := st.grown hg2 t hi2
  refine wl_call rfl (c_ref3of st.im hs2 (by simp; omega)) rfl ?_
  rintro v8 w ⟨t, rfl⟩
  have st := st.pure t
  refine wl_storeW (cs := (bs (sum (78 :: (x ++ y)))).toArray) 0 st rfl TF.t24 rfl rfl (by simp [bs, length_sum]) rfl (by simpa using one_bs _) ?_
  intro w st
  refine wl_nil ?_
  refine then_go ?_
  refine wc_ret ?_
  exact ret1c rfl (st.reads 0 rfl TF.t24 (getV_all (by simp [bs, length_sum]))) ⟨(st.keepOnly (l := []) (List.nil_sublist _)).touch, rfl⟩
end
end Go.Proofs.Ytkbmhhbclbgdpaa
