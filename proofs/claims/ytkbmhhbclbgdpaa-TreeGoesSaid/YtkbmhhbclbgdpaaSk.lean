/-
  SHA-256: the program's New, Clone, Digest and Sum.
-/
import Derived.Test.YtkbmhhbclbgdpaaSj
namespace Go.Proofs.Ytkbmhhbclbgdpaa
open Go Go.RowKit K SH

namespace SH
theorem one_hashC {v : V8} {bk : List UInt8} {hv : Int} {n : UInt64} : ∀ u ∈ (hashC v bk hv n).toList, u.oneCell' = true := by
  intro u hu
  simp only [hashC, List.mem_append, List.mem_cons, List.not_mem_nil, or_false] at hu
  rcases hu with (h | h) | h | h
  · exact one_ws _ u h
  · exact one_bs _ u h
  · rw [h]; rfl
  · rw [h]; rfl

theorem hashAt_nil : HashAt [] (hashC h0 (List.replicate 64 0) 0 0) := ⟨h0, _, 0, rfl, ⟨rfl, rfl, by simp, rfl⟩⟩
end SH

section
variable {m : Mem} {wI : World}

theorem c_hnew (him : Im m wI) : Ret Try.prog 54 #[] wI fun v w' => ∃ b c, v = .pointer (some ⟨b, 0, none⟩) ∧ Tch wI w' [] [b] ∧ (K.blk b c 88).holds w' ∧ HashAt [] c := by
  have st := St.start him
  refine ret_of Try.call54 Try.func54 rfl Try.ntmps54 Try.results54 rfl ?_
  refine wc_seq ?_
  refine wc_region ?_
  refine wl_val (v_assign' (by conv => (lhs; whnf))) rfl ?_
  refine wl_nil ?_
  refine then_go ?_
  refine wc_seq ?_
  refine wc_region ?_
  refine wl_val (v_build_fill (c' := (ws h0.l).toArray) [(0, u32 1779033703), (1, u32 3144134277), (2, u32 1013904242), (3, u32 2773480762), (4, u32 1359893119), (5, u32 2600822924), (6, u32 528734635), (7, u32 1541459225)] TF.z81 Try.underlying81 TF.t80 rfl (fill8 _ _ _ _ _ _ _ _)) rfl ?_
  refine wl_val (v_build (c' := hashC h0 (List.replicate 64 0) 0 0) [(0, arr32 h0.l)] TF.z88 TF.p88 rfl (fill_one [] (List.replicate 8 (u32 0)) (List.replicate 64 (u8 0) ++ [.int .i64 0, u64 0]) rfl rfl rfl rfl)) rfl ?_
  refine wl_box (v := .agg (hashC h0 (List.replicate 64 0) 0 0)) rfl st rfl ?_
  intro b w st
  refine wl_val (v_assign' (by conv => (lhs; whnf))) rfl ?_
  refine wl_nil ?_
  refine then_go ?_
  refine wc_ret ?_
  have hf := (St.finish (Es := []) (l := [_]) st).1
  exact ret1 rfl ⟨b, _, rfl, ⟨hf.os, hf.tape, hf.output, hf.size, hf.block, fun k hk => hf.out k (by simpa [joinE, K.blk] using hk)⟩, st.at (i := 0) rfl, hashAt_nil⟩

theorem c_hclone {b : Nat} {v : V8} {bk : List UInt8} {hv : Int} {n : UInt64} {t : TypeId} {fr : Nat × Nat} (him : Im m wI) (hm : m b = some (.cells (hashC v bk hv n) t fr)) (hl : bk.length = 64) :
    Ret Try.prog 62 #[.pointer (some ⟨b, 0, none⟩)] wI fun v' w' => ∃ b', v' = .pointer (some ⟨b', 0, none⟩) ∧ Tch wI w' [] [b'] ∧ (K.blk b' (hashC v bk hv n) 88).holds w' := by
  have st := St.start him
  refine ret_of Try.call62 Try.func62 rfl Try.ntmps62 Try.results62 rfl ?_
  refine wc_seq ?_
  refine wc_region ?_
  refine wl_val (v_assign' (by conv => (lhs; whnf))) rfl ?_
  refine wl_nil ?_
  refine then_go ?_
  refine wc_seq ?_
  refine wc_region ?_
  refine wl_val (v_move' (by conv => (lhs; whnf))) rfl ?_
  refine wl_val (v_nil rfl) rfl ?_
  refine wl_val (v_load rfl (st.readm hm TF.t88 (getV_all (size_hashC hl)))) rfl ?_
  refine wl_alloc TF.z88 st rfl ?_
  intro b3 w st
  refine wl_storeW (cs := hashC v bk hv n) 0 st rfl TF.t88 rfl rfl (size_hashC hl) rfl one_hashC ?_
  intro w st
  refine wl_nil ?_
  refine then_go ?_
  refine wc_seq ?_
  refine wc_region ?_
  refine wl_val (v_assign' (by conv => (lhs; whnf))) rfl ?_
  refine wl_nil ?_
  refine then_go ?_
  refine wc_ret ?_
  have hf := (St.finish (Es := []) (l := [_]) st).1
  exact ret1 rfl ⟨b3, rfl, ⟨hf.os, hf.tape, hf.output, hf.size, hf.block, fun k hk => hf.out k (by simpa [joinE, K.blk] using hk)⟩, st.at (i := 0) rfl⟩

theorem c_hdigest {b : Nat} {L : List UInt8} {c : Array Value} {t : TypeId} {fr : Nat × Nat} (him : Im m wI) (hm : m b = some (.cells c t fr)) (hH : HashAt L c) (hL : L.length ≤ 1099511627776) :
    Ret Try.prog 56 #[.pointer (some ⟨b, 0, none⟩)] wI fun v w' => Tch wI w' [] [] ∧ v = arr (sum L) := by
  have st := St.start him
  obtain ⟨vs, bk, hv, rfl, hst⟩ := hH
  have hfl := full_le L
  have hfm := full_mod L (by omega)
  refine ret_of Try.call56 Try.func56 rfl Try.ntmps56 Try.results56 rfl ?_
  refine wc_seq ?_
  refine wc_region ?_
  refine wl_alloc TF.z24 st rfl ?_
  intro b2 w st
  refine wl_nil ?_
  refine then_go ?_
  refine wc_seq ?_
  refine wc_region ?_
  refine wl_val (v_move' (by conv => (lhs; whnf))) rfl ?_
  refine wl_call rfl (c_hclone st.im hm hst.len) rfl ?_
  rintro v9 w ⟨b3, rfl, t, hE⟩
  have st := st.new (E := K.blk b3 _ _) t hE
  refine wl_val (v_assign' (by conv => (lhs; whnf))) rfl ?_
  refine wl_nil ?_
  refine then_go ?_
  refine wc_seq ?_
  refine wc_region ?_
  refine wl_val (v_move' (by conv => (lhs; whnf))) rfl ?_
  refine wl_val (v_move' (by conv => (lhs; whnf))) rfl ?_
  refine wl_val (v_nil rfl) rfl ?_
  refine wl_val (v_fa TF.f88_3 rfl) rfl ?_
  refine wl_val (v_load rfl (st.readm hm TF.t46 (getV_bytes hst.len))) rfl ?_
  refine wl_call rfl (c_pad st.im) rfl ?_
  rintro v15 w ⟨t, m1, hg1, hi1, hp⟩
  have st := st.grown hg1 t hi1
  refine wl_call rfl (c_hwrite (L := L) st.im (st.at (i := 0) rfl) (st.none (i := 0) rfl b3 (by simp [K.blk])) ⟨vs, bk, hv, rfl, hst⟩ hp (by rw [length_pad]; have := zs_lt (UInt64.ofNat L.length).toNat; omega)) rfl ?_
  rintro v16 w ⟨c2, t, hE2, hH2⟩
  have st := st.step 0 rfl t hE2
  rw [show L ++ pad (UInt64.ofNat L.length) = full L from rfl] at hH2
  obtain ⟨v2, bk2, hv2, rfl, hst2⟩ := hH2
  have hsum : sum L = dig v2 := by rw [hst2.st]; rfl
  change St _ _ _ _ _ [K.blk b3 (hashC v2 bk2 (hv2 : Nat) (UInt64.ofNat (full L).length)) _, _] at st
  refine wl_nil ?_
  refine then_go ?_
  refine wc_seq ?_
  refine wc_region ?_
  refine wl_alloc TF.z24 st rfl ?_
  intro b4 w st
  refine wl_nil ?_
  refine then_go ?_
  refine wc_seq ?_
  refine wc_seq ?_
  refine wc_region ?_
  refine wl_val (v_move' (by conv => (lhs; whnf))) rfl ?_
  refine wl_val (v_nil rfl) rfl ?_
  refine wl_val (v_fa TF.f88_0 rfl) rfl ?_
  refine wl_val (v_load rfl (st.reads 1 rfl TF.t81 (getV_state ..))) rfl ?_
  refine wl_val (v_move' (by conv => (lhs; whnf))) rfl ?_
  refine wl_nil ?_
  refine then_go ?_
  refine wc_block ?_
  refine wc_loop (S := Nat) (fun q r w' => ∃ i, q + i = 8 ∧ r 2 = .pointer (some ⟨b2, 0, none⟩) ∧ r 4 = .pointer (some ⟨b4, 0, none⟩) ∧ r 20 = arr32 v2.l ∧ r 21 = .int .i64 i ∧
    St m m1 [] wI w' [K.blk b4 (bs ((List.range (4 * i)).map (digB v2)) ++ List.replicate (32 - 4 * i) (u8 0)).toArray 24, K.blk b3 (hashC v2 bk2 (hv2 : Nat) (UInt64.ofNat (full L).length)) 88, K.blk b2 (Array.replicate 32 (u8 0)) 24]) id 8 ⟨0, rfl, rfl, rfl, rfl, rfl, st⟩ ?_
  rintro q r w2 ⟨i, hqi, h2, h4, h20, h21, st⟩
  refine wc_o 2 h2 (wc_o 4 h4 (wc_o 20 h20 (wc_o 21 h21 ?_)))
  refine wc_seq ?_
  refine wc_region ?_
  refine wl_val (v_lss rfl rfl) rfl ?_
  refine wl_nil ?_
  refine then_go ?_
  refine wc_seq ?_
  refine wc_if rfl (fun h22 => ?_) (fun h22 => ?_)
  · refine wc_skip ?_
    refine then_go ?_
    refine wc_seq ?_
    refine wc_block ?_
    refine wc_seq ?_
    have hi : i < 8 := by omega
    refine wc_region ?_
    refine wl_val (v_move' (by conv => (lhs; whnf))) rfl ?_
    refine wl_val (v_index_a (v := u32 (v2.l.getD i 0)) Try.underlying81 TF.t80 rfl rfl (by omega) (by omega) (getV_wse (j := i) (by simp) (by rw [length_l]; omega))) rfl ?_
    refine wl_val (v_assign' (by conv => (lhs; whnf))) rfl ?_
    refine wl_val (v_assign' (by conv => (lhs; whnf))) rfl ?_
    refine wl_nil ?_
    refine then_go ?_
    refine wc_seq ?_
    refine wc_region ?_
    refine wl_val (v_move' (by conv => (lhs; whnf))) rfl ?_
    refine wl_nil ?_
    refine then_go ?_
    refine wc_block ?_
    refine wc_loop (S := Nat) (fun q r w' => ∃ k, q + k = 4 ∧ r 2 = .pointer (some ⟨b2, 0, none⟩) ∧ r 4 = .pointer (some ⟨b4, 0, none⟩) ∧ r 5 = .int .i64 i ∧ r 6 = u32 (v2.l.getD i 0) ∧ r 20 = arr32 v2.l ∧ r 21 = .int .i64 i ∧ r 25 = .int .i64 k ∧
      St m m1 [] wI w' [K.blk b4 (bs ((List.range (4 * i + k)).map (digB v2)) ++ List.replicate (32 - (4 * i + k)) (u8 0)).toArray 24, K.blk b3 (hashC v2 bk2 (hv2 : Nat) (UInt64.ofNat (full L).length)) 88, K.blk b2 (Array.replicate 32 (u8 0)) 24]) id 4 ⟨0, rfl, rfl, rfl, rfl, rfl, rfl, rfl, rfl, st⟩ ?_
    rintro q2 r w3 ⟨k, hqk, h2, h4, h5, h6, h20, h21, h25, st⟩
    refine wc_o 2 h2 (wc_o 4 h4 (wc_o 5 h5 (wc_o 6 h6 (wc_o 20 h20 (wc_o 21 h21 (wc_o 25 h25 ?_))))))
    refine wc_seq ?_
    refine wc_region ?_
    refine wl_val (v_lss rfl rfl) rfl ?_
    refine wl_nil ?_
    refine then_go ?_
    refine wc_seq ?_
    refine wc_if rfl (fun h26 => ?_) (fun h26 => ?_)
    · refine wc_skip ?_
      refine then_go ?_
      refine wc_seq ?_
      refine wc_block ?_
      refine wc_seq ?_
      have hk : k < 4 := by omega
      refine wc_region ?_
      refine wl_val (v_move' (by conv => (lhs; whnf))) rfl ?_
      refine wl_val (v_assign' (by conv => (lhs; whnf))) rfl ?_
      refine wl_nil ?_
      refine then_go ?_
      refine wc_region ?_
      refine wl_val (v_move' (by conv => (lhs; whnf))) rfl ?_
      refine wl_val (v_mul' (c := ((4 * i : Nat) : Int)) rfl rfl (by omega) (by omega) (by omega)) rfl ?_
      refine wl_val (v_move' (by conv => (lhs; whnf))) rfl ?_
      refine wl_val (v_add' (c := ((4 * i + k : Nat) : Int)) rfl rfl (by omega) (by omega) (by omega)) rfl ?_
      refine wl_val (v_move' (by conv => (lhs; whnf))) rfl ?_
      refine wl_val (v_move' (by conv => (lhs; whnf))) rfl ?_
      refine wl_val (v_mul' (c := ((8 * k : Nat) : Int)) rfl rfl (by omega) (by omega) (by omega)) rfl ?_
      refine wl_val (v_sub' (c := ((24 - 8 * k : Nat) : Int)) rfl rfl (by omega) (by omega) (by omega)) rfl ?_
      refine wl_val (v_shr32 (24 - 8 * k) rfl rfl (by first | omega | decide | (dsimp only at *; omega))) rfl ?_
      refine wl_val (v_conv32_8 Try.underlying80 Try.underlying5 rfl) rfl ?_
      refine wl_val (v_iaa (4 * i + k) Try.underlying24 TF.t5 rfl rfl (by first | rfl | omega) (by first | omega | (dsimp only at *; omega))) rfl ?_
      have hdb : UInt8.ofNat (shr32 (v2.l.getD i 0) (24 - 8 * k)).toNat = digB v2 (4 * i + k) := by
        unfold digB
        rw [show (4 * i + k) / 4 = i by omega, show (4 * i + k) % 4 = k by omega]
      refine wl_store1 (v := u8 (UInt8.ofNat (shr32 (v2.l.getD i 0) (24 - 8 * k)).toNat)) 0 st rfl TF.t5 rfl rfl rfl (by simp [bs]; omega) ?_
      intro w st
      refine wl_nil ?_
      refine block_go (then_go ?_)
      refine wc_region ?_
      refine wl_val (v_add' rfl rfl rfl (by first | omega | (dsimp only at *; omega)) (by first | omega | (dsimp only at *; omega))) rfl ?_
      refine wl_val (v_move' (by conv => (lhs; whnf))) rfl ?_
      refine wl_nil ?_
      refine then_go ?_
      refine ⟨q2 - 1, by simp; omega, k + 1, by omega, rfl, rfl, rfl, rfl, rfl, rfl, rfl, ?_⟩
      have e : (bs ((List.range (4 * i + k)).map (digB v2)) ++ List.replicate (32 - (4 * i + k)) (u8 0)).toArray.setIfInBounds (0 + (4 * i + k) * 1) (u8 (digB v2 (4 * i + k))) = (bs ((List.range (4 * i + (k + 1))).map (digB v2)) ++ List.replicate (32 - (4 * i + (k + 1))) (u8 0)).toArray := by
        rw [show 32 - (4 * i + k) = (32 - (4 * i + (k + 1))) + 1 by omega, List.replicate_succ, set_app (by simp [bs]), show 4 * i + (k + 1) = (4 * i + k) + 1 by omega, List.range_succ]
        simp [bs]
      rw [hdb] at st
      rw [← e]
      exact st
    · refine wc_exit (then_exit (then_exit (block_hit ?_)))
      refine block_go (then_go ?_)
      refine wc_region ?_
      refine wl_val (v_add' rfl rfl rfl (by first | omega | (dsimp only at *; omega)) (by first | omega | (dsimp only at *; omega))) rfl ?_
      refine wl_val (v_move' (by conv => (lhs; whnf))) rfl ?_
      refine wl_nil ?_
      refine then_go ?_
      have hk4 : k = 4 := by omega
      subst hk4
      refine ⟨q - 1, by simp; omega, i + 1, by omega, rfl, rfl, rfl, rfl, ?_⟩
      rw [show 4 * (i + 1) = 4 * i + 4 by omega]
      exact st
  · refine wc_exit (then_exit (then_exit (block_hit ?_)))
    refine then_go ?_
    refine wc_seq ?_
    have hi8 : i = 8 := by omega
    subst hi8
    have e : (bs ((List.range (4 * 8)).map (digB v2)) ++ List.replicate (32 - 4 * 8) (u8 0)).toArray = (bs (sum L)).toArray := by rw [hsum]; simp [dig]
    rw [e] at st
    refine wc_region ?_
    refine wl_val (v_load rfl (st.reads 0 rfl TF.t24 (getV_all (by simp [bs, length_sum])))) rfl ?_
    refine wl_storeW (cs := (bs (sum L)).toArray) 2 st rfl TF.t24 rfl rfl (by simp [bs, length_sum]) rfl (by simpa using one_bs _) ?_
    intro w st
    refine wl_nil ?_
    refine then_go ?_
    refine wc_ret ?_
    exact ret1c rfl (st.reads 2 rfl TF.t24 (getV_all (by simp [bs, length_sum]))) ⟨(st.keepOnly (l := []) (List.nil_sublist _)).touch, rfl⟩

theorem c_sum {bv : Value} {b : List UInt8} (him : Im m wI) (hb : SlM m bv 1 b.length (bs b)) (hl : b.length ≤ 1099511627776) :
    Ret Try.prog 47 #[bv] wI fun v w' => Tch wI w' [] [] ∧ v = arr (sum b) := by
  have st := St.start him
  refine ret_of Try.call47 Try.func47 rfl Try.ntmps47 Try.results47 rfl ?_
  refine wc_seq ?_
  refine wc_region ?_
  refine wl_alloc TF.z24 st rfl ?_
  intro b2 w st
  refine wl_nil ?_
  refine then_go ?_
  refine wc_seq ?_
  refine wc_region ?_
  refine wl_call rfl (c_hnew st.im) rfl ?_
  rintro v4 w ⟨b3, c3, rfl, t, hE, hH⟩
  have st := st.new (E := K.blk b3 c3 _) t hE
  refine wl_val (v_assign' (by conv => (lhs; whnf))) rfl ?_
  refine wl_nil ?_
  refine then_go ?_
  refine wc_seq ?_
  refine wc_region ?_
  refine wl_val (v_move' (by conv => (lhs; whnf))) rfl ?_
  refine wl_val (v_move' (by conv => (lhs; whnf))) rfl ?_
  refine wl_call rfl (c_hwrite st.im (st.at (i := 0) rfl) (st.none (i := 0) rfl b3 (by simp [K.blk])) hH hb (by simp; omega)) rfl ?_
  rintro v7 w ⟨c4, t, hE4, hH4⟩
  have st := st.step 0 rfl t hE4
  rw [List.nil_append] at hH4
  change St _ _ _ _ _ [K.blk b3 c4 _, _] at st
  refine wl_nil ?_
  refine then_go ?_
  refine wc_seq ?_
  refine wc_region ?_
  refine wl_val (v_move' (by conv => (lhs; whnf))) rfl ?_
  obtain ⟨ml, himl, _, hbl, _⟩ := st.lend (i := 0) rfl
  refine wl_call rfl (c_hdigest himl hbl hH4 hl) rfl ?_
  rintro v9 w ⟨t, rfl⟩
  have st := st.pure t
  refine wl_storeW (cs := (bs (sum b)).toArray) 1 st rfl TF.t24 rfl rfl (by simp [bs, length_sum]) rfl (by simpa using one_bs _) ?_
  intro w st
  refine wl_nil ?_
  refine then_go ?_
  refine wc_ret ?_
  exact ret1c rfl (st.reads 1 rfl TF.t24 (getV_all (by simp [bs, length_sum]))) ⟨(st.keepOnly (l := []) (List.nil_sublist _)).touch, rfl⟩
end
end Go.Proofs.Ytkbmhhbclbgdpaa
