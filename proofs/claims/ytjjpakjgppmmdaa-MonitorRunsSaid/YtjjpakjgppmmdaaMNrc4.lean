/-
  Several texts as one: Qb Qc Qd Qe Qf Qg Qh Qi Qj.
-/
import Derived.Lib.ConvBytes
import Derived.Laws.AppendOwn
import Derived.Test.YtjjpakjgppmmdaaMNrc3

namespace Go.Proofs.Ytjjpakjgppmmdaa
open Go Go.RowKit K SH PT
structure Bd where
 name : By
 key : By
 serial : UInt64
 deriving DecidableEq
def bdC (b : Bd) (kv : Value) : List Value := [.string (strB b.name), kv, u64 b.serial]
def BdM (m : Mem) (v : Value) (b : Bd) : Prop := ∃ kv, v = .agg (bdC b kv).toArray ∧ SlM m kv 1 b.key.length (bs b.key) ∧ b.name.length ≤ 9223372036854775807
theorem BdM.mono {m m' : Mem} {v : Value} {b : Bd} (h : BdM m v b) (hm : ∀ k o, m k = some o → m' k = some o) : BdM m' v b := by
 obtain ⟨kv, h1, h2, h3⟩ := h
 exact ⟨kv, h1, h2.mono hm, h3⟩
def checkE (n key : By) : Int := if ¬ okName n then 4 else if key.length = 0 ∨ 64 < key.length then 5 else 0
def rightP (p : Prf) : Prop := p.S.length ≤ 256 ∧ (p.E = 1 ∨ p.E = 0 ∧ p.I = z32 ∧ p.V = z32)
instance {p : Prf} : Decidable (rightP p) := by unfold rightP; infer_instance
def endB (p : Prf) : By := if p.E = 1 then 76 :: (p.I ++ p.V) else [69]
section
variable {m : Mem} {wI : World}
theorem c_reccheck {v : Value} {b : Bd} (him : Im m wI) (hb : BdM m v b) : Ret Try.prog 48 #[v] wI fun v' w' => Tch wI w' [] [] ∧ v' = .int .i64 (checkE b.name b.key) := by
 have st := St.start him
 obtain ⟨kv, rfl, hk, hn⟩ := hb
 obtain ⟨_, ka, kc, rfl, _⟩ := id hk
 refine ret_of Try.call48 Try.func48 rfl Try.ntmps48 Try.results48 rfl ?_
 refine wc_seq ?_
 refine wc_region ?_
 refine wl_box (v := .agg (bdC b (.slice ka b.key.length kc)).toArray) rfl st rfl ?_
 intro b1 w st
 refine wl_val (v_assign' (by conv => (lhs; whnf))) rfl ?_
 refine wl_nil ?_
 refine then_go ?_
 refine wc_seq ?_
 refine wc_block ?_
 refine wc_seq ?_
 refine wc_region ?_
 refine wl_val (v_fa TF.f43_0 rfl) rfl ?_
 refine wl_val (v_load rfl (st.reads (v := .string (strB b.name)) 0 rfl TF.t9 rfl)) rfl ?_
 refine wl_call rfl (c_recname st.im hn) rfl ?_
 rintro v6 w ⟨t6, rfl⟩
 have st := st.pure t6
 refine wl_val (v_not rfl) rfl ?_
 refine wl_val (v_assign' (by conv => (lhs; whnf))) rfl ?_
 refine wl_nil ?_
 refine then_go ?_
 refine wc_cond rfl (fun h3 => ?_) (fun h3 => ?_)
 ·refine wc_seq ?_
  refine wc_region ?_
  refine wl_val (v_assign' (by conv => (lhs; whnf))) rfl ?_
  refine wl_nil ?_
  refine then_go ?_
  refine wc_ret (block_ret (then_ret ?_))
  have hno : ¬ okName b.name := by simpa using h3
  exact ret1 rfl ⟨(st.keepOnly (l := []) (List.nil_sublist _)).touch, by rw [checkE, if_pos hno]; rfl⟩
 ·refine wc_seq ?_
  refine wc_region ?_
  refine wl_val (v_fa TF.f43_1 rfl) rfl ?_
  refine wl_val (v_load rfl (st.reads (v := .slice ka b.key.length kc) 0 rfl TF.t41 rfl)) rfl ?_
  refine wl_val (v_len_s Try.underlying41 rfl) rfl ?_
  refine wl_val (v_eql rfl rfl) rfl ?_
  refine wl_val (v_move' (by conv => (lhs; whnf))) rfl ?_
  by_cases hg4 : (b.key.length : Int) = 0
  ·rw [show decide ((b.key.length : Int) = 0) = true from decide_eq_true hg4]
   refine wl_off rfl rfl rfl rfl ?_
   refine wl_off rfl rfl rfl rfl ?_
   refine wl_off rfl rfl rfl rfl ?_
   refine wl_off rfl rfl rfl rfl ?_
   refine wl_val (v_pick rfl) rfl ?_
   refine wl_val (v_assign' (by conv => (lhs; whnf))) rfl ?_
   refine wl_nil ?_
   refine then_go ?_
   refine wc_true rfl ?_
   refine wc_seq ?_
   refine wc_region ?_
   refine wl_val (v_assign' (by conv => (lhs; whnf))) rfl ?_
   refine wl_nil ?_
   refine then_go ?_
   refine wc_ret (block_ret (then_ret ?_))
   have hyes : okName b.name := by simpa using h3
   exact ret1 rfl ⟨(st.keepOnly (l := []) (List.nil_sublist _)).touch, by rw [checkE, if_neg (not_not_intro hyes), if_pos (.inl (by omega))]; rfl⟩
  ·rw [show decide ((b.key.length : Int) = 0) = false from decide_eq_false hg4]
   refine wl_on rfl rfl ?_
   refine wl_val (v_fa TF.f43_1 rfl) rfl ?_
   refine wl_on rfl rfl ?_
   refine wl_val (v_load rfl (st.reads (v := .slice ka b.key.length kc) 0 rfl TF.t41 rfl)) rfl ?_
   refine wl_on rfl rfl ?_
   refine wl_val (v_len_s Try.underlying41 rfl) rfl ?_
   refine wl_on rfl rfl ?_
   refine wl_val (v_gtr rfl rfl) rfl ?_
   refine wl_val (v_pick rfl) rfl ?_
   refine wl_val (v_assign' (by conv => (lhs; whnf))) rfl ?_
   refine wl_nil ?_
   refine then_go ?_
   refine wc_if rfl (fun h8 => ?_) (fun h8 => ?_)
   ·refine wc_seq ?_
    refine wc_region ?_
    refine wl_val (v_assign' (by conv => (lhs; whnf))) rfl ?_
    refine wl_nil ?_
    refine then_go ?_
    refine wc_ret (block_ret (then_ret ?_))
    have hyes : okName b.name := by simpa using h3
    exact ret1 rfl ⟨(st.keepOnly (l := []) (List.nil_sublist _)).touch, by rw [checkE, if_neg (not_not_intro hyes), if_pos (.inr (by omega))]; rfl⟩
   ·refine wc_skip ?_
    refine block_go (then_go ?_)
    refine wc_seq ?_
    refine wc_region ?_
    refine wl_val (v_assign' (by conv => (lhs; whnf))) rfl ?_
    refine wl_nil ?_
    refine then_go ?_
    refine wc_ret ?_
    have hyes : okName b.name := by simpa using h3
    exact ret1 rfl ⟨(st.keepOnly (l := []) (List.nil_sublist _)).touch, by rw [checkE, if_neg (not_not_intro hyes), if_neg (by omega)]; rfl⟩
theorem c_r5check {kv : Value} {n key : By} (him : Im m wI) (hk : SlM m kv 1 key.length (bs key)) (hn : n.length ≤ 9223372036854775807) : Ret Try.prog 55 #[.string (strB n), kv] wI fun v' w' => Tch wI w' [] [] ∧ v' = .int .i64 (checkE n key) := by
 have st := St.start him
 obtain ⟨_, ka, kc, rfl, _⟩ := id hk
 refine ret_of Try.call55 Try.func55 rfl Try.ntmps55 Try.results55 rfl ?_
 refine wc_seq ?_
 refine wc_region ?_
 refine wl_val (v_assign' (by conv => (lhs; whnf))) rfl ?_
 refine wl_nil ?_
 refine then_go ?_
 refine wc_seq ?_
 refine wc_seq ?_
 refine wc_region ?_
 refine wl_val (v_move' (by conv => (lhs; whnf))) rfl ?_
 refine wl_call rfl (c_r5name st.im hn) rfl ?_
 rintro v6 w ⟨t6, rfl⟩
 have st := st.pure t6
 refine wl_val (v_not rfl) rfl ?_
 refine wl_nil ?_
 refine then_go ?_
 refine wc_cond rfl (fun h7 => ?_) (fun h7 => ?_)
 ·refine wc_seq ?_
  refine wc_region ?_
  refine wl_val (v_assign' (by conv => (lhs; whnf))) rfl ?_
  refine wl_nil ?_
  refine then_go ?_
  refine wc_ret (then_ret ?_)
  have hno : ¬ okName n := by simpa using h7
  exact ret1 rfl ⟨st.touch, by rw [checkE, if_pos hno]; rfl⟩
 ·refine wc_skip ?_
  refine then_go ?_
  refine wc_seq ?_
  refine wc_seq ?_
  refine wc_region ?_
  refine wl_val (v_move' (by conv => (lhs; whnf))) rfl ?_
  refine wl_val (v_len_s Try.underlying41 rfl) rfl ?_
  refine wl_val (v_lss rfl rfl) rfl ?_
  refine wl_val (v_move' (by conv => (lhs; whnf))) rfl ?_
  by_cases hg3 : (key.length : Int) < 1
  ·rw [show decide ((key.length : Int) < 1) = true from decide_eq_true hg3]
   refine wl_off rfl rfl rfl rfl ?_
   refine wl_off rfl rfl rfl rfl ?_
   refine wl_off rfl rfl rfl rfl ?_
   refine wl_val (v_pick rfl) rfl ?_
   refine wl_nil ?_
   refine then_go ?_
   refine wc_true rfl ?_
   refine wc_seq ?_
   refine wc_region ?_
   refine wl_val (v_assign' (by conv => (lhs; whnf))) rfl ?_
   refine wl_nil ?_
   refine then_go ?_
   refine wc_ret (then_ret ?_)
   have hyes : okName n := by simpa using h7
   exact ret1 rfl ⟨st.touch, by rw [checkE, if_neg (not_not_intro hyes), if_pos (.inl (by omega))]; rfl⟩
  ·rw [show decide ((key.length : Int) < 1) = false from decide_eq_false hg3]
   refine wl_on rfl rfl ?_
   refine wl_val (v_move' (by conv => (lhs; whnf))) rfl ?_
   refine wl_on rfl rfl ?_
   refine wl_val (v_len_s Try.underlying41 rfl) rfl ?_
   refine wl_on rfl rfl ?_
   refine wl_val (v_gtr rfl rfl) rfl ?_
   refine wl_val (v_pick rfl) rfl ?_
   refine wl_nil ?_
   refine then_go ?_
   refine wc_if rfl (fun h15 => ?_) (fun h15 => ?_)
   ·refine wc_seq ?_
    refine wc_region ?_
    refine wl_val (v_assign' (by conv => (lhs; whnf))) rfl ?_
    refine wl_nil ?_
    refine then_go ?_
    refine wc_ret (then_ret ?_)
    have hyes : okName n := by simpa using h7
    exact ret1 rfl ⟨st.touch, by rw [checkE, if_neg (not_not_intro hyes), if_pos (.inr (by omega))]; rfl⟩
   ·refine wc_skip ?_
    refine then_go ?_
    refine wc_seq ?_
    refine wc_region ?_
    refine wl_val (v_assign' (by conv => (lhs; whnf))) rfl ?_
    refine wl_nil ?_
    refine then_go ?_
    refine wc_ret ?_
    have hyes : okName n := by simpa using h7
    exact ret1 rfl ⟨st.touch, by rw [checkE, if_neg (not_not_intro hyes), if_neg (by omega)]; rfl⟩
theorem v_z32 {r : Fr} {w : World} {ty : TypeId} : Val Try.prog (.build 23 #[]) ty r w (arr z32) w :=
 v_build_a (c' := (bs z32).toArray) [] TF.z23 Try.underlying23 TF.t5 rfl rfl
theorem c_right {v : Value} {p : Prf} (him : Im m wI) (hp : PrM m v p) : Ret Try.prog 74 #[v] wI fun v' w' => Tch wI w' [] [] ∧ v' = .bool (decide (rightP p)) := by
 have st := St.start him
 obtain ⟨sv, rfl, hs, hI, hV⟩ := hp
 obtain ⟨sa, sc, rfl⟩ := hs.sl
 refine ret_of Try.call74 Try.func74 rfl Try.ntmps74 Try.results74 rfl ?_
 refine wc_seq ?_
 refine wc_region ?_
 refine wl_box (v := .agg (prC (.slice sa p.S.length sc) p.E p.I p.V)) rfl st rfl ?_
 intro b1 w st
 refine wl_val (v_assign' (by conv => (lhs; whnf))) rfl ?_
 refine wl_nil ?_
 refine then_go ?_
 refine wc_seq ?_
 refine wc_region ?_
 refine wl_val (v_fa TF.f40_2 rfl) rfl ?_
 refine wl_val (v_load rfl (st.reads (v := arr p.I) 0 rfl TF.t23 (prC_I hI))) rfl ?_
 refine wl_val v_z32 rfl ?_
 refine wl_val (v_eqD rfl rfl hI rfl) rfl ?_
 refine wl_val (v_move' (by conv => (lhs; whnf))) rfl ?_
 by_cases hg4 : p.I = z32
 ·rw [show decide (p.I = z32) = true from decide_eq_true hg4]
  refine wl_on rfl rfl ?_
  refine wl_val (v_fa TF.f40_3 rfl) rfl ?_
  refine wl_on rfl rfl ?_
  refine wl_val (v_load rfl (st.reads (v := arr p.V) 0 rfl TF.t23 (prC_V hI hV))) rfl ?_
  refine wl_on rfl rfl ?_
  refine wl_val v_z32 rfl ?_
  refine wl_on rfl rfl ?_
  refine wl_val (v_eqD rfl rfl hV rfl) rfl ?_
  refine wl_val (v_pick rfl) rfl ?_
  refine wl_val (v_assign' (by conv => (lhs; whnf))) rfl ?_
  refine wl_nil ?_
  refine then_go ?_
  refine wc_seq ?_
  have hI0 := hg4
  refine wc_region ?_
  refine wl_val (v_fa TF.f40_0 rfl) rfl ?_
  refine wl_val (v_load rfl (st.reads (v := .slice sa p.S.length sc) 0 rfl TF.t38 prC_S)) rfl ?_
  refine wl_val (v_len_s Try.underlying38 rfl) rfl ?_
  refine wl_val (v_leq rfl rfl) rfl ?_
  refine wl_val (v_move' (by conv => (lhs; whnf))) rfl ?_
  by_cases hg4 : (p.S.length : Int) ≤ 256
  ·rw [show decide ((p.S.length : Int) ≤ 256) = true from decide_eq_true hg4]
   refine wl_on rfl rfl ?_
   refine wl_val (v_fa TF.f40_1 rfl) rfl ?_
   refine wl_on rfl rfl ?_
   refine wl_val (v_load rfl (st.reads (v := .int .i64 p.E) 0 rfl TF.t3 prC_E)) rfl ?_
   refine wl_on rfl rfl ?_
   refine wl_val (v_eql rfl rfl) rfl ?_
   refine wl_on rfl rfl ?_
   refine wl_val (v_move' (by conv => (lhs; whnf))) rfl ?_
   by_cases hg8 : p.E = 1
   ·rw [show decide (p.E = 1) = true from decide_eq_true hg8]
    refine wl_off rfl rfl rfl rfl ?_
    refine wl_off rfl rfl rfl rfl ?_
    refine wl_off rfl rfl rfl rfl ?_
    refine wl_off rfl rfl rfl rfl ?_
    refine offU rfl rfl rfl ?_
    refine wl_off rfl rfl rfl rfl ?_
    refine wl_on rfl rfl ?_
    refine wl_val (v_pick rfl) rfl ?_
    refine wl_val (v_pick rfl) rfl ?_
    refine wl_val (v_assign' (by conv => (lhs; whnf))) rfl ?_
    refine wl_nil ?_
    refine then_go ?_
    refine wc_ret ?_
    exact ret1 rfl ⟨(st.keepOnly (l := []) (List.nil_sublist _)).touch, by rw [show decide (rightP p) = true from decide_eq_true ⟨by omega, .inl hg8⟩]; rfl⟩
   ·rw [show decide (p.E = 1) = false from decide_eq_false hg8]
    refine wl_on rfl rfl ?_
    refine wl_val (v_fa TF.f40_1 rfl) rfl ?_
    refine wl_on rfl rfl ?_
    refine wl_val (v_load rfl (st.reads (v := .int .i64 p.E) 0 rfl TF.t3 prC_E)) rfl ?_
    refine wl_on rfl rfl ?_
    refine wl_val (v_eql rfl rfl) rfl ?_
    refine wl_on rfl rfl ?_
    refine wl_val (v_move' (by conv => (lhs; whnf))) rfl ?_
    by_cases hg12 : p.E = 0
    ·rw [show decide (p.E = 0) = true from decide_eq_true hg12]
     refine wl_on rfl rfl ?_
     refine wl_val (v_move' (by conv => (lhs; whnf))) rfl ?_
     refine wl_on rfl rfl ?_
     refine wl_val (v_pick rfl) rfl ?_
     refine wl_on rfl rfl ?_
     refine wl_val (v_pick rfl) rfl ?_
     refine wl_val (v_pick rfl) rfl ?_
     refine wl_val (v_assign' (by conv => (lhs; whnf))) rfl ?_
     refine wl_nil ?_
     refine then_go ?_
     refine wc_ret ?_
     exact ret1 rfl ⟨(st.keepOnly (l := []) (List.nil_sublist _)).touch, by rw [show decide (rightP p) = decide (p.V = z32) from decide_eq_decide.2 ⟨fun h => (h.2.resolve_left hg8).2.2, fun h => ⟨by omega, .inr ⟨hg12, hI0, h⟩⟩⟩]; rfl⟩
    ·rw [show decide (p.E = 0) = false from decide_eq_false hg12]
     refine wl_off rfl rfl rfl rfl ?_
     refine wl_on rfl rfl ?_
     refine wl_val (v_pick rfl) rfl ?_
     refine wl_on rfl rfl ?_
     refine wl_val (v_pick rfl) rfl ?_
     refine wl_val (v_pick rfl) rfl ?_
     refine wl_val (v_assign' (by conv => (lhs; whnf))) rfl ?_
     refine wl_nil ?_
     refine then_go ?_
     refine wc_ret ?_
     exact ret1 rfl ⟨(st.keepOnly (l := []) (List.nil_sublist _)).touch, by rw [show decide (rightP p) = false from decide_eq_false (fun h => hg12 (h.2.resolve_left hg8).1)]; rfl⟩
  ·rw [show decide ((p.S.length : Int) ≤ 256) = false from decide_eq_false hg4]
   refine wl_off rfl rfl rfl rfl ?_
   refine wl_off rfl rfl rfl rfl ?_
   refine wl_off rfl rfl rfl rfl ?_
   refine wl_off rfl rfl rfl rfl ?_
   refine offU rfl rfl rfl ?_
   refine offU rfl rfl rfl ?_
   refine offU rfl rfl rfl ?_
   refine offU rfl rfl rfl ?_
   refine offU rfl rfl rfl ?_
   refine offU rfl rfl rfl ?_
   refine wl_off rfl rfl rfl rfl ?_
   refine wl_val (v_pick rfl) rfl ?_
   refine wl_val (v_assign' (by conv => (lhs; whnf))) rfl ?_
   refine wl_nil ?_
   refine then_go ?_
   refine wc_ret ?_
   exact ret1 rfl ⟨(st.keepOnly (l := []) (List.nil_sublist _)).touch, by rw [show decide (rightP p) = false from decide_eq_false (fun h => by have := h.1; omega)]; rfl⟩
 ·rw [show decide (p.I = z32) = false from decide_eq_false hg4]
  refine wl_off rfl rfl rfl rfl ?_
  refine wl_off rfl rfl rfl rfl ?_
  refine wl_off rfl rfl rfl rfl ?_
  refine wl_off rfl rfl rfl rfl ?_
  refine wl_val (v_pick rfl) rfl ?_
  refine wl_val (v_assign' (by conv => (lhs; whnf))) rfl ?_
  refine wl_nil ?_
  refine then_go ?_
  refine wc_seq ?_
  have hI0 := hg4
  refine wc_region ?_
  refine wl_val (v_fa TF.f40_0 rfl) rfl ?_
  refine wl_val (v_load rfl (st.reads (v := .slice sa p.S.length sc) 0 rfl TF.t38 prC_S)) rfl ?_
  refine wl_val (v_len_s Try.underlying38 rfl) rfl ?_
  refine wl_val (v_leq rfl rfl) rfl ?_
  refine wl_val (v_move' (by conv => (lhs; whnf))) rfl ?_
  by_cases hg4 : (p.S.length : Int) ≤ 256
  ·rw [show decide ((p.S.length : Int) ≤ 256) = true from decide_eq_true hg4]
   refine wl_on rfl rfl ?_
   refine wl_val (v_fa TF.f40_1 rfl) rfl ?_
   refine wl_on rfl rfl ?_
   refine wl_val (v_load rfl (st.reads (v := .int .i64 p.E) 0 rfl TF.t3 prC_E)) rfl ?_
   refine wl_on rfl rfl ?_
   refine wl_val (v_eql rfl rfl) rfl ?_
   refine wl_on rfl rfl ?_
   refine wl_val (v_move' (by conv => (lhs; whnf))) rfl ?_
   by_cases hg8 : p.E = 1
   ·rw [show decide (p.E = 1) = true from decide_eq_true hg8]
    refine wl_off rfl rfl rfl rfl ?_
    refine wl_off rfl rfl rfl rfl ?_
    refine wl_off rfl rfl rfl rfl ?_
    refine wl_off rfl rfl rfl rfl ?_
    refine offU rfl rfl rfl ?_
    refine wl_off rfl rfl rfl rfl ?_
    refine wl_on rfl rfl ?_
    refine wl_val (v_pick rfl) rfl ?_
    refine wl_val (v_pick rfl) rfl ?_
    refine wl_val (v_assign' (by conv => (lhs; whnf))) rfl ?_
    refine wl_nil ?_
    refine then_go ?_
    refine wc_ret ?_
    exact ret1 rfl ⟨(st.keepOnly (l := []) (List.nil_sublist _)).touch, by rw [show decide (rightP p) = true from decide_eq_true ⟨by omega, .inl hg8⟩]; rfl⟩
   ·rw [show decide (p.E = 1) = false from decide_eq_false hg8]
    refine wl_on rfl rfl ?_
    refine wl_val (v_fa TF.f40_1 rfl) rfl ?_
    refine wl_on rfl rfl ?_
    refine wl_val (v_load rfl (st.reads (v := .int .i64 p.E) 0 rfl TF.t3 prC_E)) rfl ?_
    refine wl_on rfl rfl ?_
    refine wl_val (v_eql rfl rfl) rfl ?_
    refine wl_on rfl rfl ?_
    refine wl_val (v_move' (by conv => (lhs; whnf))) rfl ?_
    by_cases hg12 : p.E = 0
    ·rw [show decide (p.E = 0) = true from decide_eq_true hg12]
     refine wl_on rfl rfl ?_
     refine wl_val (v_move' (by conv => (lhs; whnf))) rfl ?_
     refine wl_on rfl rfl ?_
     refine wl_val (v_pick rfl) rfl ?_
     refine wl_on rfl rfl ?_
     refine wl_val (v_pick rfl) rfl ?_
     refine wl_val (v_pick rfl) rfl ?_
     refine wl_val (v_assign' (by conv => (lhs; whnf))) rfl ?_
     refine wl_nil ?_
     refine then_go ?_
     refine wc_ret ?_
     exact ret1 rfl ⟨(st.keepOnly (l := []) (List.nil_sublist _)).touch, by rw [show decide (rightP p) = false from decide_eq_false (fun h => hI0 (h.2.resolve_left hg8).2.1)]; rfl⟩
    ·rw [show decide (p.E = 0) = false from decide_eq_false hg12]
     refine wl_off rfl rfl rfl rfl ?_
     refine wl_on rfl rfl ?_
     refine wl_val (v_pick rfl) rfl ?_
     refine wl_on rfl rfl ?_
     refine wl_val (v_pick rfl) rfl ?_
     refine wl_val (v_pick rfl) rfl ?_
     refine wl_val (v_assign' (by conv => (lhs; whnf))) rfl ?_
     refine wl_nil ?_
     refine then_go ?_
     refine wc_ret ?_
     exact ret1 rfl ⟨(st.keepOnly (l := []) (List.nil_sublist _)).touch, by rw [show decide (rightP p) = false from decide_eq_false (fun h => hg12 (h.2.resolve_left hg8).1)]; rfl⟩
  ·rw [show decide ((p.S.length : Int) ≤ 256) = false from decide_eq_false hg4]
   refine wl_off rfl rfl rfl rfl ?_
   refine wl_off rfl rfl rfl rfl ?_
   refine wl_off rfl rfl rfl rfl ?_
   refine wl_off rfl rfl rfl rfl ?_
   refine offU rfl rfl rfl ?_
   refine offU rfl rfl rfl ?_
   refine offU rfl rfl rfl ?_
   refine offU rfl rfl rfl ?_
   refine offU rfl rfl rfl ?_
   refine offU rfl rfl rfl ?_
   refine wl_off rfl rfl rfl rfl ?_
   refine wl_val (v_pick rfl) rfl ?_
   refine wl_val (v_assign' (by conv => (lhs; whnf))) rfl ?_
   refine wl_nil ?_
   refine then_go ?_
   refine wc_ret ?_
   exact ret1 rfl ⟨(st.keepOnly (l := []) (List.nil_sublist _)).touch, by rw [show decide (rightP p) = false from decide_eq_false (fun h => by have := h.1; omega)]; rfl⟩
theorem c_rright {v : Value} {p : Prf} (him : Im m wI) (hp : PrM m v p) : Ret Try.prog 77 #[v] wI fun v' w' => Tch wI w' [] [] ∧ v' = .bool (decide (rightP p)) := by
 have st := St.start him
 obtain ⟨sv, rfl, hs, hI, hV⟩ := hp
 obtain ⟨sa, sc, rfl⟩ := hs.sl
 refine ret_of Try.call77 Try.func77 rfl Try.ntmps77 Try.results77 rfl ?_
 refine wc_seq ?_
 refine wc_region ?_
 refine wl_box (v := .agg (prC (.slice sa p.S.length sc) p.E p.I p.V)) rfl st rfl ?_
 intro b1 w st
 refine wl_val (v_assign' (by conv => (lhs; whnf))) rfl ?_
 refine wl_nil ?_
 refine then_go ?_
 refine wc_seq ?_
 refine wc_seq ?_
 refine wc_region ?_
 refine wl_val (v_fa TF.f40_0 rfl) rfl ?_
 refine wl_val (v_load rfl (st.reads (v := .slice sa p.S.length sc) 0 rfl TF.t38 prC_S)) rfl ?_
 refine wl_val (v_len_s Try.underlying38 rfl) rfl ?_
 refine wl_val (v_gtr rfl rfl) rfl ?_
 refine wl_val (v_move' (by conv => (lhs; whnf))) rfl ?_
 by_cases hg4 : (256 : Int) < (p.S.length : Int)
 ·rw [show decide ((256 : Int) < (p.S.length : Int)) = true from decide_eq_true hg4]
  refine wl_off rfl rfl rfl rfl ?_
  refine wl_off rfl rfl rfl rfl ?_
  refine wl_off rfl rfl rfl rfl ?_
  refine wl_off rfl rfl rfl rfl ?_
  refine offU rfl rfl rfl ?_
  refine offU rfl rfl rfl ?_
  refine offU rfl rfl rfl ?_
  refine wl_off rfl rfl rfl rfl ?_
  refine wl_val (v_pick rfl) rfl ?_
  refine wl_nil ?_
  refine then_go ?_
  refine wc_true rfl ?_
  refine wc_seq ?_
  refine wc_region ?_
  refine wl_val (v_assign' (by conv => (lhs; whnf))) rfl ?_
  refine wl_nil ?_
  refine then_go ?_
  refine wc_ret (then_ret ?_)
  refine ret1 rfl ⟨(st.keepOnly (l := []) (List.nil_sublist _)).touch, ?_⟩
  first
   | (rw [show decide (rightP p) = false from decide_eq_false (fun h => by have := h.1; omega)]; rfl)
   | (rw [show decide (rightP p) = true from decide_eq_true ⟨by omega, .inl (by omega)⟩]; rfl)
   | (rw [show decide (rightP p) = decide (p.V = z32) from decide_eq_decide.2 ⟨fun h => (h.2.resolve_left (by omega)).2.2, fun h => ⟨by omega, .inr ⟨by omega, hg8, h⟩⟩⟩]; rfl)
   | (rw [show decide (rightP p) = false from decide_eq_false (fun h => hg8 (h.2.resolve_left (by omega)).2.1)]; rfl)
   | (rw [show decide (rightP p) = false from decide_eq_false (fun h => by rcases h.2 with h2 | ⟨h2, _⟩ <;> omega)]; rfl)
 ·rw [show decide ((256 : Int) < (p.S.length : Int)) = false from decide_eq_false hg4]
  refine wl_on rfl rfl ?_
  refine wl_val (v_fa TF.f40_1 rfl) rfl ?_
  refine wl_on rfl rfl ?_
  refine wl_val (v_load rfl (st.reads (v := .int .i64 p.E) 0 rfl TF.t3 prC_E)) rfl ?_
  refine wl_on rfl rfl ?_
  refine wl_val (v_neq rfl rfl) rfl ?_
  refine wl_on rfl rfl ?_
  refine wl_val (v_move' (by conv => (lhs; whnf))) rfl ?_
  by_cases hg8 : ¬ p.E = 0
  ·rw [show decide (¬ p.E = 0) = true from decide_eq_true hg8]
   refine wl_on rfl rfl ?_
   refine wl_val (v_fa TF.f40_1 rfl) rfl ?_
   refine wl_on rfl rfl ?_
   refine wl_val (v_load rfl (st.reads (v := .int .i64 p.E) 0 rfl TF.t3 prC_E)) rfl ?_
   refine wl_on rfl rfl ?_
   refine wl_val (v_neq rfl rfl) rfl ?_
   refine wl_on rfl rfl ?_
   refine wl_val (v_pick rfl) rfl ?_
   refine wl_val (v_pick rfl) rfl ?_
   refine wl_nil ?_
   refine then_go ?_
   refine wc_if rfl (fun h16 => ?_) (fun h16 => ?_)
   ·refine wc_seq ?_
    refine wc_region ?_
    refine wl_val (v_assign' (by conv => (lhs; whnf))) rfl ?_
    refine wl_nil ?_
    refine then_go ?_
    refine wc_ret (then_ret ?_)
    refine ret1 rfl ⟨(st.keepOnly (l := []) (List.nil_sublist _)).touch, ?_⟩
    first
     | (rw [show decide (rightP p) = false from decide_eq_false (fun h => by have := h.1; omega)]; rfl)
     | (rw [show decide (rightP p) = true from decide_eq_true ⟨by omega, .inl (by omega)⟩]; rfl)
     | (rw [show decide (rightP p) = decide (p.V = z32) from decide_eq_decide.2 ⟨fun h => (h.2.resolve_left (by omega)).2.2, fun h => ⟨by omega, .inr ⟨by omega, hg8, h⟩⟩⟩]; rfl)
     | (rw [show decide (rightP p) = false from decide_eq_false (fun h => hg8 (h.2.resolve_left (by omega)).2.1)]; rfl)
     | (rw [show decide (rightP p) = false from decide_eq_false (fun h => by rcases h.2 with h2 | ⟨h2, _⟩ <;> omega)]; rfl)
   ·refine wc_skip ?_
    refine then_go ?_
    refine wc_seq ?_
    refine wc_region ?_
    refine wl_val (v_fa TF.f40_1 rfl) rfl ?_
    refine wl_val (v_load rfl (st.reads (v := .int .i64 p.E) 0 rfl TF.t3 prC_E)) rfl ?_
    refine wl_val (v_eql rfl rfl) rfl ?_
    refine wl_val (v_move' (by conv => (lhs; whnf))) rfl ?_
    by_cases hg3 : p.E = 1
    ·rw [show decide (p.E = 1) = true from decide_eq_true hg3]
     refine wl_off rfl rfl rfl rfl ?_
     refine wl_off rfl rfl rfl rfl ?_
     refine wl_off rfl rfl rfl rfl ?_
     refine wl_off rfl rfl rfl rfl ?_
     refine wl_off rfl rfl rfl rfl ?_
     refine offU rfl rfl rfl ?_
     refine offU rfl rfl rfl ?_
     refine offU rfl rfl rfl ?_
     refine offU rfl rfl rfl ?_
     refine wl_off rfl rfl rfl rfl ?_
     refine wl_val (v_pick rfl) rfl ?_
     refine wl_val (v_assign' (by conv => (lhs; whnf))) rfl ?_
     refine wl_nil ?_
     refine then_go ?_
     refine wc_ret ?_
     refine ret1 rfl ⟨(st.keepOnly (l := []) (List.nil_sublist _)).touch, ?_⟩
     first
      | (rw [show decide (rightP p) = false from decide_eq_false (fun h => by have := h.1; omega)]; rfl)
      | (rw [show decide (rightP p) = true from decide_eq_true ⟨by omega, .inl (by omega)⟩]; rfl)
      | (rw [show decide (rightP p) = decide (p.V = z32) from decide_eq_decide.2 ⟨fun h => (h.2.resolve_left (by omega)).2.2, fun h => ⟨by omega, .inr ⟨by omega, hg8, h⟩⟩⟩]; rfl)
      | (rw [show decide (rightP p) = false from decide_eq_false (fun h => hg8 (h.2.resolve_left (by omega)).2.1)]; rfl)
      | (rw [show decide (rightP p) = false from decide_eq_false (fun h => by rcases h.2 with h2 | ⟨h2, _⟩ <;> omega)]; rfl)
    ·rw [show decide (p.E = 1) = false from decide_eq_false hg3]
     refine wl_on rfl rfl ?_
     refine wl_val (v_fa TF.f40_2 rfl) rfl ?_
     refine wl_on rfl rfl ?_
     refine wl_val (v_load rfl (st.reads (v := arr p.I) 0 rfl TF.t23 (prC_I hI))) rfl ?_
     refine wl_on rfl rfl ?_
     refine wl_val v_z32 rfl ?_
     refine wl_on rfl rfl ?_
     refine wl_val (v_eqD rfl rfl hI rfl) rfl ?_
     refine wl_on rfl rfl ?_
     refine wl_val (v_move' (by conv => (lhs; whnf))) rfl ?_
     by_cases hg8 : p.I = z32
     ·rw [show decide (p.I = z32) = true from decide_eq_true hg8]
      refine wl_on rfl rfl ?_
      refine wl_val (v_fa TF.f40_3 rfl) rfl ?_
      refine wl_on rfl rfl ?_
      refine wl_val (v_load rfl (st.reads (v := arr p.V) 0 rfl TF.t23 (prC_V hI hV))) rfl ?_
      refine wl_on rfl rfl ?_
      refine wl_val v_z32 rfl ?_
      refine wl_on rfl rfl ?_
      refine wl_val (v_eqD rfl rfl hV rfl) rfl ?_
      refine wl_on rfl rfl ?_
      refine wl_val (v_pick rfl) rfl ?_
      refine wl_val (v_pick rfl) rfl ?_
      refine wl_val (v_assign' (by conv => (lhs; whnf))) rfl ?_
      refine wl_nil ?_
      refine then_go ?_
      refine wc_ret ?_
      refine ret1 rfl ⟨(st.keepOnly (l := []) (List.nil_sublist _)).touch, ?_⟩
      first
       | (rw [show decide (rightP p) = false from decide_eq_false (fun h => by have := h.1; omega)]; rfl)
       | (rw [show decide (rightP p) = true from decide_eq_true ⟨by omega, .inl (by omega)⟩]; rfl)
       | (rw [show decide (rightP p) = decide (p.V = z32) from decide_eq_decide.2 ⟨fun h => (h.2.resolve_left (by omega)).2.2, fun h => ⟨by omega, .inr ⟨by omega, hg8, h⟩⟩⟩]; rfl)
       | (rw [show decide (rightP p) = false from decide_eq_false (fun h => hg8 (h.2.resolve_left (by omega)).2.1)]; rfl)
       | (rw [show decide (rightP p) = false from decide_eq_false (fun h => by rcases h.2 with h2 | ⟨h2, _⟩ <;> omega)]; rfl)
     ·rw [show decide (p.I = z32) = false from decide_eq_false hg8]
      refine wl_off rfl rfl rfl rfl ?_
      refine wl_off rfl rfl rfl rfl ?_
      refine wl_off rfl rfl rfl rfl ?_
      refine wl_off rfl rfl rfl rfl ?_
      refine wl_on rfl rfl ?_
      refine wl_val (v_pick rfl) rfl ?_
      refine wl_val (v_pick rfl) rfl ?_
      refine wl_val (v_assign' (by conv => (lhs; whnf))) rfl ?_
      refine wl_nil ?_
      refine then_go ?_
      refine wc_ret ?_
      refine ret1 rfl ⟨(st.keepOnly (l := []) (List.nil_sublist _)).touch, ?_⟩
      first
       | (rw [show decide (rightP p) = false from decide_eq_false (fun h => by have := h.1; omega)]; rfl)
       | (rw [show decide (rightP p) = true from decide_eq_true ⟨by omega, .inl (by omega)⟩]; rfl)
       | (rw [show decide (rightP p) = decide (p.V = z32) from decide_eq_decide.2 ⟨fun h => (h.2.resolve_left (by omega)).2.2, fun h => ⟨by omega, .inr ⟨by omega, hg8, h⟩⟩⟩]; rfl)
       | (rw [show decide (rightP p) = false from decide_eq_false (fun h => hg8 (h.2.resolve_left (by omega)).2.1)]; rfl)
       | (rw [show decide (rightP p) = false from decide_eq_false (fun h => by rcases h.2 with h2 | ⟨h2, _⟩ <;> omega)]; rfl)
  ·rw [show decide (¬ p.E = 0) = false from decide_eq_false hg8]
   refine wl_off rfl rfl rfl rfl ?_
   refine wl_off rfl rfl rfl rfl ?_
   refine wl_off rfl rfl rfl rfl ?_
   refine wl_on rfl rfl ?_
   refine wl_val (v_pick rfl) rfl ?_
   refine wl_val (v_pick rfl) rfl ?_
   refine wl_nil ?_
   refine then_go ?_
   refine wc_false rfl ?_
   refine wc_skip ?_
   refine then_go ?_
   refine wc_seq ?_
   refine wc_region ?_
   refine wl_val (v_fa TF.f40_1 rfl) rfl ?_
   refine wl_val (v_load rfl (st.reads (v := .int .i64 p.E) 0 rfl TF.t3 prC_E)) rfl ?_
   refine wl_val (v_eql rfl rfl) rfl ?_
   refine wl_val (v_move' (by conv => (lhs; whnf))) rfl ?_
   by_cases hg3 : p.E = 1
   ·rw [show decide (p.E = 1) = true from decide_eq_true hg3]
    refine wl_off rfl rfl rfl rfl ?_
    refine wl_off rfl rfl rfl rfl ?_
    refine wl_off rfl rfl rfl rfl ?_
    refine wl_off rfl rfl rfl rfl ?_
    refine wl_off rfl rfl rfl rfl ?_
    refine offU rfl rfl rfl ?_
    refine offU rfl rfl rfl ?_
    refine offU rfl rfl rfl ?_
    refine offU rfl rfl rfl ?_
    refine wl_off rfl rfl rfl rfl ?_
    refine wl_val (v_pick rfl) rfl ?_
    refine wl_val (v_assign' (by conv => (lhs; whnf))) rfl ?_
    refine wl_nil ?_
    refine then_go ?_
    refine wc_ret ?_
    refine ret1 rfl ⟨(st.keepOnly (l := []) (List.nil_sublist _)).touch, ?_⟩
    first
     | (rw [show decide (rightP p) = false from decide_eq_false (fun h => by have := h.1; omega)]; rfl)
     | (rw [show decide (rightP p) = true from decide_eq_true ⟨by omega, .inl (by omega)⟩]; rfl)
     | (rw [show decide (rightP p) = decide (p.V = z32) from decide_eq_decide.2 ⟨fun h => (h.2.resolve_left (by omega)).2.2, fun h => ⟨by omega, .inr ⟨by omega, hg8, h⟩⟩⟩]; rfl)
     | (rw [show decide (rightP p) = false from decide_eq_false (fun h => hg8 (h.2.resolve_left (by omega)).2.1)]; rfl)
     | (rw [show decide (rightP p) = false from decide_eq_false (fun h => by rcases h.2 with h2 | ⟨h2, _⟩ <;> omega)]; rfl)
   ·rw [show decide (p.E = 1) = false from decide_eq_false hg3]
    refine wl_on rfl rfl ?_
    refine wl_val (v_fa TF.f40_2 rfl) rfl ?_
    refine wl_on rfl rfl ?_
    refine wl_val (v_load rfl (st.reads (v := arr p.I) 0 rfl TF.t23 (prC_I hI))) rfl ?_
    refine wl_on rfl rfl ?_
    refine wl_val v_z32 rfl ?_
    refine wl_on rfl rfl ?_
    refine wl_val (v_eqD rfl rfl hI rfl) rfl ?_
    refine wl_on rfl rfl ?_
    refine wl_val (v_move' (by conv => (lhs; whnf))) rfl ?_
    by_cases hg8 : p.I = z32
    ·rw [show decide (p.I = z32) = true from decide_eq_true hg8]
     refine wl_on rfl rfl ?_
     refine wl_val (v_fa TF.f40_3 rfl) rfl ?_
     refine wl_on rfl rfl ?_
     refine wl_val (v_load rfl (st.reads (v := arr p.V) 0 rfl TF.t23 (prC_V hI hV))) rfl ?_
     refine wl_on rfl rfl ?_
     refine wl_val v_z32 rfl ?_
     refine wl_on rfl rfl ?_
     refine wl_val (v_eqD rfl rfl hV rfl) rfl ?_
     refine wl_on rfl rfl ?_
     refine wl_val (v_pick rfl) rfl ?_
     refine wl_val (v_pick rfl) rfl ?_
     refine wl_val (v_assign' (by conv => (lhs; whnf))) rfl ?_
     refine wl_nil ?_
     refine then_go ?_
     refine wc_ret ?_
     refine ret1 rfl ⟨(st.keepOnly (l := []) (List.nil_sublist _)).touch, ?_⟩
     first
      | (rw [show decide (rightP p) = false from decide_eq_false (fun h => by have := h.1; omega)]; rfl)
      | (rw [show decide (rightP p) = true from decide_eq_true ⟨by omega, .inl (by omega)⟩]; rfl)
      | (rw [show decide (rightP p) = decide (p.V = z32) from decide_eq_decide.2 ⟨fun h => (h.2.resolve_left (by omega)).2.2, fun h => ⟨by omega, .inr ⟨by omega, hg8, h⟩⟩⟩]; rfl)
      | (rw [show decide (rightP p) = false from decide_eq_false (fun h => hg8 (h.2.resolve_left (by omega)).2.1)]; rfl)
      | (rw [show decide (rightP p) = false from decide_eq_false (fun h => by rcases h.2 with h2 | ⟨h2, _⟩ <;> omega)]; rfl)
    ·rw [show decide (p.I = z32) = false from decide_eq_false hg8]
     refine wl_off rfl rfl rfl rfl ?_
     refine wl_off rfl rfl rfl rfl ?_
     refine wl_off rfl rfl rfl rfl ?_
     refine wl_off rfl rfl rfl rfl ?_
     refine wl_on rfl rfl ?_
     refine wl_val (v_pick rfl) rfl ?_
     refine wl_val (v_pick rfl) rfl ?_
     refine wl_val (v_assign' (by conv => (lhs; whnf))) rfl ?_
     refine wl_nil ?_
     refine then_go ?_
     refine wc_ret ?_
     refine ret1 rfl ⟨(st.keepOnly (l := []) (List.nil_sublist _)).touch, ?_⟩
     first
      | (rw [show decide (rightP p) = false from decide_eq_false (fun h => by have := h.1; omega)]; rfl)
      | (rw [show decide (rightP p) = true from decide_eq_true ⟨by omega, .inl (by omega)⟩]; rfl)
      | (rw [show decide (rightP p) = decide (p.V = z32) from decide_eq_decide.2 ⟨fun h => (h.2.resolve_left (by omega)).2.2, fun h => ⟨by omega, .inr ⟨by omega, hg8, h⟩⟩⟩]; rfl)
      | (rw [show decide (rightP p) = false from decide_eq_false (fun h => hg8 (h.2.resolve_left (by omega)).2.1)]; rfl)
      | (rw [show decide (rightP p) = false from decide_eq_false (fun h => by rcases h.2 with h2 | ⟨h2, _⟩ <;> omega)]; rfl)
theorem c_end {v : Value} {p : Prf} (him : Im m wI) (hp : PrM m v p) : Ret Try.prog 82 #[v] wI fun v' w' => Out m wI w' fun m' => SlM m' v' 1 (endB p).length (bs (endB p)) := by
 have st := St.start him
 obtain ⟨sv, rfl, hs, hI, hV⟩ := hp
 refine ret_of Try.call82 Try.func82 rfl Try.ntmps82 Try.results82 rfl ?_
 refine wc_seq ?_
 refine wc_region ?_
 refine wl_box (v := .agg (prC sv p.E p.I p.V)) rfl st rfl ?_
 intro b1 w st
 refine wl_val (v_assign' (by conv => (lhs; whnf))) rfl ?_
 refine wl_nil ?_
 refine then_go ?_
 refine wc_seq ?_
 refine wc_seq ?_
 refine wc_region ?_
 refine wl_val (v_fa TF.f40_1 rfl) rfl ?_
 refine wl_val (v_load rfl (st.reads (v := .int .i64 p.E) 0 rfl TF.t3 prC_E)) rfl ?_
 refine wl_val (v_eql rfl rfl) rfl ?_
 refine wl_nil ?_
 refine then_go ?_
 refine wc_if rfl (fun h5 => ?_) (fun h5 => ?_)
 ·refine wc_seq ?_
  refine wc_region ?_
  refine wl_val (v_fa TF.f40_2 rfl) rfl ?_
  refine wl_val (v_load rfl (st.reads (v := arr p.I) 0 rfl TF.t23 (prC_I hI))) rfl ?_
  refine wl_val (v_fa TF.f40_3 rfl) rfl ?_
  refine wl_val (v_load rfl (st.reads (v := arr p.V) 0 rfl TF.t23 (prC_V hI hV))) rfl ?_
  refine wl_call rfl (c_leafb st.im hI hV) rfl ?_
  rintro v10 w ⟨t10, m1, hg1, hi1, hb⟩
  have st := st.grown hg1 t10 hi1
  refine wl_val (v_assign' (by conv => (lhs; whnf))) rfl ?_
  refine wl_nil ?_
  refine then_go ?_
  refine wc_ret (then_ret ?_)
  exact ret1 rfl ((st.keepOnly (l := []) (List.nil_sublist _)).out (by rw [endB, if_pos h5]; exact hb))
 ·refine wc_skip ?_
  refine then_go ?_
  refine wc_seq ?_
  refine wc_region ?_
  refine wl_call rfl (c_emptyb st.im) rfl ?_
  rintro v11 w ⟨t11, m1, hg1, hi1, hb⟩
  have st := st.grown hg1 t11 hi1
  refine wl_val (v_assign' (by conv => (lhs; whnf))) rfl ?_
  refine wl_nil ?_
  refine then_go ?_
  refine wc_ret ?_
  exact ret1 rfl ((st.keepOnly (l := []) (List.nil_sublist _)).out (by rw [endB, if_neg h5]; exact hb))
end
end Go.Proofs.Ytjjpakjgppmmdaa

namespace Go.Proofs.Ytjjpakjgppmmdaa
open Go Go.RowKit K SH PT
section
variable {P : Program} {r : Fr} {w : World} {ty : TypeId}
theorem v_ltB {T U : TypeId} {x y : Operand} {k : IntKind} {a b : Int} {z : Bool} (hx : ev r x = .int k a) (hy : ev r y = .int k b) (h : z = decide (a < b)) : Val P (.binOp .lss T x y U) ty r w (.bool z) w := by rw [h]; exact v_lss hx hy
end
theorem bitI_lt {d : By} {k : Nat} (h : k < 256) : bitI d k = bit d k := by
 unfold bitI
 rw [if_pos (by omega)]
 simp
section
variable {m : Mem} {wI : World}
theorem c_rcommon {a b : By} (him : Im m wI) (ha : a.length = 32) (hb : b.length = 32) : Ret Try.prog 94 #[arr a, arr b] wI fun v w' => Tch wI w' [] [] ∧ v = .int .i64 (common a b) := by
 have st := St.start him
 refine ret_of Try.call94 Try.func94 rfl Try.ntmps94 Try.results94 rfl ?_
 refine wc_seq ?_
 refine wc_region ?_
 refine wl_box (v := arr a) rfl st rfl ?_
 intro b2 w st
 refine wl_box (v := arr b) rfl st rfl ?_
 intro b3 w st
 refine wl_val (v_assign' (by conv => (lhs; whnf))) rfl ?_
 refine wl_nil ?_
 refine then_go ?_
 refine wc_seq ?_
 refine wc_region ?_
 refine wl_val (v_assign' (by conv => (lhs; whnf))) rfl ?_
 refine wl_nil ?_
 refine then_go ?_
 refine wc_seq ?_
 refine wc_block ?_
 refine wc_loop (S := Nat) (fun q r w' => ∃ (i : Nat), q + i = 256 ∧ r 2 = .pointer (some ⟨b2, 0, none⟩) ∧ r 3 = .pointer (some ⟨b3, 0, none⟩) ∧ r 5 = .int .i64 i ∧ comF a b q i = common a b ∧ St m m [] wI w' [K.blk b3 (arr b).cells 23, K.blk b2 (arr a).cells 23]) id 256 ⟨0, rfl, rfl, rfl, rfl, rfl, st⟩ ?_
 rintro q r w2 ⟨i, hqi, g2, g3, g5, hc, st⟩
 refine wc_o 2 g2 (wc_o 3 g3 (wc_o 5 g5 ?_))
 refine wc_seq ?_
 refine wc_seq ?_
 by_cases hi : i < 256
 ·refine wc_draw TF.mixed ?_
  have st := st.pure (touch_drew _)
  refine fl_val 0 rfl (fun _ => (v_move' (by conv => (lhs; whnf)))) rfl (by kernel_rfl) ?_
  refine fl_val 1 rfl (fun _ => (v_ltB (z := true) rfl rfl (decide_eq_true (by omega)).symm)) rfl (by kernel_rfl) ?_
  refine fl_val 2 rfl (fun _ => (v_move' (by conv => (lhs; whnf)))) rfl (by kernel_rfl) ?_
  refine fl_ond 3 rfl rfl rfl rfl (v_load rfl (st.reads (v := arr a) 1 rfl TF.t23 (getV_all (by rw [size_arr, ha])))) rfl (by kernel_rfl) ?_
  refine fl_on 4 rfl rfl rfl rfl (fun _ => (v_move' (by conv => (lhs; whnf)))) rfl (by kernel_rfl) ?_
  refine fl_ond 6 rfl rfl rfl rfl (v_load rfl (st.reads (v := arr b) 0 rfl TF.t23 (getV_all (by rw [size_arr, hb])))) rfl (by kernel_rfl) ?_
  refine fl_on 7 rfl rfl rfl rfl (fun _ => (v_move' (by conv => (lhs; whnf)))) rfl (by kernel_rfl) ?_
  refine fl_eff1 5 [7, 1, 0] [6] (by kernel_rfl) ⟨obl_on rfl rfl rfl rfl rfl (v_load rfl (st.reads (v := arr b) 0 rfl TF.t23 (getV_all (by rw [size_arr, hb])))), obl_on rfl rfl rfl rfl rfl (v_load rfl (st.reads (v := arr a) 1 rfl TF.t23 (getV_all (by rw [size_arr, ha])))), trivial⟩ rfl ?_
  refine wl_on rfl rfl ?_
  refine wl_call rfl (c_rbit st.im ha) rfl ?_
  rintro v11 w ⟨t11, rfl⟩
  have st := st.pure t11
  rw [bitI_lt hi]
  refine wl_nil ⟨rfl, ?_⟩
  refine fl_eff1 8 [1, 0] [] (by kernel_rfl) ⟨obl_on rfl rfl rfl rfl rfl (v_load rfl (st.reads (v := arr b) 0 rfl TF.t23 (getV_all (by rw [size_arr, hb])))), trivial⟩ rfl ?_
  refine wl_on rfl rfl ?_
  refine wl_call rfl (c_rbit st.im hb) rfl ?_
  rintro v14 w ⟨t14, rfl⟩
  have st := st.pure t14
  rw [bitI_lt hi]
  refine wl_nil ⟨rfl, ?_⟩
  refine fl_on 9 rfl rfl rfl rfl (fun _ => (v_eqb Try.underlying4 rfl rfl)) rfl (by kernel_rfl) ?_
  refine fl_val 10 rfl (fun _ => (v_pick rfl)) rfl (by kernel_rfl) ?_
  refine fl_nil (by kernel_rfl) trivial ?_
  refine then_go ?_
  refine wc_cond rfl (fun h16 => ?_) (fun h16 => ?_)
  ·refine wc_skip ?_
   refine then_go ?_
   refine wc_block ?_
   obtain ⟨q', rfl⟩ : ∃ q', q = q' + 1 := ⟨q - 1, by omega⟩
   rw [comF, if_pos (by simpa using (eq_of_beq h16).symm)] at hc
   refine wc_region ?_
   refine wl_val (v_move' (by conv => (lhs; whnf))) rfl ?_
   refine wl_val (v_add' rfl rfl rfl (by first | omega | (dsimp only at *; omega)) (by first | omega | (dsimp only at *; omega))) rfl ?_
   refine wl_val (v_assign' (by conv => (lhs; whnf))) rfl ?_
   refine wl_nil ?_
   refine block_go (then_go ?_)
   exact ⟨q', by simp, i + 1, by omega, rfl, rfl, rfl, hc, st⟩
  ·refine wc_exit (then_exit (then_exit (block_hit ?_)))
   refine then_go ?_
   refine wc_seq ?_
   refine wc_region ?_
   refine wl_val (v_move' (by conv => (lhs; whnf))) rfl ?_
   refine wl_val (v_assign' (by conv => (lhs; whnf))) rfl ?_
   refine wl_nil ?_
   refine then_go ?_
   refine wc_ret ?_
   obtain ⟨q', rfl⟩ : ∃ q', q = q' + 1 := ⟨q - 1, by omega⟩
   rw [comF, if_neg (fun e => by rw [e] at h16; simp at h16)] at hc
   exact ret1 rfl ⟨(st.keepOnly (l := []) (List.nil_sublist _)).touch, by rw [← hc]; rfl⟩
 ·refine wc_draw TF.mixed ?_
  have st := st.pure (touch_drew _)
  refine fl_val 0 rfl (fun _ => (v_move' (by conv => (lhs; whnf)))) rfl (by kernel_rfl) ?_
  refine fl_val 1 rfl (fun _ => (v_ltB (z := false) rfl rfl (decide_eq_false (by omega)).symm)) rfl (by kernel_rfl) ?_
  refine fl_val 2 rfl (fun _ => (v_move' (by conv => (lhs; whnf)))) rfl (by kernel_rfl) ?_
  refine fl_offd 3 rfl rfl rfl rfl rfl rfl (by kernel_rfl) ?_
  refine fl_off 4 rfl rfl rfl rfl rfl rfl (by kernel_rfl) ?_
  refine fl_offd 6 rfl rfl rfl rfl rfl rfl (by kernel_rfl) ?_
  refine fl_off 7 rfl rfl rfl rfl rfl rfl (by kernel_rfl) ?_
  refine fl_eff1 5 [7, 1, 0] [6] (by kernel_rfl) ⟨obl_off rfl rfl rfl rfl rfl rfl, obl_off rfl rfl rfl rfl rfl rfl, trivial⟩ rfl ?_
  refine wl_off rfl rfl rfl rfl ?_
  refine wl_nil ⟨rfl, ?_⟩
  refine fl_eff1 8 [1, 0] [] (by kernel_rfl) ⟨obl_off rfl rfl rfl rfl rfl rfl, trivial⟩ rfl ?_
  refine wl_off rfl rfl rfl rfl ?_
  refine wl_nil ⟨rfl, ?_⟩
  refine fl_off 9 rfl rfl rfl rfl rfl rfl (by kernel_rfl) ?_
  refine fl_val 10 rfl (fun _ => (v_pick rfl)) rfl (by kernel_rfl) ?_
  refine fl_nil (by kernel_rfl) trivial ?_
  refine then_go ?_
  refine wc_false rfl ?_
  refine wc_exit (then_exit (then_exit (block_hit ?_)))
  refine then_go ?_
  refine wc_seq ?_
  refine wc_region ?_
  refine wl_val (v_move' (by conv => (lhs; whnf))) rfl ?_
  refine wl_val (v_assign' (by conv => (lhs; whnf))) rfl ?_
  refine wl_nil ?_
  refine then_go ?_
  refine wc_ret ?_
  have hq0 : q = 0 := by omega
  subst hq0
  rw [comF] at hc
  exact ret1 rfl ⟨(st.keepOnly (l := []) (List.nil_sublist _)).touch, by rw [← hc]; rfl⟩
theorem c_under {a b : By} {n : Int} (him : Im m wI) (ha : a.length = 32) (hb : b.length = 32) : Ret Try.prog 75 #[arr a, arr b, .int .i64 n] wI fun v w' => Tch wI w' [] [] ∧ v = .bool (decide (n ≤ (common a b : Int))) := by
 have st := St.start him
 refine ret_of Try.call75 Try.func75 rfl Try.ntmps75 Try.results75 rfl ?_
 refine wc_seq ?_
 refine wc_region ?_
 refine wl_box (v := arr a) rfl st rfl ?_
 intro b3 w st
 refine wl_box (v := arr b) rfl st rfl ?_
 intro b4 w st
 refine wl_val (v_assign' (by conv => (lhs; whnf))) rfl ?_
 refine wl_nil ?_
 refine then_go ?_
 refine wc_seq ?_
 refine wc_region ?_
 refine wl_val (v_load rfl (st.reads (v := arr a) 1 rfl TF.t23 (getV_all (by rw [size_arr, ha])))) rfl ?_
 refine wl_val (v_load rfl (st.reads (v := arr b) 0 rfl TF.t23 (getV_all (by rw [size_arr, hb])))) rfl ?_
 refine wl_call rfl (c_common st.im ha hb) rfl ?_
 rintro v9 w ⟨t9, rfl⟩
 have st := st.pure t9
 refine wl_val (v_move' (by conv => (lhs; whnf))) rfl ?_
 refine wl_val (v_geq rfl rfl) rfl ?_
 refine wl_val (v_assign' (by conv => (lhs; whnf))) rfl ?_
 refine wl_nil ?_
 refine then_go ?_
 refine wc_ret ?_
 exact ret1 rfl ⟨(st.keepOnly (l := []) (List.nil_sublist _)).touch, rfl⟩
theorem c_runder {a b : By} {n : Int} (him : Im m wI) (ha : a.length = 32) (hb : b.length = 32) : Ret Try.prog 78 #[arr a, arr b, .int .i64 n] wI fun v w' => Tch wI w' [] [] ∧ v = .bool (decide (n ≤ (common a b : Int))) := by
 have st := St.start him
 refine ret_of Try.call78 Try.func78 rfl Try.ntmps78 Try.results78 rfl ?_
 refine wc_seq ?_
 refine wc_region ?_
 refine wl_box (v := arr a) rfl st rfl ?_
 intro b3 w st
 refine wl_box (v := arr b) rfl st rfl ?_
 intro b4 w st
 refine wl_val (v_assign' (by conv => (lhs; whnf))) rfl ?_
 refine wl_nil ?_
 refine then_go ?_
 refine wc_seq ?_
 refine wc_region ?_
 refine wl_val (v_load rfl (st.reads (v := arr a) 1 rfl TF.t23 (getV_all (by rw [size_arr, ha])))) rfl ?_
 refine wl_val (v_load rfl (st.reads (v := arr b) 0 rfl TF.t23 (getV_all (by rw [size_arr, hb])))) rfl ?_
 refine wl_call rfl (c_rcommon st.im ha hb) rfl ?_
 rintro v9 w ⟨t9, rfl⟩
 have st := st.pure t9
 refine wl_val (v_move' (by conv => (lhs; whnf))) rfl ?_
 refine wl_val (v_geq rfl rfl) rfl ?_
 refine wl_val (v_assign' (by conv => (lhs; whnf))) rfl ?_
 refine wl_nil ?_
 refine then_go ?_
 refine wc_ret ?_
 exact ret1 rfl ⟨(st.keepOnly (l := []) (List.nil_sublist _)).touch, rfl⟩
end
end Go.Proofs.Ytjjpakjgppmmdaa

namespace Go.Proofs.Ytjjpakjgppmmdaa
open Go Go.RowKit K SH PT
def revK (xs : List Value) (k : Nat) : List Value := (List.range xs.length).map fun j => if j < k ∨ xs.length - k ≤ j then xs.getD (xs.length - 1 - j) undef else xs.getD j undef
theorem length_revK {xs : List Value} {k : Nat} : (revK xs k).length = xs.length := by simp [revK]
theorem get_revK {xs : List Value} {k j : Nat} (h : j < xs.length) : (revK xs k)[j]? = some (if j < k ∨ xs.length - k ≤ j then xs.getD (xs.length - 1 - j) undef else xs.getD j undef) := by
 simp [revK, h]
theorem revK_zero {xs : List Value} : revK xs 0 = xs := by
 refine List.ext_getElem? fun j => ?_
 by_cases h : j < xs.length
 ·rw [get_revK h, if_neg (by omega)]
  simp [List.getD, h]
 ·rw [List.getElem?_eq_none (by rw [length_revK]; omega), List.getElem?_eq_none (by omega)]
theorem revK_end {xs : List Value} {k : Nat} (hk : xs.length ≤ 2 * k + 1) : revK xs k = xs.reverse := by
 refine List.ext_getElem? fun j => ?_
 by_cases h : j < xs.length
 ·rw [get_revK h, List.getElem?_reverse h]
  by_cases hc : j < k ∨ xs.length - k ≤ j
  ·rw [if_pos hc]
   simp [List.getD, show xs.length - 1 - j < xs.length by omega]
  ·rw [if_neg hc, show xs.length - 1 - j = j by omega]
   simp [List.getD, h]
 ·rw [List.getElem?_eq_none (by rw [length_revK]; omega), List.getElem?_eq_none (by simp; omega)]
theorem revK_step {xs sp : List Value} {k : Nat} (hk : k < xs.length - 1 - k) :
  ((revK xs k ++ sp).toArray.setIfInBounds k (xs.getD (xs.length - 1 - k) undef)).setIfInBounds (xs.length - 1 - k) (xs.getD k undef) = (revK xs (k + 1) ++ sp).toArray := by
 apply Array.ext'
 simp only [Array.toList_setIfInBounds]
 refine List.ext_getElem? fun j => ?_
 have hl : (revK xs k ++ sp).length = xs.length + sp.length := by rw [List.length_append, length_revK]
 by_cases h1 : j = xs.length - 1 - k
 ·subst h1
  rw [List.getElem?_set_self (by simp only [List.length_set]; omega), List.getElem?_append_left (by rw [length_revK]; omega), get_revK (by omega), if_pos (by omega), show xs.length - 1 - (xs.length - 1 - k) = k by omega]
 ·rw [List.getElem?_set_ne (by omega)]
  by_cases h2 : j = k
  ·subst h2
   rw [List.getElem?_set_self (by omega), List.getElem?_append_left (by rw [length_revK]; omega), get_revK (by omega), if_pos (by omega)]
  ·rw [List.getElem?_set_ne (by omega)]
   by_cases h3 : j < xs.length
   ·rw [List.getElem?_append_left (by rw [length_revK]; omega), List.getElem?_append_left (by rw [length_revK]; omega), get_revK h3, get_revK h3]
    by_cases h4 : j < k ∨ xs.length - k ≤ j
    ·rw [if_pos h4, if_pos (by omega)]
    ·rw [if_neg h4, if_neg (by omega)]
   ·rw [List.getElem?_append_right (by rw [length_revK]; omega), List.getElem?_append_right (by rw [length_revK]; omega), length_revK, length_revK]
section
variable {m : Mem} {wI : World}
theorem c_reverse {g cap : Nat} {xs sp : List Value} (him : Im m wI) (hE : (K.blk g (xs ++ sp).toArray 41).holds wI) (hm : m g = none) (h1 : ∀ u ∈ xs, u.oneCell' = true) (hn : xs.length ≤ 1000000) :
  Ret Try.prog 85 #[.slice (some ⟨g, 0, none⟩) xs.length cap] wI fun _ w' => Tch wI w' [g] [g] ∧ (K.blk g (xs.reverse ++ sp).toArray 41).holds w' := by
 have st := St.startE him hE (by simpa [K.blk] using hm)
 refine ret_of Try.call85 Try.func85 rfl Try.ntmps85 Try.results85 rfl ?_
 refine wc_seq ?_
 refine wc_region ?_
 refine wl_val (v_move' (by conv => (lhs; whnf))) rfl ?_
 refine wl_val (v_len_s Try.underlying102 rfl) rfl ?_
 refine wl_val (v_sub' (c := (xs.length : Int) - 1) rfl rfl rfl (by omega) (by omega)) rfl ?_
 refine wl_val (v_assign' (by conv => (lhs; whnf))) rfl ?_
 refine wl_val (v_assign' (by conv => (lhs; whnf))) rfl ?_
 refine wl_nil ?_
 refine then_go ?_
 refine wc_block ?_
 refine wc_loop (S := Nat) (fun q r w' => ∃ (k : Nat), q + k = xs.length ∧ r 0 = .slice (some ⟨g, 0, none⟩) xs.length cap ∧ r 2 = .int .i64 k ∧ r 3 = .int .i64 ((xs.length : Int) - 1 - k) ∧ St m m [g] wI w' [K.blk g (revK xs k ++ sp).toArray 41]) id xs.length ⟨0, by omega, rfl, rfl, by simp; rfl, by rw [revK_zero]; exact st⟩ ?_
 rintro q r w2 ⟨k, hqk, g0, g2, g3, st⟩
 refine wc_o 0 g0 (wc_o 2 g2 (wc_o 3 g3 ?_))
 refine wc_seq ?_
 refine wc_seq ?_
 refine wc_region ?_
 refine wl_val (v_move' (by conv => (lhs; whnf))) rfl ?_
 refine wl_val (v_move' (by conv => (lhs; whnf))) rfl ?_
 refine wl_val (v_lss rfl rfl) rfl ?_
 refine wl_nil ?_
 refine then_go ?_
 refine wc_if rfl (fun h9 => ?_) (fun h9 => ?_)
 ·refine wc_skip ?_
  refine then_go ?_
  refine wc_seq ?_
  refine wc_block ?_
  have hk : k < xs.length - 1 - k := by omega
  have hl : (revK xs k ++ sp).length = xs.length + sp.length := by rw [List.length_append, length_revK]
  have ga : (revK xs k ++ sp)[xs.length - 1 - k]? = some (xs.getD (xs.length - 1 - k) undef) := by rw [List.getElem?_append_left (by rw [length_revK]; omega), get_revK (by omega), if_neg (by omega)]
  have gb : (revK xs k ++ sp)[k]? = some (xs.getD k undef) := by rw [List.getElem?_append_left (by rw [length_revK]; omega), get_revK (by omega), if_neg (by omega)]
  have oa : (xs.getD (xs.length - 1 - k) undef).oneCell' = true := h1 _ (by simp only [List.getD, List.getElem?_eq_getElem (show xs.length - 1 - k < xs.length by omega), Option.getD_some]; exact List.getElem_mem _)
  have ob : (xs.getD k undef).oneCell' = true := h1 _ (by simp only [List.getD, List.getElem?_eq_getElem (show k < xs.length by omega), Option.getD_some]; exact List.getElem_mem _)
  refine wc_draw TF.mixed ?_
  have st := st.pure (touch_drew _)
  refine fl_val 0 rfl (fun _ => (v_move' (by conv => (lhs; whnf)))) rfl (by kernel_rfl) ?_
  refine fl_val 1 rfl (fun _ => (v_move' (by conv => (lhs; whnf)))) rfl (by kernel_rfl) ?_
  refine fl_val 2 rfl (fun _ => (v_move' (by conv => (lhs; whnf)))) rfl (by kernel_rfl) ?_
  refine fl_val 3 rfl (fun _ => (v_move' (by conv => (lhs; whnf)))) rfl (by kernel_rfl) ?_
  refine fl_val 4 rfl (fun _ => (v_move' (by conv => (lhs; whnf)))) rfl (by kernel_rfl) ?_
  refine fl_val 5 rfl (fun _ => (v_move' (by conv => (lhs; whnf)))) rfl (by kernel_rfl) ?_
  refine fl_val 6 rfl (fun _ => (v_ias (xs.length - 1 - k) Try.underlying102 TF.t41 rfl rfl (by first | rfl | omega) (by first | omega | (dsimp only at *; omega)))) rfl (by kernel_rfl) ?_
  refine fl_ld 7 rfl (v_load rfl (st.reads (b := g) (c := (revK xs k ++ sp).toArray) (v := xs.getD (xs.length - 1 - k) undef) 0 rfl TF.t41 (by unfold getV; rw [if_neg (by simp), show 0 + (xs.length - 1 - k) * 1 = xs.length - 1 - k by omega]; exact ga))) (by kernel_rfl) ?_
  refine fl_val 8 rfl (fun _ => (v_move' (by conv => (lhs; whnf)))) rfl (by kernel_rfl) ?_
  refine fl_val 9 rfl (fun _ => (v_move' (by conv => (lhs; whnf)))) rfl (by kernel_rfl) ?_
  refine fl_val 10 rfl (fun _ => (v_ias k Try.underlying102 TF.t41 rfl rfl (by first | rfl | omega) (by first | omega | (dsimp only at *; omega)))) rfl (by kernel_rfl) ?_
  refine fl_ld 11 rfl (v_load rfl (st.reads (b := g) (c := (revK xs k ++ sp).toArray) (v := xs.getD k undef) 0 rfl TF.t41 (by unfold getV; rw [if_neg (by simp), show 0 + k * 1 = k by omega]; exact gb))) (by kernel_rfl) ?_
  refine fl_val 12 rfl (fun _ => (v_ias k Try.underlying102 TF.t41 rfl rfl (by first | rfl | omega) (by first | omega | (dsimp only at *; omega)))) rfl (by kernel_rfl) ?_
  refine fl_eff1 13 [10, 9, 8, 3, 2] [] (by kernel_rfl) ⟨obl_ld rfl rfl rfl (v_load rfl (st.reads (b := g) (c := (revK xs k ++ sp).toArray) (v := xs.getD k undef) 0 rfl TF.t41 (by unfold getV; rw [if_neg (by simp), show 0 + k * 1 = k by omega]; exact gb))), obl_ld rfl rfl rfl (v_load rfl (st.reads (b := g) (c := (revK xs k ++ sp).toArray) (v := xs.getD (xs.length - 1 - k) undef) 0 rfl TF.t41 (by unfold getV; rw [if_neg (by simp), show 0 + (xs.length - 1 - k) * 1 = xs.length - 1 - k by omega]; exact ga))), trivial⟩ rfl ?_
  refine wl_store1 (off := 0 + k * 1) 0 st rfl TF.t41 rfl rfl oa (by simp only [List.size_toArray]; omega) ?_
  intro w st
  refine wl_nil ⟨rfl, ?_⟩
  refine fl_val 14 rfl (fun _ => (v_ias (xs.length - 1 - k) Try.underlying102 TF.t41 rfl rfl (by first | rfl | omega) (by first | omega | (dsimp only at *; omega)))) rfl (by kernel_rfl) ?_
  refine fl_eff1 15 [] [] (by kernel_rfl) trivial rfl ?_
  refine wl_store1 (off := 0 + (xs.length - 1 - k) * 1) 0 st rfl TF.t41 rfl rfl ob (by simp only [Array.size_setIfInBounds, List.size_toArray]; omega) ?_
  intro w st
  rw [show 0 + k * 1 = k by omega, show 0 + (xs.length - 1 - k) * 1 = xs.length - 1 - k by omega] at st
  have st : St m m [g] wI w [K.blk g (revK xs (k + 1) ++ sp).toArray 41] := by rw [← revK_step hk]; exact st
  refine wl_nil ⟨rfl, ?_⟩
  refine fl_nil (by kernel_rfl) trivial ?_
  refine block_go (then_go ?_)
  refine wc_region ?_
  refine wl_val (v_move' (by conv => (lhs; whnf))) rfl ?_
  refine wl_val (v_add' (c := ((k + 1 : Nat) : Int)) rfl rfl (by omega) (by omega) (by omega)) rfl ?_
  refine wl_val (v_move' (by conv => (lhs; whnf))) rfl ?_
  refine wl_val (v_sub' (c := (xs.length : Int) - 1 - ((k + 1 : Nat) : Int)) rfl rfl (by omega) (by omega) (by omega)) rfl ?_
  refine wl_val (v_assign' (by conv => (lhs; whnf))) rfl ?_
  refine wl_val (v_assign' (by conv => (lhs; whnf))) rfl ?_
  refine wl_nil ?_
  refine then_go ?_
  exact ⟨q - 1, by simp; omega, k + 1, by omega, rfl, rfl, rfl, st⟩
 ·refine wc_exit (then_exit (then_exit (block_hit ?_)))
  refine end0 ?_
  have hf := St.finish (Es := []) (l := [_]) st
  rw [revK_end (by omega)] at hf
  exact ⟨⟨hf.1.os, hf.1.tape, hf.1.output, hf.1.size, hf.1.block, fun j hj => hf.1.out j (by simpa [joinE, K.blk] using hj)⟩, by have := hf.2; simpa [joinE] using this⟩
end
end Go.Proofs.Ytjjpakjgppmmdaa

namespace Go.Proofs.Ytjjpakjgppmmdaa
open Go Go.RowKit K SH PT
def hB (idx : By) : Nat → List By → By → By
 | _, [], e => e
 | d, s :: S, e => 78 :: (if bitI idx d = true then s ++ sum (hB idx (d + 1) S e) else sum (hB idx (d + 1) S e) ++ s)
def hashedL (idx : By) : Nat → List By → By → List By
 | _, [], e => [e]
 | d, s :: S, e => hB idx d (s :: S) e :: hashedL idx (d + 1) S e
theorem hashedL_cons {idx : By} {d : Nat} {S : List By} {e : By} : ∃ T, hashedL idx d S e = hB idx d S e :: T := by
 cases S with
 | nil => exact ⟨[], rfl⟩
 | cons s S => exact ⟨_, rfl⟩
theorem length_hashedL {idx : By} : ∀ {d : Nat} {S : List By} {e : By}, (hashedL idx d S e).length = S.length + 1
 | _, [], _ => rfl
 | d, s :: S, e => by rw [hashedL, List.length_cons, length_hashedL, List.length_cons]
theorem hB_len {idx : By} : ∀ {d : Nat} {S : List By} {e : By}, D32 S → e.length ≤ 65 → (hB idx d S e).length ≤ 65
 | _, [], _, _, h => h
 | d, s :: S, e, hS, h => by
  have h1 := hS s (by simp)
  rw [hB]
  split <;> simp [h1, length_sum]
theorem endB_len {p : Prf} (hI : p.I.length = 32) (hV : p.V.length = 32) : (endB p).length ≤ 65 := by
 unfold endB
 split <;> simp [hI, hV]
def svC (x : By × Value) : List Value := [x.2]
theorem flat_sv (L : List (By × Value)) : L.flatMap svC = L.map (·.2) := by
 induction L with
 | nil => rfl
 | cons x L ih => rw [List.flatMap_cons, ih]; rfl
section
variable {P : Program} {n : Nat} {ops : Array Oper} {Q : Po} {rest : List Oper} {r : Fr} {w : World} {d : Nat} {ty : TypeId} {pos : String} {after : Array Edge} {m0 m : Mem} {F : List Nat} {w0 : World} {Es : List Ent}
theorem wl_svOne {T E : TypeId} {bytes : Nat} {v : Value} {x : Operand} (hT : P.underlying T = some (.slice E)) (tf : TyF P E false 1 bytes) (hz : TyZ P E (.slice none 0 0)) (ho : v.oneCell' = true) (hx : ev r x = v) (st : St m0 m F w0 w Es) (hd : Nat.blt d n = true)
  (k : ∀ b w', St m0 m F w0 w' (K.blk b #[v] E :: Es) → WL P n ops Q rest (upd d (.slice (some ⟨b, 0, none⟩) 1 1) r) w') :
  WL P n ops Q (⟨some d, .buildSlice T 1 #[(0, x)], ty, pos, after, none⟩ :: rest) r w := by
 refine wl_buildSlice (c' := #[v]) [(0, v)] hT tf hz (by decide) (by decide) (by simp [hx]) ⟨0, 1, rfl, by rw [cells_one ho]; rfl, by simp [size_madeCells], ?_⟩ st hd k
 rw [cells_one ho]
 exact setSeg_all (by simp [size_madeCells])
end
theorem pcs_of {m : Mem} {v : Value} {L : List (By × Value)} (h : LsM m v svC 1 L) (h2 : ∀ x ∈ L, SlM m x.2 1 x.1.length (bs x.1)) : PcsM m v L := by
 refine ⟨?_, h2⟩
 have := h.row
 rw [flat_sv] at this
 exact this
section
variable {m : Mem} {wI : World}
theorem c_hashed {v : Value} {idx : By} {p : Prf} (him : Im m wI) (hx : idx.length = 32) (hp : PrM m v p) (hS : p.S.length ≤ 300) :
  Ret Try.prog 59 #[arr idx, v] wI fun v' w' => Out m wI w' fun m' => ∃ L, PcsM m' v' L ∧ L.map (·.1) = hashedL idx 0 p.S (endB p) := by
 have st := St.start him
 have hp0 := hp
 obtain ⟨sv, rfl, hs, hI, hV⟩ := hp
 obtain ⟨sa, sc, rfl⟩ := hs.sl
 have he := endB_len hI hV
 obtain ⟨e, hee⟩ : ∃ e, e = endB p := ⟨_, rfl⟩
 rw [← hee] at he
 refine ret_of Try.call59 Try.func59 rfl Try.ntmps59 Try.results59 rfl ?_
 refine wc_seq ?_
 refine wc_region ?_
 refine wl_box (v := arr idx) rfl st rfl ?_
 intro b2 w st
 refine wl_box (v := .agg (prC (.slice sa p.S.length sc) p.E p.I p.V)) rfl st rfl ?_
 intro b3 w st
 refine wl_val (v_assign' (by conv => (lhs; whnf))) rfl ?_
 refine wl_nil ?_
 refine then_go ?_
 refine wc_seq ?_
 refine wc_region ?_
 refine wl_val (v_load rfl (st.reads (v := .agg (prC (.slice sa p.S.length sc) p.E p.I p.V)) 0 rfl TF.t40 (getV_all (size_prC hI hV)))) rfl ?_
 refine wl_call rfl (c_end st.im hp0) rfl ?_
 rintro v9 w ⟨t9, m1, hg1, hi1, hb⟩
 have st := st.grown hg1 t9 hi1
 have hs := hs.mono hg1.le
 rw [← hee] at hb
 have ho9 : v9.oneCell' = true := by obtain ⟨_, a, c, h, _⟩ := hb; rw [h]; rfl
 refine wl_svOne Try.underlying102 TF.t41 TF.z41 ho9 rfl st rfl ?_
 intro b10 w st
 have st := st.rowShut 0 (b := b10) (k := 1) (cap := 1) (size := 1) (xs := [v9]) rfl (by omega) rfl (by omega) rfl
 have st : St m m1 [] wI w [lsE 41 1 svC (.slice (some ⟨b10, 0, none⟩) 1 1) [(e, v9)], K.blk b3 (prC (.slice sa p.S.length sc) p.E p.I p.V) 40, K.blk b2 (arr idx).cells 23] := st
 refine wl_val (v_assign' (by conv => (lhs; whnf))) rfl ?_
 refine wl_nil ?_
 refine then_go ?_
 refine wc_seq ?_
 refine wc_seq ?_
 refine wc_region ?_
 refine wl_val (v_fa TF.f40_0 rfl) rfl ?_
 refine wl_val (v_load rfl (st.reads (v := .slice sa p.S.length sc) 1 rfl TF.t38 prC_S)) rfl ?_
 refine wl_val (v_len_s Try.underlying38 rfl) rfl ?_
 refine wl_val (v_sub' (c := (p.S.length : Int) - 1) rfl rfl rfl (by omega) (by omega)) rfl ?_
 refine wl_val (v_assign' (by conv => (lhs; whnf))) rfl ?_
 refine wl_nil ?_
 refine then_go ?_
 refine wc_block ?_
 refine wc_loop (S := Nat) (fun q r w' => ∃ (k : Nat) (L : List (By × Value)) (v : Value) (m2 : Mem), q + k = p.S.length ∧ r 2 = .pointer (some ⟨b2, 0, none⟩) ∧ r 3 = .pointer (some ⟨b3, 0, none⟩) ∧ r 5 = v ∧ r 6 = .int .i64 ((p.S.length : Int) - 1 - k) ∧ L.map (·.1) = (hashedL idx (p.S.length - k) (p.S.drop (p.S.length - k)) e).reverse ∧ (∀ x ∈ L, SlM m2 x.2 1 x.1.length (bs x.1)) ∧ DigM m2 (.slice sa p.S.length sc) p.S ∧
  St m m2 [] wI w' [lsE 41 1 svC v L, K.blk b3 (prC (.slice sa p.S.length sc) p.E p.I p.V) 40, K.blk b2 (arr idx).cells 23]) id p.S.length ⟨0, [(e, v9)], _, m1, by omega, rfl, rfl, rfl, by simp; rfl, by rw [Nat.sub_zero, List.drop_length]; rfl, by intro x hx; simp at hx; rw [hx]; exact hb, hs, st⟩ ?_
 clear hs
 rintro q r w2 ⟨k, L, v, m2, hqk, g2, g3, g5, g6, hL, hLs, hs, st⟩
 refine wc_o 2 g2 (wc_o 3 g3 (wc_o 5 g5 (wc_o 6 g6 ?_)))
 refine wc_seq ?_
 refine wc_seq ?_
 refine wc_region ?_
 refine wl_val (v_move' (by conv => (lhs; whnf))) rfl ?_
 refine wl_val (v_geq rfl rfl) rfl ?_
 refine wl_nil ?_
 refine then_go ?_
 refine wc_if rfl (fun h16 => ?_) (fun h16 => ?_)
 ·refine wc_skip ?_
  refine then_go ?_
  refine wc_seq ?_
  refine wc_block ?_
  refine wc_seq ?_
  have hk : k < p.S.length := by omega
  obtain ⟨dd, hdd⟩ : ∃ dd, dd = p.S.length - 1 - k := ⟨_, rfl⟩
  have hdl : dd < p.S.length := by omega
  have hLl : L.length = k + 1 := by
   have := congrArg List.length hL
   rw [List.length_map, List.length_reverse, length_hashedL, List.length_drop] at this
   omega
  have hrd := st.lsRd 0 rfl (fun _ _ => rfl)
  obtain ⟨va, vc, hve⟩ := hrd.sl
  subst hve
  obtain ⟨vb, vo, hvb⟩ := hrd.ptr (by omega) (by decide)
  subst hvb
  have hlt : L.length - 1 < L.length := by omega
  have hlast : L[L.length - 1].1 = hB idx (dd + 1) (p.S.drop (dd + 1)) e := by
   obtain ⟨T, hT⟩ := hashedL_cons (idx := idx) (d := dd + 1) (S := p.S.drop (dd + 1)) (e := e)
   rw [show p.S.length - k = dd + 1 by omega, hT, List.reverse_cons] at hL
   have h1 : (L.map (·.1))[L.length - 1]? = some L[L.length - 1].1 := by simp [hlt]
   have hTl : T.length = L.length - 1 := by
    have := congrArg List.length hL
    simp at this
    omega
   rw [hL, List.getElem?_append_right (by simp; omega)] at h1
   simp [hTl] at h1
   exact h1.symm
  have hsl := hLs _ (List.getElem_mem hlt)
  have hbl : L[L.length - 1].1.length ≤ 65 := by rw [hlast]; exact hB_len (fun y hy => hs.1 y (List.mem_of_mem_drop hy)) he
  obtain ⟨da, doo, hda⟩ := hs.ptr (by omega)
  subst hda
  have hSd := hs.1.get hdl
  have hnew : hB idx dd (p.S.drop dd) e = 78 :: (if bitI idx dd = true then p.S[dd] ++ sum L[L.length - 1].1 else sum L[L.length - 1].1 ++ p.S[dd]) := by
   rw [List.drop_eq_getElem_cons hdl, hB, hlast]
  have hLn : ∀ z : Value, (L ++ [(hB idx dd (p.S.drop dd) e, z)]).map (·.1) = (hashedL idx (p.S.length - (k + 1)) (p.S.drop (p.S.length - (k + 1))) e).reverse := by
   intro z
   rw [List.map_append, hL, show p.S.length - (k + 1) = dd by omega, List.drop_eq_getElem_cons hdl, hashedL, List.reverse_cons, show p.S.length - k = dd + 1 by omega]
   rfl
  have hz6 : ((p.S.length : Int) - 1 - k) = (dd : Int) := by omega
  refine wc_region ?_
  refine wl_val (v_move' (by conv => (lhs; whnf))) rfl ?_
  refine wl_val (v_move' (by conv => (lhs; whnf))) rfl ?_
  refine wl_val (v_len_s Try.underlying102 rfl) rfl ?_
  refine wl_val (v_sub' (c := ((L.length - 1 : Nat) : Int)) rfl rfl (by omega) (by omega) (by omega)) rfl ?_
  refine wl_val (v_ias (L.length - 1) Try.underlying102 TF.t41 rfl rfl (by first | rfl | omega) (by first | omega | (dsimp only at *; omega))) rfl ?_
  refine wl_val (v_load rfl (hrd.rd0 rfl hlt (by decide) TF.t41 (v' := L[L.length - 1].2) rfl (im_heapM _))) rfl ?_
  refine wl_call rfl (c_tagsof st.im hsl (by omega)) rfl ?_
  rintro v25 w ⟨t25, rfl⟩
  have st := st.pure t25
  refine wl_alloc TF.z23 st rfl ?_
  intro b7 w st
  refine wl_storeW (cs := (bs (sum L[L.length - 1].1)).toArray) 0 st rfl TF.t23 rfl rfl (by simp [length_bs, length_sum]) rfl (fun u hu => one_bs _ u (by simpa using hu)) ?_
  intro w st
  refine wl_nil ?_
  refine then_go ?_
  refine wc_seq ?_
  refine wc_region ?_
  refine wl_val (v_load rfl (st.reads (v := arr idx) 3 rfl TF.t23 (getV_all (by rw [size_arr, hx])))) rfl ?_
  refine wl_val (v_move' (by conv => (lhs; whnf))) rfl ?_
  refine wl_call rfl (c_bit st.im hx) rfl ?_
  rintro v28 w ⟨t28, rfl⟩
  have st := st.pure t28
  rw [hz6]
  refine wl_nil ?_
  refine then_go ?_
  refine wc_cond rfl (fun h28 => ?_) (fun h28 => ?_)
  ·refine wc_draw TF.mixed ?_
   have st := st.pure (touch_drew _)
   refine fl_val 0 rfl (fun _ => (v_move' (by conv => (lhs; whnf)))) rfl (by kernel_rfl) ?_
   refine fl_val 1 rfl (fun _ => (v_fa TF.f40_0 rfl)) rfl (by kernel_rfl) ?_
   refine fl_ld 2 rfl (v_load rfl (by first | exact st.reads (b := b3) (c := prC (.slice (some ⟨da, doo, none⟩) p.S.length sc) p.E p.I p.V) (v := .slice (some ⟨da, doo, none⟩) p.S.length sc) 2 rfl TF.t38 prC_S | exact st.reads (b := b3) (c := prC (.slice (some ⟨da, doo, none⟩) p.S.length sc) p.E p.I p.V) (v := .slice (some ⟨da, doo, none⟩) p.S.length sc) 3 rfl TF.t38 prC_S)) (by kernel_rfl) ?_
   refine fl_val 3 rfl (fun _ => (v_move' (by conv => (lhs; whnf)))) rfl (by kernel_rfl) ?_
   refine fl_val 4 rfl (fun _ => (v_ias dd Try.underlying38 TF.t23 rfl rfl (by first | rfl | omega) (by first | omega | (dsimp only at *; omega)))) rfl (by kernel_rfl) ?_
   refine fl_ld 5 rfl (v_load rfl (hs.rd rfl hdl rfl st.im)) (by kernel_rfl) ?_
   refine fl_ld 6 rfl (v_load rfl (by first | exact st.reads (v := arr (sum L[L.length - 1].1)) 0 rfl TF.t23 (getV_all (by simp [length_bs, length_sum])) | exact st.reads (v := arr (sum L[L.length - 1].1)) 1 rfl TF.t23 (getV_all (by simp [length_bs, length_sum])))) (by kernel_rfl) ?_
   refine fl_eff1 7 [4, 3, 1, 0] [2] (by kernel_rfl) ⟨obl_ld rfl rfl rfl (v_load rfl (by first | exact st.reads (v := arr (sum L[L.length - 1].1)) 0 rfl TF.t23 (getV_all (by simp [length_bs, length_sum])) | exact st.reads (v := arr (sum L[L.length - 1].1)) 1 rfl TF.t23 (getV_all (by simp [length_bs, length_sum])))), obl_ld rfl rfl rfl (v_load rfl (hs.rd rfl hdl rfl st.im)), obl_ld rfl rfl rfl (v_load rfl (by first | exact st.reads (b := b3) (c := prC (.slice (some ⟨da, doo, none⟩) p.S.length sc) p.E p.I p.V) (v := .slice (some ⟨da, doo, none⟩) p.S.length sc) 2 rfl TF.t38 prC_S | exact st.reads (b := b3) (c := prC (.slice (some ⟨da, doo, none⟩) p.S.length sc) p.E p.I p.V) (v := .slice (some ⟨da, doo, none⟩) p.S.length sc) 3 rfl TF.t38 prC_S)), trivial⟩ rfl ?_
   refine wl_call rfl (c_nodeb st.im hSd (length_sum _)) rfl ?_
   rintro v36 w ⟨t36, m3, hg3, hi3, hn⟩
   have st := st.grown hg3 t36 hi3
   have hs := hs.mono hg3.le
   have hLs : ∀ x ∈ L, SlM m3 x.2 1 x.1.length (bs x.1) := fun x hx => (hLs x hx).mono hg3.le
   rw [if_pos h28] at hnew
   rw [← hnew] at hn
   have ho : v36.oneCell' = true := by obtain ⟨_, a, c, h, _⟩ := hn; rw [h]; rfl
   refine wl_nil ⟨rfl, ?_⟩
   refine fl_eff1 8 [4, 3, 1, 0] [2] (by kernel_rfl) ⟨obl_ld rfl rfl rfl (v_load rfl (by first | exact st.reads (b := b3) (c := prC (.slice (some ⟨da, doo, none⟩) p.S.length sc) p.E p.I p.V) (v := .slice (some ⟨da, doo, none⟩) p.S.length sc) 2 rfl TF.t38 prC_S | exact st.reads (b := b3) (c := prC (.slice (some ⟨da, doo, none⟩) p.S.length sc) p.E p.I p.V) (v := .slice (some ⟨da, doo, none⟩) p.S.length sc) 3 rfl TF.t38 prC_S)), trivial⟩ rfl ?_
   refine wl_svOne Try.underlying102 TF.t41 TF.z41 ho rfl st rfl ?_
   intro b37 w st
   refine wl_nil ⟨rfl, ?_⟩
   refine fl_eff1 9 [4, 3, 1] [2] (by kernel_rfl) ⟨obl_ld rfl rfl rfl (v_load rfl (by first | exact st.reads (b := b3) (c := prC (.slice (some ⟨da, doo, none⟩) p.S.length sc) p.E p.I p.V) (v := .slice (some ⟨da, doo, none⟩) p.S.length sc) 2 rfl TF.t38 prC_S | exact st.reads (b := b3) (c := prC (.slice (some ⟨da, doo, none⟩) p.S.length sc) p.E p.I p.V) (v := .slice (some ⟨da, doo, none⟩) p.S.length sc) 3 rfl TF.t38 prC_S)), trivial⟩ rfl ?_
   refine wl_lsApp 1 (c := svC) (e := (hB idx dd (p.S.drop dd) e, v36)) st rfl Try.underlying102 TF.t41 TF.z41 rfl rfl (by simp [svC, ho]) rfl rfl (by omega) (by omega) rfl ?_
   intro v38 w st hv38
   refine wl_nil ⟨rfl, ?_⟩
   refine fl_eff1 10 [] [] (by kernel_rfl) ⟨obl_ld rfl rfl rfl (v_load rfl (by first | exact st.reads (b := b3) (c := prC (.slice (some ⟨da, doo, none⟩) p.S.length sc) p.E p.I p.V) (v := .slice (some ⟨da, doo, none⟩) p.S.length sc) 2 rfl TF.t38 prC_S | exact st.reads (b := b3) (c := prC (.slice (some ⟨da, doo, none⟩) p.S.length sc) p.E p.I p.V) (v := .slice (some ⟨da, doo, none⟩) p.S.length sc) 3 rfl TF.t38 prC_S)), trivial⟩ rfl ?_
   refine wl_val (v_assign' (by conv => (lhs; whnf))) rfl ?_
   refine wl_nil ⟨rfl, ?_⟩
   refine fl_nil (by kernel_rfl) trivial ?_
   refine block_go (then_go ?_)
   refine wc_region ?_
   refine wl_val (v_move' (by conv => (lhs; whnf))) rfl ?_
   refine wl_val (v_sub' (c := (p.S.length : Int) - 1 - ((k + 1 : Nat) : Int)) rfl rfl (by omega) (by omega) (by omega)) rfl ?_
   refine wl_val (v_assign' (by conv => (lhs; whnf))) rfl ?_
   refine wl_nil ?_
   refine then_go ?_
   exact ⟨q - 1, by simp; omega, k + 1, _, v38, m3, by omega, rfl, rfl, rfl, rfl, hLn v36, (fun x hx => by rcases List.mem_append.1 hx with h | h; exact hLs x h; simp at h; rw [h]; exact hn), hs, st.drop 0⟩
  ·refine wc_draw TF.mixed ?_
   have st := st.pure (touch_drew _)
   refine fl_val 0 rfl (fun _ => (v_move' (by conv => (lhs; whnf)))) rfl (by kernel_rfl) ?_
   refine fl_ld 1 rfl (v_load rfl (by first | exact st.reads (v := arr (sum L[L.length - 1].1)) 0 rfl TF.t23 (getV_all (by simp [length_bs, length_sum])) | exact st.reads (v := arr (sum L[L.length - 1].1)) 1 rfl TF.t23 (getV_all (by simp [length_bs, length_sum])))) (by kernel_rfl) ?_
   refine fl_val 2 rfl (fun _ => (v_fa TF.f40_0 rfl)) rfl (by kernel_rfl) ?_
   refine fl_ld 3 rfl (v_load rfl (by first | exact st.reads (b := b3) (c := prC (.slice (some ⟨da, doo, none⟩) p.S.length sc) p.E p.I p.V) (v := .slice (some ⟨da, doo, none⟩) p.S.length sc) 2 rfl TF.t38 prC_S | exact st.reads (b := b3) (c := prC (.slice (some ⟨da, doo, none⟩) p.S.length sc) p.E p.I p.V) (v := .slice (some ⟨da, doo, none⟩) p.S.length sc) 3 rfl TF.t38 prC_S)) (by kernel_rfl) ?_
   refine fl_val 4 rfl (fun _ => (v_move' (by conv => (lhs; whnf)))) rfl (by kernel_rfl) ?_
   refine fl_val 5 rfl (fun _ => (v_ias dd Try.underlying38 TF.t23 rfl rfl (by first | rfl | omega) (by first | omega | (dsimp only at *; omega)))) rfl (by kernel_rfl) ?_
   refine fl_ld 6 rfl (v_load rfl (hs.rd rfl hdl rfl st.im)) (by kernel_rfl) ?_
   refine fl_eff1 7 [5, 4, 2, 0] [3] (by kernel_rfl) ⟨obl_ld rfl rfl rfl (v_load rfl (hs.rd rfl hdl rfl st.im)), obl_ld rfl rfl rfl (v_load rfl (by first | exact st.reads (b := b3) (c := prC (.slice (some ⟨da, doo, none⟩) p.S.length sc) p.E p.I p.V) (v := .slice (some ⟨da, doo, none⟩) p.S.length sc) 2 rfl TF.t38 prC_S | exact st.reads (b := b3) (c := prC (.slice (some ⟨da, doo, none⟩) p.S.length sc) p.E p.I p.V) (v := .slice (some ⟨da, doo, none⟩) p.S.length sc) 3 rfl TF.t38 prC_S)), obl_ld rfl rfl rfl (v_load rfl (by first | exact st.reads (v := arr (sum L[L.length - 1].1)) 0 rfl TF.t23 (getV_all (by simp [length_bs, length_sum])) | exact st.reads (v := arr (sum L[L.length - 1].1)) 1 rfl TF.t23 (getV_all (by simp [length_bs, length_sum])))), trivial⟩ rfl ?_
   refine wl_call rfl (c_nodeb st.im (length_sum _) hSd) rfl ?_
   rintro v36 w ⟨t36, m3, hg3, hi3, hn⟩
   have st := st.grown hg3 t36 hi3
   have hs := hs.mono hg3.le
   have hLs : ∀ x ∈ L, SlM m3 x.2 1 x.1.length (bs x.1) := fun x hx => (hLs x hx).mono hg3.le
   rw [if_neg (by rw [h28]; simp)] at hnew
   rw [← hnew] at hn
   have ho : v36.oneCell' = true := by obtain ⟨_, a, c, h, _⟩ := hn; rw [h]; rfl
   refine wl_nil ⟨rfl, ?_⟩
   refine fl_eff1 8 [5, 4, 2, 0] [3] (by kernel_rfl) ⟨obl_ld rfl rfl rfl (v_load rfl (by first | exact st.reads (b := b3) (c := prC (.slice (some ⟨da, doo, none⟩) p.S.length sc) p.E p.I p.V) (v := .slice (some ⟨da, doo, none⟩) p.S.length sc) 2 rfl TF.t38 prC_S | exact st.reads (b := b3) (c := prC (.slice (some ⟨da, doo, none⟩) p.S.length sc) p.E p.I p.V) (v := .slice (some ⟨da, doo, none⟩) p.S.length sc) 3 rfl TF.t38 prC_S)), trivial⟩ rfl ?_
   refine wl_svOne Try.underlying102 TF.t41 TF.z41 ho rfl st rfl ?_
   intro b37 w st
   refine wl_nil ⟨rfl, ?_⟩
   refine fl_eff1 9 [5, 4, 2] [3] (by kernel_rfl) ⟨obl_ld rfl rfl rfl (v_load rfl (by first | exact st.reads (b := b3) (c := prC (.slice (some ⟨da, doo, none⟩) p.S.length sc) p.E p.I p.V) (v := .slice (some ⟨da, doo, none⟩) p.S.length sc) 2 rfl TF.t38 prC_S | exact st.reads (b := b3) (c := prC (.slice (some ⟨da, doo, none⟩) p.S.length sc) p.E p.I p.V) (v := .slice (some ⟨da, doo, none⟩) p.S.length sc) 3 rfl TF.t38 prC_S)), trivial⟩ rfl ?_
   refine wl_lsApp 1 (c := svC) (e := (hB idx dd (p.S.drop dd) e, v36)) st rfl Try.underlying102 TF.t41 TF.z41 rfl rfl (by simp [svC, ho]) rfl rfl (by omega) (by omega) rfl ?_
   intro v38 w st hv38
   refine wl_nil ⟨rfl, ?_⟩
   refine fl_eff1 10 [] [] (by kernel_rfl) ⟨obl_ld rfl rfl rfl (v_load rfl (by first | exact st.reads (b := b3) (c := prC (.slice (some ⟨da, doo, none⟩) p.S.length sc) p.E p.I p.V) (v := .slice (some ⟨da, doo, none⟩) p.S.length sc) 2 rfl TF.t38 prC_S | exact st.reads (b := b3) (c := prC (.slice (some ⟨da, doo, none⟩) p.S.length sc) p.E p.I p.V) (v := .slice (some ⟨da, doo, none⟩) p.S.length sc) 3 rfl TF.t38 prC_S)), trivial⟩ rfl ?_
   refine wl_val (v_assign' (by conv => (lhs; whnf))) rfl ?_
   refine wl_nil ⟨rfl, ?_⟩
   refine fl_nil (by kernel_rfl) trivial ?_
   refine block_go (then_go ?_)
   refine wc_region ?_
   refine wl_val (v_move' (by conv => (lhs; whnf))) rfl ?_
   refine wl_val (v_sub' (c := (p.S.length : Int) - 1 - ((k + 1 : Nat) : Int)) rfl rfl (by omega) (by omega) (by omega)) rfl ?_
   refine wl_val (v_assign' (by conv => (lhs; whnf))) rfl ?_
   refine wl_nil ?_
   refine then_go ?_
   exact ⟨q - 1, by simp; omega, k + 1, _, v38, m3, by omega, rfl, rfl, rfl, rfl, hLn v36, (fun x hx => by rcases List.mem_append.1 hx with h | h; exact hLs x h; simp at h; rw [h]; exact hn), hs, st.drop 0⟩
 ·refine wc_exit (then_exit (then_exit (block_hit ?_)))
  refine then_go ?_
  refine wc_seq ?_
  have hkn : k = p.S.length := by omega
  subst hkn
  rw [Nat.sub_self, List.drop_zero] at hL
  have hLl : L.length = p.S.length + 1 := by
   have := congrArg List.length hL
   rw [List.length_map, List.length_reverse, length_hashedL] at this
   exact this
  have hone : ∀ u ∈ L.flatMap svC, u.oneCell' = true := by
   intro u hu
   obtain ⟨x, hx, h⟩ := List.mem_flatMap.1 hu
   simp [svC] at h
   obtain ⟨_, a, c, h2, _⟩ := hLs x hx
   rw [h, h2]
   rfl
  have hfl : (L.flatMap svC).length = L.length := by rw [flat_sv, List.length_map]
  obtain ⟨g, cap, sp, hvg, hcap, hcs, hc63, st⟩ := st.rowOpen 0 rfl (by omega)
  subst hvg
  refine wc_region ?_
  refine wl_val (v_move' (by conv => (lhs; whnf))) rfl ?_
  refine wl_call rfl (by have h := c_reverse (cap := cap) st.im (st.at (i := 0) rfl) (st.none (i := 0) rfl g (by simp [K.blk])) hone (by rw [hfl]; omega); rw [hfl] at h; exact h) rfl ?_
  rintro v50 w ⟨t50, hE⟩
  have st := st.step 0 rfl t50 hE
  have st := st.rowShut 0 (b := g) (k := L.length) (cap := cap) (size := 1) (xs := L.reverse.flatMap svC) rfl hcap (by rw [List.size_toArray, List.length_append, List.length_reverse, ← List.length_append]; exact hcs) hc63 (by rw [flat_sv, flat_sv, List.map_reverse]; rw [List.toList_toArray, Nat.mul_one, List.take_left' (by simp)])
  have st : St m m2 [] wI w [lsE 41 1 svC (.slice (some ⟨g, 0, none⟩) L.length cap) L.reverse, K.blk b3 (prC (.slice sa p.S.length sc) p.E p.I p.V) 40, K.blk b2 (arr idx).cells 23] := by
   unfold lsE
   rw [List.length_reverse]
   exact st
  refine wl_nil ?_
  refine then_go ?_
  refine wc_seq ?_
  refine wc_region ?_
  refine wl_val (v_move' (by conv => (lhs; whnf))) rfl ?_
  refine wl_val (v_assign' (by conv => (lhs; whnf))) rfl ?_
  refine wl_nil ?_
  refine then_go ?_
  refine wc_ret ?_
  obtain ⟨m4, hg4, hq4, st⟩ := st.keepLs (i := 0) rfl (fun _ _ => rfl)
  refine ret1 rfl ((st.keepOnly (l := []) (List.nil_sublist _)).out ⟨L.reverse, pcs_of hq4 (fun x hx => (hLs x (by simpa using hx)).mono hg4.le), ?_⟩)
  rw [List.map_reverse, hL, List.reverse_reverse, hee]
end
end Go.Proofs.Ytjjpakjgppmmdaa

namespace Go.Proofs.Ytjjpakjgppmmdaa
open Go Go.RowKit K SH PT
def rootH (idx : By) (p : Prf) : By := sum (hB idx 0 p.S (endB p))
section
variable {m : Mem} {wI : World}
theorem c_proot {v : Value} {idx : By} {p : Prf} (him : Im m wI) (hx : idx.length = 32) (hp : PrM m v p) (hS : p.S.length ≤ 300) :
  Ret Try.prog 76 #[arr idx, v] wI fun v' w' => Out m wI w' fun _ => v' = arr (rootH idx p) := by
 have st := St.start him
 have hp0 := hp
 obtain ⟨sv, rfl, hs, hI, hV⟩ := hp
 refine ret_of Try.call76 Try.func76 rfl Try.ntmps76 Try.results76 rfl ?_
 refine wc_seq ?_
 refine wc_region ?_
 refine wl_box (v := arr idx) rfl st rfl ?_
 intro b2 w st
 refine wl_box (v := .agg (prC sv p.E p.I p.V)) rfl st rfl ?_
 intro b3 w st
 refine wl_alloc TF.z23 st rfl ?_
 intro b4 w st
 refine wl_nil ?_
 refine then_go ?_
 refine wc_seq ?_
 refine wc_region ?_
 refine wl_val (v_load rfl (st.reads (v := arr idx) 2 rfl TF.t23 (getV_all (by rw [size_arr, hx])))) rfl ?_
 refine wl_val (v_load rfl (st.reads (v := .agg (prC sv p.E p.I p.V)) 1 rfl TF.t40 (getV_all (size_prC hI hV)))) rfl ?_
 refine wl_call rfl (c_hashed st.im hx hp0 hS) rfl ?_
 rintro v7 w ⟨t7, m1, hg1, hi1, L, hpc, hL⟩
 have st := st.grown hg1 t7 hi1
 have hLl : L.length = p.S.length + 1 := by
  have := congrArg List.length hL
  rw [List.length_map, length_hashedL] at this
  exact this
 have h0 : 0 < L.length := by omega
 obtain ⟨T, hT⟩ := hashedL_cons (idx := idx) (d := 0) (S := p.S) (e := endB p)
 have hfst : L[0].1 = hB idx 0 p.S (endB p) := by
  have h1 : (L.map (·.1))[0]? = some L[0].1 := by simp [h0]
  rw [hL, hT] at h1
  simp at h1
  exact h1.symm
 obtain ⟨lb, lo, lcap, hlv, hel, hrd⟩ := hpc.elem h0
 subst hlv
 have hbl : L[0].1.length ≤ 65 := by rw [hfst]; exact hB_len hs.1 (endB_len hI hV)
 refine wl_val (v_ias 0 Try.underlying102 TF.t41 rfl rfl (by first | rfl | omega) (by first | omega | (dsimp only at *; omega))) rfl ?_
 refine wl_val (v_load rfl (hrd st.im)) rfl ?_
 refine wl_call rfl (c_tagsof st.im hel (by omega)) rfl ?_
 rintro v10 w ⟨t10, rfl⟩
 have st := st.pure t10
 refine wl_storeW (cs := (bs (sum L[0].1)).toArray) 0 st rfl TF.t23 rfl rfl (by simp [length_bs, length_sum]) rfl (fun u hu => one_bs _ u (by simpa using hu)) ?_
 intro w st
 refine wl_nil ?_
 refine then_go ?_
 refine wc_ret ?_
 exact ret1c rfl (st.reads 0 rfl TF.t23 (getV_all (by simp [length_bs, length_sum]))) ((st.keepOnly (l := []) (List.nil_sublist _)).out (by rw [rootH, ← hfst]; rfl))
theorem c_rhashed {v : Value} {idx : By} {p : Prf} (him : Im m wI) (hx : idx.length = 32) (hp : PrM m v p) (hS : p.S.length ≤ 300) :
  Ret Try.prog 95 #[arr idx, v] wI fun v' w' => Out m wI w' fun m' => ∃ L, PcsM m' v' L ∧ L.map (·.1) = hashedL idx 0 p.S (endB p) := by
 have st := St.start him
 obtain ⟨sv, rfl, hs, hI, hV⟩ := hp
 obtain ⟨sa, sc, rfl⟩ := hs.sl
 have he := endB_len hI hV
 obtain ⟨e, hee⟩ : ∃ e, e = endB p := ⟨_, rfl⟩
 rw [← hee] at he
 refine ret_of Try.call95 Try.func95 rfl Try.ntmps95 Try.results95 rfl ?_
 refine wc_seq ?_
 refine wc_region ?_
 refine wl_box (v := arr idx) rfl st rfl ?_
 intro b2 w st
 refine wl_box (v := .agg (prC (.slice sa p.S.length sc) p.E p.I p.V)) rfl st rfl ?_
 intro b3 w st
 refine wl_val (v_assign' (by conv => (lhs; whnf))) rfl ?_
 refine wl_nil ?_
 refine then_go ?_
 refine wc_seq ?_
 refine wc_region ?_
 refine wl_call rfl (c_remptyb st.im) rfl ?_
 rintro v11 w ⟨t11, m1, hg1, hi1, hb0⟩
 have st := st.grown hg1 t11 hi1
 have hs := hs.mono hg1.le
 refine wl_val (v_assign' (by conv => (lhs; whnf))) rfl ?_
 refine wl_nil ?_
 refine then_go ?_
 refine wc_seq ?_
 refine wc_seq ?_
 refine wc_region ?_
 refine wl_val (v_fa TF.f40_1 rfl) rfl ?_
 refine wl_val (v_load rfl (st.reads (v := .int .i64 p.E) 0 rfl TF.t3 prC_E)) rfl ?_
 refine wl_val (v_eql rfl rfl) rfl ?_
 refine wl_nil ?_
 refine then_go ?_
 refine wc_mid (fun r w' => ∃ (v5 : Value) (m2 : Mem), r 2 = .pointer (some ⟨b2, 0, none⟩) ∧ r 3 = .pointer (some ⟨b3, 0, none⟩) ∧ r 5 = v5 ∧ SlM m2 v5 1 e.length (bs e) ∧ DigM m2 (.slice sa p.S.length sc) p.S ∧ St m m2 [] wI w' [K.blk b3 (prC (.slice sa p.S.length sc) p.E p.I p.V) 40, K.blk b2 (arr idx).cells 23]) ?_ ?_
 ·refine wc_if rfl (fun h14 => ?_) (fun h14 => ?_)
  ·refine wc_region ?_
   refine wl_val (v_fa TF.f40_2 rfl) rfl ?_
   refine wl_val (v_load rfl (st.reads (v := arr p.I) 0 rfl TF.t23 (prC_I hI))) rfl ?_
   refine wl_val (v_fa TF.f40_3 rfl) rfl ?_
   refine wl_val (v_load rfl (st.reads (v := arr p.V) 0 rfl TF.t23 (prC_V hI hV))) rfl ?_
   refine wl_call rfl (c_rleafb st.im hI hV) rfl ?_
   rintro v19 w ⟨t19, m2, hg2, hi2, hb⟩
   have st := st.grown hg2 t19 hi2
   have hs := hs.mono hg2.le
   refine wl_val (v_assign' (by conv => (lhs; whnf))) rfl ?_
   refine wl_nil ?_
   refine then_go ?_
   exact ⟨v19, m2, rfl, rfl, rfl, by rw [hee, endB, if_pos h14]; exact hb, hs, st⟩
  ·refine wc_skip ?_
   refine then_go ?_
   exact ⟨v11, m1, rfl, rfl, rfl, by rw [hee, endB, if_neg h14]; exact hb0, hs, st⟩
 ·clear hs
  rintro r w ⟨v5, m2, g2, g3, g5, hb, hs, st⟩
  refine wc_o 2 g2 (wc_o 3 g3 (wc_o 5 g5 ?_))
  have ho5 : v5.oneCell' = true := by obtain ⟨_, a, c, h, _⟩ := hb; rw [h]; rfl
  refine wc_seq ?_
  refine wc_region ?_
  refine wl_val (v_move' (by conv => (lhs; whnf))) rfl ?_
  refine wl_svOne Try.underlying102 TF.t41 TF.z41 ho5 rfl st rfl ?_
  intro b21 w st
  have st := st.rowShut 0 (b := b21) (k := 1) (cap := 1) (size := 1) (xs := [v5]) rfl (by omega) rfl (by omega) rfl
  have st : St m m2 [] wI w [lsE 41 1 svC (.slice (some ⟨b21, 0, none⟩) 1 1) [(e, v5)], K.blk b3 (prC (.slice sa p.S.length sc) p.E p.I p.V) 40, K.blk b2 (arr idx).cells 23] := st
  refine wl_val (v_assign' (by conv => (lhs; whnf))) rfl ?_
  refine wl_nil ?_
  refine then_go ?_
  refine wc_seq ?_
  refine wc_seq ?_
  refine wc_region ?_
  refine wl_val (v_fa TF.f40_0 rfl) rfl ?_
  refine wl_val (v_load rfl (st.reads (v := .slice sa p.S.length sc) 1 rfl TF.t38 prC_S)) rfl ?_
  refine wl_val (v_len_s Try.underlying38 rfl) rfl ?_
  refine wl_val (v_sub' (c := (p.S.length : Int) - 1) rfl rfl rfl (by omega) (by omega)) rfl ?_
  refine wl_val (v_assign' (by conv => (lhs; whnf))) rfl ?_
  refine wl_nil ?_
  refine then_go ?_
  refine wc_block ?_
  refine wc_loop (S := Nat) (fun q r w' => ∃ (k : Nat) (L : List (By × Value)) (v5 v6 : Value) (m2 : Mem), q + k = p.S.length ∧ r 2 = .pointer (some ⟨b2, 0, none⟩) ∧ r 3 = .pointer (some ⟨b3, 0, none⟩) ∧ r 5 = v5 ∧ r 6 = v6 ∧ r 7 = .int .i64 ((p.S.length : Int) - 1 - k) ∧ L.map (·.1) = hashedL idx (p.S.length - k) (p.S.drop (p.S.length - k)) e ∧ (∀ x ∈ L, SlM m2 x.2 1 x.1.length (bs x.1)) ∧ SlM m2 v5 1 (hB idx (p.S.length - k) (p.S.drop (p.S.length - k)) e).length (bs (hB idx (p.S.length - k) (p.S.drop (p.S.length - k)) e)) ∧ DigM m2 (.slice sa p.S.length sc) p.S ∧
   St m m2 [] wI w' [lsE 41 1 svC v6 L, K.blk b3 (prC (.slice sa p.S.length sc) p.E p.I p.V) 40, K.blk b2 (arr idx).cells 23]) id p.S.length ⟨0, [(e, v5)], v5, _, m2, by omega, rfl, rfl, rfl, rfl, by simp; rfl, by rw [Nat.sub_zero, List.drop_length]; rfl, by intro x hx; simp at hx; rw [hx]; exact hb, by rw [Nat.sub_zero, List.drop_length, hB]; exact hb, hs, st⟩ ?_
  clear hs hb st ho5
  rintro q r w2 ⟨k, L, v5, v6, m2, hqk, g2, g3, g5, g6, g7, hL, hLs, hb, hs, st⟩
  refine wc_o 2 g2 (wc_o 3 g3 (wc_o 5 g5 (wc_o 6 g6 (wc_o 7 g7 ?_))))
  refine wc_seq ?_
  refine wc_seq ?_
  refine wc_region ?_
  refine wl_val (v_move' (by conv => (lhs; whnf))) rfl ?_
  refine wl_val (v_geq rfl rfl) rfl ?_
  refine wl_nil ?_
  refine then_go ?_
  refine wc_if rfl (fun h27 => ?_) (fun h27 => ?_)
  ·refine wc_skip ?_
   refine then_go ?_
   refine wc_seq ?_
   refine wc_block ?_
   refine wc_seq ?_
   have hk : k < p.S.length := by omega
   obtain ⟨dd, hdd⟩ : ∃ dd, dd = p.S.length - 1 - k := ⟨_, rfl⟩
   have hdl : dd < p.S.length := by omega
   have hbl := hB_len (idx := idx) (d := p.S.length - k) (S := p.S.drop (p.S.length - k)) (e := e) (fun y hy => hs.1 y (List.mem_of_mem_drop hy)) he
   obtain ⟨da, doo, hda⟩ := hs.ptr (by omega)
   subst hda
   have hSd := hs.1.get hdl
   have hd1 : p.S.length - k = dd + 1 := by omega
   rw [hd1] at hb hL hbl
   obtain ⟨B, hB0⟩ : ∃ B, B = hB idx (dd + 1) (p.S.drop (dd + 1)) e := ⟨_, rfl⟩
   rw [← hB0] at hb hbl
   have hnew : hB idx dd (p.S.drop dd) e = 78 :: (if bitI idx dd = true then p.S[dd] ++ sum B else sum B ++ p.S[dd]) := by
    rw [List.drop_eq_getElem_cons hdl, hB, hB0]
   have hLn : ∀ z : Value, ((hB idx dd (p.S.drop dd) e, z) :: L).map (·.1) = hashedL idx dd (p.S.drop dd) e := by
    intro z
    rw [List.map_cons, hL, List.drop_eq_getElem_cons hdl, hashedL]
   have hz6 : ((p.S.length : Int) - 1 - k) = (dd : Int) := by omega
   have hLl : L.length = k + 1 := by
    have := congrArg List.length hL
    rw [List.length_map, length_hashedL, List.length_drop] at this
    omega
   refine wc_region ?_
   refine wl_val (v_move' (by conv => (lhs; whnf))) rfl ?_
   refine wl_call rfl (c_ref3of st.im hb (by omega)) rfl ?_
   rintro v31 w ⟨t31, rfl⟩
   have st := st.pure t31
   refine wl_alloc TF.z23 st rfl ?_
   intro b8 w st
   refine wl_storeW (cs := (bs (sum B)).toArray) 0 st rfl TF.t23 rfl rfl (by simp [length_bs, length_sum]) rfl (fun u hu => one_bs _ u (by simpa using hu)) ?_
   intro w st
   refine wl_nil ?_
   refine then_go ?_
   refine wc_seq ?_
   refine wc_region ?_
   refine wl_val (v_fa TF.f40_0 rfl) rfl ?_
   refine wl_val (v_load rfl (st.reads (v := .slice (some ⟨da, doo, none⟩) p.S.length sc) 2 rfl TF.t38 prC_S)) rfl ?_
   refine wl_val (v_move' (by conv => (lhs; whnf))) rfl ?_
   refine wl_val (v_ias dd Try.underlying38 TF.t23 rfl rfl (by first | rfl | omega) (by first | omega | (dsimp only at *; omega))) rfl ?_
   refine wl_val (v_load rfl (hs.rd rfl hdl rfl st.im)) rfl ?_
   refine wl_alloc TF.z23 st rfl ?_
   intro b9 w st
   refine wl_storeW (cs := (bs p.S[dd]).toArray) 0 st rfl TF.t23 rfl rfl (by simp [length_bs, hSd]) rfl (fun u hu => one_bs _ u (by simpa using hu)) ?_
   intro w st
   refine wl_nil ?_
   refine then_go ?_
   refine wc_seq ?_
   refine wc_seq ?_
   refine wc_region ?_
   refine wl_val (v_load rfl (st.reads (v := arr idx) 4 rfl TF.t23 (getV_all (by rw [size_arr, hx])))) rfl ?_
   refine wl_val (v_move' (by conv => (lhs; whnf))) rfl ?_
   refine wl_call rfl (c_rbit st.im hx) rfl ?_
   rintro v39 w ⟨t39, rfl⟩
   have st := st.pure t39
   rw [hz6]
   refine wl_nil ?_
   refine then_go ?_
   refine wc_cond rfl (fun h39 => ?_) (fun h39 => ?_)
   ·refine wc_region ?_
    refine wl_val (v_load rfl (st.reads (v := arr p.S[dd]) 0 rfl TF.t23 (getV_all (by simp [length_bs, hSd])))) rfl ?_
    refine wl_val (v_load rfl (st.reads (v := arr (sum B)) 1 rfl TF.t23 (getV_all (by simp [length_bs, length_sum])))) rfl ?_
    refine wl_call rfl (c_rnodeb st.im hSd (length_sum _)) rfl ?_
    rintro v42 w ⟨t42, m3, hg3, hi3, hn⟩
    have st := st.grown hg3 t42 hi3
    have hs := hs.mono hg3.le
    have hLs : ∀ x ∈ L, SlM m3 x.2 1 x.1.length (bs x.1) := fun x hx => (hLs x hx).mono hg3.le
    rw [if_pos h39] at hnew
    rw [← hnew] at hn
    have ho : v42.oneCell' = true := by obtain ⟨_, a, c, h, _⟩ := hn; rw [h]; rfl
    refine wl_val (v_assign' (by conv => (lhs; whnf))) rfl ?_
    refine wl_nil ?_
    refine then_go ?_
    refine wc_seq ?_
    refine wc_region ?_
    refine wl_val (v_move' (by conv => (lhs; whnf))) rfl ?_
    refine wl_svOne Try.underlying102 TF.t41 TF.z41 ho rfl st rfl ?_
    intro b47 w st
    have st := st.rowShut 0 (b := b47) (k := 1) (cap := 1) (size := 1) (xs := [v42]) rfl (by omega) rfl (by omega) rfl
    have st : St m m3 [] wI w [lsE 41 1 svC (.slice (some ⟨b47, 0, none⟩) 1 1) [(hB idx dd (p.S.drop dd) e, v42)], K.blk b9 (bs p.S[dd]).toArray 23, K.blk b8 (bs (sum B)).toArray 23, lsE 41 1 svC v6 L, K.blk b3 (prC (.slice (some ⟨da, doo, none⟩) p.S.length sc) p.E p.I p.V) 40, K.blk b2 (arr idx).cells 23] := st
    have hrd6 := st.lsRd 3 rfl (fun _ _ => rfl)
    have hone6 : ∀ u ∈ L.flatMap svC, u.oneCell' = true := by
     intro u hu
     obtain ⟨x, hx, h⟩ := List.mem_flatMap.1 hu
     simp [svC] at h
     obtain ⟨_, a, c, h2, _⟩ := hLs x hx
     rw [h, h2]
     rfl
    refine wl_val (v_assign' (by conv => (lhs; whnf))) rfl ?_
    refine wl_nil ?_
    refine then_go ?_
    refine wc_seq ?_
    refine wc_region ?_
    refine wl_val (v_move' (by conv => (lhs; whnf))) rfl ?_
    refine wl_val (v_move' (by conv => (lhs; whnf))) rfl ?_
    refine wl_append (news := L.flatMap svC) 0 st rfl Try.underlying102 Try.underlying102 (.inr ⟨_, rfl⟩) TF.t41 TF.z41 rfl rfl rfl (hrd6.row.src (im_heapM _) hone6) (by simp only [List.length_cons, List.length_nil]; omega) (by simp only [List.length_cons, List.length_nil]; omega) rfl ?_
    intro v50 w _ st
    have st : St m m3 [] wI w [lsE 41 1 svC v50 ((hB idx dd (p.S.drop dd) e, v42) :: L), K.blk b9 (bs p.S[dd]).toArray 23, K.blk b8 (bs (sum B)).toArray 23, lsE 41 1 svC v6 L, K.blk b3 (prC (.slice (some ⟨da, doo, none⟩) p.S.length sc) p.E p.I p.V) 40, K.blk b2 (arr idx).cells 23] := by
     have e1 : ([(hB idx dd (p.S.drop dd) e, v42)] : List (By × Value)).length + L.length = ((hB idx dd (p.S.drop dd) e, v42) :: L).length := by simp; omega
     have e2 : ([(hB idx dd (p.S.drop dd) e, v42)] : List (By × Value)).flatMap svC ++ L.flatMap svC = ((hB idx dd (p.S.drop dd) e, v42) :: L).flatMap svC := by simp
     rw [e1, e2] at st
     exact st
    refine wl_val (v_assign' (by conv => (lhs; whnf))) rfl ?_
    refine wl_nil ?_
    refine then_go ?_
    refine wc_region ?_
    refine wl_val (v_move' (by conv => (lhs; whnf))) rfl ?_
    refine wl_val (v_assign' (by conv => (lhs; whnf))) rfl ?_
    refine wl_nil ?_
    refine block_go (then_go ?_)
    refine wc_region ?_
    refine wl_val (v_move' (by conv => (lhs; whnf))) rfl ?_
    refine wl_val (v_sub' (c := (p.S.length : Int) - 1 - ((k + 1 : Nat) : Int)) rfl rfl (by omega) (by omega) (by omega)) rfl ?_
    refine wl_val (v_assign' (by conv => (lhs; whnf))) rfl ?_
    refine wl_nil ?_
    refine then_go ?_
    exact ⟨q - 1, by simp; omega, k + 1, _, v42, v50, m3, by omega, rfl, rfl, rfl, rfl, rfl, by rw [show p.S.length - (k + 1) = dd by omega]; exact hLn v42, (fun x hx => by rcases List.mem_cons.1 hx with h | h; rw [h]; exact hn; exact hLs x h), by rw [show p.S.length - (k + 1) = dd by omega]; exact hn, hs, ((st.drop 1).drop 1).drop 1⟩
   ·refine wc_region ?_
    refine wl_val (v_load rfl (st.reads (v := arr (sum B)) 1 rfl TF.t23 (getV_all (by simp [length_bs, length_sum])))) rfl ?_
    refine wl_val (v_load rfl (st.reads (v := arr p.S[dd]) 0 rfl TF.t23 (getV_all (by simp [length_bs, hSd])))) rfl ?_
    refine wl_call rfl (c_rnodeb st.im (length_sum _) hSd) rfl ?_
    rintro v42 w ⟨t42, m3, hg3, hi3, hn⟩
    have st := st.grown hg3 t42 hi3
    have hs := hs.mono hg3.le
    have hLs : ∀ x ∈ L, SlM m3 x.2 1 x.1.length (bs x.1) := fun x hx => (hLs x hx).mono hg3.le
    rw [if_neg (by rw [h39]; simp)] at hnew
    rw [← hnew] at hn
    have ho : v42.oneCell' = true := by obtain ⟨_, a, c, h, _⟩ := hn; rw [h]; rfl
    refine wl_val (v_assign' (by conv => (lhs; whnf))) rfl ?_
    refine wl_nil ?_
    refine then_go ?_
    refine wc_seq ?_
    refine wc_region ?_
    refine wl_val (v_move' (by conv => (lhs; whnf))) rfl ?_
    refine wl_svOne Try.underlying102 TF.t41 TF.z41 ho rfl st rfl ?_
    intro b47 w st
    have st := st.rowShut 0 (b := b47) (k := 1) (cap := 1) (size := 1) (xs := [v42]) rfl (by omega) rfl (by omega) rfl
    have st : St m m3 [] wI w [lsE 41 1 svC (.slice (some ⟨b47, 0, none⟩) 1 1) [(hB idx dd (p.S.drop dd) e, v42)], K.blk b9 (bs p.S[dd]).toArray 23, K.blk b8 (bs (sum B)).toArray 23, lsE 41 1 svC v6 L, K.blk b3 (prC (.slice (some ⟨da, doo, none⟩) p.S.length sc) p.E p.I p.V) 40, K.blk b2 (arr idx).cells 23] := st
    have hrd6 := st.lsRd 3 rfl (fun _ _ => rfl)
    have hone6 : ∀ u ∈ L.flatMap svC, u.oneCell' = true := by
     intro u hu
     obtain ⟨x, hx, h⟩ := List.mem_flatMap.1 hu
     simp [svC] at h
     obtain ⟨_, a, c, h2, _⟩ := hLs x hx
     rw [h, h2]
     rfl
    refine wl_val (v_assign' (by conv => (lhs; whnf))) rfl ?_
    refine wl_nil ?_
    refine then_go ?_
    refine wc_seq ?_
    refine wc_region ?_
    refine wl_val (v_move' (by conv => (lhs; whnf))) rfl ?_
    refine wl_val (v_move' (by conv => (lhs; whnf))) rfl ?_
    refine wl_append (news := L.flatMap svC) 0 st rfl Try.underlying102 Try.underlying102 (.inr ⟨_, rfl⟩) TF.t41 TF.z41 rfl rfl rfl (hrd6.row.src (im_heapM _) hone6) (by simp only [List.length_cons, List.length_nil]; omega) (by simp only [List.length_cons, List.length_nil]; omega) rfl ?_
    intro v50 w _ st
    have st : St m m3 [] wI w [lsE 41 1 svC v50 ((hB idx dd (p.S.drop dd) e, v42) :: L), K.blk b9 (bs p.S[dd]).toArray 23, K.blk b8 (bs (sum B)).toArray 23, lsE 41 1 svC v6 L, K.blk b3 (prC (.slice (some ⟨da, doo, none⟩) p.S.length sc) p.E p.I p.V) 40, K.blk b2 (arr idx).cells 23] := by
     have e1 : ([(hB idx dd (p.S.drop dd) e, v42)] : List (By × Value)).length + L.length = ((hB idx dd (p.S.drop dd) e, v42) :: L).length := by simp; omega
     have e2 : ([(hB idx dd (p.S.drop dd) e, v42)] : List (By × Value)).flatMap svC ++ L.flatMap svC = ((hB idx dd (p.S.drop dd) e, v42) :: L).flatMap svC := by simp
     rw [e1, e2] at st
     exact st
    refine wl_val (v_assign' (by conv => (lhs; whnf))) rfl ?_
    refine wl_nil ?_
    refine then_go ?_
    refine wc_region ?_
    refine wl_val (v_move' (by conv => (lhs; whnf))) rfl ?_
    refine wl_val (v_assign' (by conv => (lhs; whnf))) rfl ?_
    refine wl_nil ?_
    refine block_go (then_go ?_)
    refine wc_region ?_
    refine wl_val (v_move' (by conv => (lhs; whnf))) rfl ?_
    refine wl_val (v_sub' (c := (p.S.length : Int) - 1 - ((k + 1 : Nat) : Int)) rfl rfl (by omega) (by omega) (by omega)) rfl ?_
    refine wl_val (v_assign' (by conv => (lhs; whnf))) rfl ?_
    refine wl_nil ?_
    refine then_go ?_
    exact ⟨q - 1, by simp; omega, k + 1, _, v42, v50, m3, by omega, rfl, rfl, rfl, rfl, rfl, by rw [show p.S.length - (k + 1) = dd by omega]; exact hLn v42, (fun x hx => by rcases List.mem_cons.1 hx with h | h; rw [h]; exact hn; exact hLs x h), by rw [show p.S.length - (k + 1) = dd by omega]; exact hn, hs, ((st.drop 1).drop 1).drop 1⟩
  ·refine wc_exit (then_exit (then_exit (block_hit ?_)))
   refine then_go ?_
   refine wc_seq ?_
   refine wc_region ?_
   refine wl_val (v_move' (by conv => (lhs; whnf))) rfl ?_
   refine wl_val (v_assign' (by conv => (lhs; whnf))) rfl ?_
   refine wl_nil ?_
   refine then_go ?_
   refine wc_ret ?_
   have hkn : k = p.S.length := by omega
   subst hkn
   rw [Nat.sub_self, List.drop_zero] at hL
   obtain ⟨m4, hg4, hq4, st⟩ := st.keepLs (i := 0) rfl (fun _ _ => rfl)
   exact ret1 rfl ((st.keepOnly (l := []) (List.nil_sublist _)).out ⟨L, pcs_of hq4 (fun x hx => (hLs x hx).mono hg4.le), by rw [hL, hee]⟩)
theorem c_rproot {v : Value} {idx : By} {p : Prf} (him : Im m wI) (hx : idx.length = 32) (hp : PrM m v p) (hS : p.S.length ≤ 300) :
  Ret Try.prog 79 #[arr idx, v] wI fun v' w' => Out m wI w' fun _ => v' = arr (rootH idx p) := by
 have st := St.start him
 have hp0 := hp
 obtain ⟨sv, rfl, hs, hI, hV⟩ := hp
 refine ret_of Try.call79 Try.func79 rfl Try.ntmps79 Try.results79 rfl ?_
 refine wc_seq ?_
 refine wc_region ?_
 refine wl_box (v := arr idx) rfl st rfl ?_
 intro b2 w st
 refine wl_box (v := .agg (prC sv p.E p.I p.V)) rfl st rfl ?_
 intro b3 w st
 refine wl_alloc TF.z23 st rfl ?_
 intro b4 w st
 refine wl_nil ?_
 refine then_go ?_
 refine wc_seq ?_
 refine wc_region ?_
 refine wl_val (v_load rfl (st.reads (v := arr idx) 2 rfl TF.t23 (getV_all (by rw [size_arr, hx])))) rfl ?_
 refine wl_val (v_load rfl (st.reads (v := .agg (prC sv p.E p.I p.V)) 1 rfl TF.t40 (getV_all (size_prC hI hV)))) rfl ?_
 refine wl_call rfl (c_rhashed st.im hx hp0 hS) rfl ?_
 rintro v7 w ⟨t7, m1, hg1, hi1, L, hpc, hL⟩
 have st := st.grown hg1 t7 hi1
 have hLl : L.length = p.S.length + 1 := by
  have := congrArg List.length hL
  rw [List.length_map, length_hashedL] at this
  exact this
 have h0 : 0 < L.length := by omega
 obtain ⟨T, hT⟩ := hashedL_cons (idx := idx) (d := 0) (S := p.S) (e := endB p)
 have hfst : L[0].1 = hB idx 0 p.S (endB p) := by
  have h1 : (L.map (·.1))[0]? = some L[0].1 := by simp [h0]
  rw [hL, hT] at h1
  simp at h1
  exact h1.symm
 obtain ⟨lb, lo, lcap, hlv, hel, hrd⟩ := hpc.elem h0
 subst hlv
 have hbl : L[0].1.length ≤ 65 := by rw [hfst]; exact hB_len hs.1 (endB_len hI hV)
 refine wl_val (v_ias 0 Try.underlying102 TF.t41 rfl rfl (by first | rfl | omega) (by first | omega | (dsimp only at *; omega))) rfl ?_
 refine wl_val (v_load rfl (hrd st.im)) rfl ?_
 refine wl_call rfl (c_ref3of st.im hel (by omega)) rfl ?_
 rintro v10 w ⟨t10, rfl⟩
 have st := st.pure t10
 refine wl_storeW (cs := (bs (sum L[0].1)).toArray) 0 st rfl TF.t23 rfl rfl (by simp [length_bs, length_sum]) rfl (fun u hu => one_bs _ u (by simpa using hu)) ?_
 intro w st
 refine wl_nil ?_
 refine then_go ?_
 refine wc_ret ?_
 exact ret1c rfl (st.reads 0 rfl TF.t23 (getV_all (by simp [length_bs, length_sum]))) ((st.keepOnly (l := []) (List.nil_sublist _)).out (by rw [rootH, ← hfst]; rfl))
end
end Go.Proofs.Ytjjpakjgppmmdaa

namespace Go.Proofs.Ytjjpakjgppmmdaa
open Go Go.RowKit K SH PT
def provesP (root idx : By) (p : Prf) : Prop := rightP p ∧ (p.E = 1 → p.S.length ≤ common p.I idx) ∧ rootH idx p = root
instance {root idx : By} {p : Prf} : Decidable (provesP root idx p) := by unfold provesP; infer_instance
def chkE (root idx : By) (p : Prf) : Int := if provesP root idx p then 0 else 15
def chkT (root idx : By) (p : Prf) : Prop := provesP root idx p ∧ p.E = 1 ∧ p.I = idx
instance {root idx : By} {p : Prf} : Decidable (chkT root idx p) := by unfold chkT; infer_instance
def chkV (root idx : By) (p : Prf) : By := if chkT root idx p then p.V else z32
def chkR (root idx : By) (p : Prf) : Value := .tuple #[arr (chkV root idx p), .bool (decide (chkT root idx p)), .int .i64 (chkE root idx p)]
theorem chk_no {root idx : By} {p : Prf} (h : ¬ provesP root idx p) : chkR root idx p = .tuple #[arr z32, .bool false, .int .i64 15] := by
 have h2 : ¬ chkT root idx p := fun hc => h hc.1
 unfold chkR chkV chkE
 rw [if_neg h2, if_neg h, decide_eq_false h2]
theorem chk_yes {root idx : By} {p : Prf} (h : chkT root idx p) : chkR root idx p = .tuple #[arr p.V, .bool true, .int .i64 0] := by
 unfold chkR chkV chkE
 rw [if_pos h, if_pos h.1, decide_eq_true h]
theorem chk_off {root idx : By} {p : Prf} (h : provesP root idx p) (h2 : ¬ (p.E = 1 ∧ p.I = idx)) : chkR root idx p = .tuple #[arr z32, .bool false, .int .i64 0] := by
 have h3 : ¬ chkT root idx p := fun hc => h2 hc.2
 unfold chkR chkV chkE
 rw [if_neg h3, if_pos h, decide_eq_false h3]
theorem ret3c {P : Program} {R : Value → World → Prop} {r : Fr} {w : World} {t T u s : Nat} {p : Addr} {v v' v'' : Value} (ht : r t = .pointer (some p)) (hr : Reads P w T p v) (hu : r u = v') (hs : r s = v'') (h : R (.tuple #[v, v', v'']) w) : bodyQ P [.cell t T, .tmp u, .tmp s] R .ret r w :=
 ⟨[v, v', v''], ⟨⟨p, ht, hr⟩, hu, hs, trivial⟩, h⟩
section
variable {m : Mem} {wI : World}
theorem c_pcheck {v : Value} {root idx : By} {p : Prf} (him : Im m wI) (hr : root.length = 32) (hx : idx.length = 32) (hp : PrM m v p) :
  Ret Try.prog 49 #[arr root, arr idx, v] wI fun v' w' => Out m wI w' fun _ => v' = chkR root idx p := by
 have st := St.start him
 have hp0 := hp
 obtain ⟨sv, rfl, hs, hI, hV⟩ := hp
 obtain ⟨sa, sc, rfl⟩ := hs.sl
 refine ret_of Try.call49 Try.func49 rfl Try.ntmps49 Try.results49 rfl ?_
 refine wc_seq ?_
 refine wc_region ?_
 refine wl_box (v := arr root) rfl st rfl ?_
 intro b3 w st
 refine wl_box (v := arr idx) rfl st rfl ?_
 intro b4 w st
 refine wl_box (v := .agg (prC (.slice sa p.S.length sc) p.E p.I p.V)) rfl st rfl ?_
 intro b5 w st
 refine wl_alloc TF.z23 st rfl ?_
 intro b6 w st
 refine wl_val (v_assign' (by conv => (lhs; whnf))) rfl ?_
 refine wl_val (v_assign' (by conv => (lhs; whnf))) rfl ?_
 refine wl_nil ?_
 refine then_go ?_
 refine wc_seq ?_
 refine wc_block ?_
 refine wc_seq ?_
 refine wc_block ?_
 refine wc_block ?_
 refine wc_block ?_
 refine wc_seq ?_
 refine wc_seq ?_
 refine wc_seq ?_
 refine wc_region ?_
 refine wl_val (v_load rfl (st.reads (v := .agg (prC (.slice sa p.S.length sc) p.E p.I p.V)) 1 rfl TF.t40 (getV_all (size_prC hI hV)))) rfl ?_
 refine wl_call rfl (c_right st.im hp0) rfl ?_
 rintro v11 w ⟨t11, rfl⟩
 have st := st.pure t11
 refine wl_val (v_not rfl) rfl ?_
 refine wl_val (v_assign' (by conv => (lhs; whnf))) rfl ?_
 refine wl_nil ?_
 refine then_go ?_
 refine wc_cond rfl (fun h9 => ?_) (fun h9 => ?_)
 ·refine wc_exit (then_exit (then_exit (block_hit ?_)))
  refine block_go (block_go (then_go ?_))
  refine wc_seq ?_
  refine wc_seq ?_
  refine wc_region ?_
  refine wl_val v_z32 rfl ?_
  refine wl_storeW (cs := (bs z32).toArray) 0 st rfl TF.t23 rfl rfl rfl rfl (fun u hu => one_bs z32 u (by simpa using hu)) ?_
  intro w st
  refine wl_val (v_assign' (by conv => (lhs; whnf))) rfl ?_
  refine wl_val (v_assign' (by conv => (lhs; whnf))) rfl ?_
  refine wl_nil ?_
  refine then_go ?_
  refine wc_ret (then_ret (block_ret (then_ret ?_)))
  have hno : ¬ provesP root idx p := fun hc => by have := hc.1; simp [this] at h9
  exact ret3c rfl (st.reads 0 rfl TF.t23 (getV_all rfl)) rfl rfl ((st.keepOnly (l := []) (List.nil_sublist _)).out (by rw [chk_no hno]; rfl))
 ·refine wc_skip ?_
  refine then_go ?_
  refine wc_seq ?_
  refine wc_seq ?_
  refine wc_region ?_
  refine wl_val (v_fa TF.f40_1 rfl) rfl ?_
  refine wl_val (v_load rfl (st.reads (v := .int .i64 p.E) 1 rfl TF.t3 prC_E)) rfl ?_
  refine wl_val (v_eql rfl rfl) rfl ?_
  refine wl_val (v_move' (by conv => (lhs; whnf))) rfl ?_
  by_cases hg3 : p.E = 1
  ·rw [show decide (p.E = 1) = true from decide_eq_true hg3]
   refine wl_on rfl rfl ?_
   refine wl_val (v_fa TF.f40_2 rfl) rfl ?_
   refine wl_on rfl rfl ?_
   refine wl_val (v_load rfl (st.reads (v := arr p.I) 1 rfl TF.t23 (prC_I hI))) rfl ?_
   refine wl_on rfl rfl ?_
   refine wl_val (v_load rfl (st.reads (v := arr idx) 2 rfl TF.t23 (getV_all (by rw [size_arr, hx])))) rfl ?_
   refine wl_on rfl rfl ?_
   refine wl_val (v_fa TF.f40_0 rfl) rfl ?_
   refine wl_on rfl rfl ?_
   refine wl_val (v_load rfl (st.reads (v := .slice sa p.S.length sc) 1 rfl TF.t38 prC_S)) rfl ?_
   refine wl_on rfl rfl ?_
   refine wl_val (v_len_s Try.underlying38 rfl) rfl ?_
   refine wl_on rfl rfl ?_
   refine wl_call rfl (c_under st.im hI hx) rfl ?_
   rintro v24 w ⟨t24, rfl⟩
   have st := st.pure t24
   refine wl_on rfl rfl ?_
   refine wl_val (v_not rfl) rfl ?_
   refine wl_val (v_pick rfl) rfl ?_
   refine wl_val (v_assign' (by conv => (lhs; whnf))) rfl ?_
   refine wl_nil ?_
   refine then_go ?_
   refine wc_cond rfl (fun h13 => ?_) (fun h13 => ?_)
   ·refine wc_exit (then_exit (then_exit (block_miss rfl (block_hit ?_))))
    refine block_go (then_go ?_)
    refine wc_seq ?_
    refine wc_seq ?_
    refine wc_region ?_
    refine wl_val v_z32 rfl ?_
    refine wl_storeW (cs := (bs z32).toArray) 0 st rfl TF.t23 rfl rfl rfl rfl (fun u hu => one_bs z32 u (by simpa using hu)) ?_
    intro w st
    refine wl_val (v_assign' (by conv => (lhs; whnf))) rfl ?_
    refine wl_val (v_assign' (by conv => (lhs; whnf))) rfl ?_
    refine wl_nil ?_
    refine then_go ?_
    refine wc_ret (then_ret (block_ret (then_ret ?_)))
    have hno : ¬ provesP root idx p := fun hc => by have := hc.2.1 hg3; simp at h13; omega
    exact ret3c rfl (st.reads 0 rfl TF.t23 (getV_all rfl)) rfl rfl ((st.keepOnly (l := []) (List.nil_sublist _)).out (by rw [chk_no hno]; rfl))
   ·refine wc_skip ?_
    refine then_go ?_
    refine wc_seq ?_
    have hok : rightP p := by simpa using h9
    refine wc_draw TF.mixed ?_
    have st := st.pure (touch_drew _)
    refine fl_ld 0 rfl (v_load rfl (st.reads (v := arr idx) 2 rfl TF.t23 (getV_all (by rw [size_arr, hx])))) (by kernel_rfl) ?_
    refine fl_ld 1 rfl (v_load rfl (st.reads (v := .agg (prC (.slice sa p.S.length sc) p.E p.I p.V)) 1 rfl TF.t40 (getV_all (size_prC hI hV)))) (by kernel_rfl) ?_
    refine fl_ld 3 rfl (v_load rfl (st.reads (v := arr root) 3 rfl TF.t23 (getV_all (by rw [size_arr, hr])))) (by kernel_rfl) ?_
    refine fl_eff1 2 [] [3] (by kernel_rfl) ⟨obl_ld rfl rfl rfl (v_load rfl (st.reads (v := arr root) 3 rfl TF.t23 (getV_all (by rw [size_arr, hr])))), obl_ld rfl rfl rfl (v_load rfl (st.reads (v := .agg (prC (.slice sa p.S.length sc) p.E p.I p.V)) 1 rfl TF.t40 (getV_all (size_prC hI hV)))), obl_ld rfl rfl rfl (v_load rfl (st.reads (v := arr idx) 2 rfl TF.t23 (getV_all (by rw [size_arr, hx])))), trivial⟩ rfl ?_
    refine wl_call rfl (c_proot st.im hx hp0 (by have := hok.1; omega)) rfl ?_
    rintro v30 w ⟨t30, m1, hg1, hi1, rfl⟩
    have st := st.grown hg1 t30 hi1
    refine wl_nil ⟨rfl, ?_⟩
    refine fl_val 4 rfl (fun _ => (v_neD rfl rfl (length_sum _) hr)) rfl (by kernel_rfl) ?_
    refine fl_eff1 5 [] [3] (by kernel_rfl) ⟨obl_ld rfl rfl rfl (v_load rfl (st.reads (v := arr root) 3 rfl TF.t23 (getV_all (by rw [size_arr, hr])))), trivial⟩ rfl ?_
    refine wl_val (v_assign' (by conv => (lhs; whnf))) rfl ?_
    refine wl_nil ⟨rfl, ?_⟩
    refine fl_nil (by kernel_rfl) ⟨obl_ld rfl rfl rfl (v_load rfl (st.reads (v := arr root) 3 rfl TF.t23 (getV_all (by rw [size_arr, hr])))), trivial⟩ ?_
    refine then_go ?_
    refine wc_if rfl (fun h27 => ?_) (fun h27 => ?_)
    ·refine wc_exit (then_exit (block_miss rfl (block_miss rfl (block_hit ?_))))
     refine then_go ?_
     refine wc_seq ?_
     refine wc_seq ?_
     refine wc_region ?_
     refine wl_val v_z32 rfl ?_
     refine wl_storeW (cs := (bs z32).toArray) 0 st rfl TF.t23 rfl rfl rfl rfl (fun u hu => one_bs z32 u (by simpa using hu)) ?_
     intro w st
     refine wl_val (v_assign' (by conv => (lhs; whnf))) rfl ?_
     refine wl_val (v_assign' (by conv => (lhs; whnf))) rfl ?_
     refine wl_nil ?_
     refine then_go ?_
     refine wc_ret (then_ret (block_ret (then_ret ?_)))
     have hno : ¬ provesP root idx p := fun hc => h27 hc.2.2
     exact ret3c rfl (st.reads 0 rfl TF.t23 (getV_all rfl)) rfl rfl ((st.keepOnly (l := []) (List.nil_sublist _)).out (by rw [chk_no hno]; rfl))
    ·refine wc_skip ?_
     refine then_go ?_
     refine wc_exit (block_miss rfl (block_miss rfl (block_miss rfl (then_exit (block_hit ?_)))))
     refine then_go ?_
     refine wc_seq ?_
     refine wc_seq ?_
     refine wc_region ?_
     refine wl_val (v_fa TF.f40_1 rfl) rfl ?_
     refine wl_val (v_load rfl (st.reads (v := .int .i64 p.E) 1 rfl TF.t3 prC_E)) rfl ?_
     refine wl_val (v_eqlT hg3 rfl rfl) rfl ?_
     refine wl_val (v_move' (by conv => (lhs; whnf))) rfl ?_
     refine wl_on rfl rfl ?_
     refine wl_val (v_fa TF.f40_2 rfl) rfl ?_
     refine wl_on rfl rfl ?_
     refine wl_val (v_load rfl (st.reads (v := arr p.I) 1 rfl TF.t23 (prC_I hI))) rfl ?_
     refine wl_on rfl rfl ?_
     refine wl_val (v_load rfl (st.reads (v := arr idx) 2 rfl TF.t23 (getV_all (by rw [size_arr, hx])))) rfl ?_
     refine wl_on rfl rfl ?_
     refine wl_val (v_eqD rfl rfl hI hx) rfl ?_
     refine wl_val (v_pick rfl) rfl ?_
     refine wl_nil ?_
     refine then_go ?_
     refine wc_if rfl (fun h42 => ?_) (fun h42 => ?_)
     ·refine wc_seq ?_
      refine wc_region ?_
      refine wl_val (v_fa TF.f40_3 rfl) rfl ?_
      refine wl_val (v_load rfl (st.reads (v := arr p.V) 1 rfl TF.t23 (prC_V hI hV))) rfl ?_
      refine wl_storeW (cs := (bs p.V).toArray) 0 st rfl TF.t23 rfl rfl (by simp [length_bs, hV]) rfl (fun u hu => one_bs _ u (by simpa using hu)) ?_
      intro w st
      refine wl_val (v_assign' (by conv => (lhs; whnf))) rfl ?_
      refine wl_val (v_assign' (by conv => (lhs; whnf))) rfl ?_
      refine wl_nil ?_
      refine then_go ?_
      refine wc_ret (then_ret ?_)
      have hyes : provesP root idx p := ⟨hok, fun _ => by simp at h13; omega, Decidable.not_not.1 h27⟩
      exact ret3c rfl (st.reads 0 rfl TF.t23 (getV_all (by simp [length_bs, hV]))) rfl rfl ((st.keepOnly (l := []) (List.nil_sublist _)).out (by rw [chk_yes ⟨hyes, hg3, h42⟩]; rfl))
     ·refine wc_skip ?_
      refine then_go ?_
      refine wc_seq ?_
      refine wc_region ?_
      refine wl_val v_z32 rfl ?_
      refine wl_storeW (cs := (bs z32).toArray) 0 st rfl TF.t23 rfl rfl rfl rfl (fun u hu => one_bs z32 u (by simpa using hu)) ?_
      intro w st
      refine wl_val (v_assign' (by conv => (lhs; whnf))) rfl ?_
      refine wl_val (v_assign' (by conv => (lhs; whnf))) rfl ?_
      refine wl_nil ?_
      refine then_go ?_
      refine wc_ret ?_
      have hyes : provesP root idx p := ⟨hok, fun _ => by simp at h13; omega, Decidable.not_not.1 h27⟩
      exact ret3c rfl (st.reads 0 rfl TF.t23 (getV_all rfl)) rfl rfl ((st.keepOnly (l := []) (List.nil_sublist _)).out (by rw [chk_off hyes (fun hc => h42 hc.2)]; rfl))
  ·rw [show decide (p.E = 1) = false from decide_eq_false hg3]
   refine wl_off rfl rfl rfl rfl ?_
   refine wl_off rfl rfl rfl rfl ?_
   refine wl_off rfl rfl rfl rfl ?_
   refine wl_off rfl rfl rfl rfl ?_
   refine wl_off rfl rfl rfl rfl ?_
   refine wl_off rfl rfl rfl rfl ?_
   refine wl_off rfl rfl rfl rfl ?_
   refine wl_off rfl rfl rfl rfl ?_
   refine wl_val (v_pick rfl) rfl ?_
   refine wl_val (v_assign' (by conv => (lhs; whnf))) rfl ?_
   refine wl_nil ?_
   refine then_go ?_
   refine wc_false rfl ?_
   refine wc_skip ?_
   refine then_go ?_
   refine wc_seq ?_
   have hok : rightP p := by simpa using h9
   refine wc_draw TF.mixed ?_
   have st := st.pure (touch_drew _)
   refine fl_ld 0 rfl (v_load rfl (st.reads (v := arr idx) 2 rfl TF.t23 (getV_all (by rw [size_arr, hx])))) (by kernel_rfl) ?_
   refine fl_ld 1 rfl (v_load rfl (st.reads (v := .agg (prC (.slice sa p.S.length sc) p.E p.I p.V)) 1 rfl TF.t40 (getV_all (size_prC hI hV)))) (by kernel_rfl) ?_
   refine fl_ld 3 rfl (v_load rfl (st.reads (v := arr root) 3 rfl TF.t23 (getV_all (by rw [size_arr, hr])))) (by kernel_rfl) ?_
   refine fl_eff1 2 [] [3] (by kernel_rfl) ⟨obl_ld rfl rfl rfl (v_load rfl (st.reads (v := arr root) 3 rfl TF.t23 (getV_all (by rw [size_arr, hr])))), obl_ld rfl rfl rfl (v_load rfl (st.reads (v := .agg (prC (.slice sa p.S.length sc) p.E p.I p.V)) 1 rfl TF.t40 (getV_all (size_prC hI hV)))), obl_ld rfl rfl rfl (v_load rfl (st.reads (v := arr idx) 2 rfl TF.t23 (getV_all (by rw [size_arr, hx])))), trivial⟩ rfl ?_
   refine wl_call rfl (c_proot st.im hx hp0 (by have := hok.1; omega)) rfl ?_
   rintro v30 w ⟨t30, m1, hg1, hi1, rfl⟩
   have st := st.grown hg1 t30 hi1
   refine wl_nil ⟨rfl, ?_⟩
   refine fl_val 4 rfl (fun _ => (v_neD rfl rfl (length_sum _) hr)) rfl (by kernel_rfl) ?_
   refine fl_eff1 5 [] [3] (by kernel_rfl) ⟨obl_ld rfl rfl rfl (v_load rfl (st.reads (v := arr root) 3 rfl TF.t23 (getV_all (by rw [size_arr, hr])))), trivial⟩ rfl ?_
   refine wl_val (v_assign' (by conv => (lhs; whnf))) rfl ?_
   refine wl_nil ⟨rfl, ?_⟩
   refine fl_nil (by kernel_rfl) ⟨obl_ld rfl rfl rfl (v_load rfl (st.reads (v := arr root) 3 rfl TF.t23 (getV_all (by rw [size_arr, hr])))), trivial⟩ ?_
   refine then_go ?_
   refine wc_if rfl (fun h27 => ?_) (fun h27 => ?_)
   ·refine wc_exit (then_exit (block_miss rfl (block_miss rfl (block_hit ?_))))
    refine then_go ?_
    refine wc_seq ?_
    refine wc_seq ?_
    refine wc_region ?_
    refine wl_val v_z32 rfl ?_
    refine wl_storeW (cs := (bs z32).toArray) 0 st rfl TF.t23 rfl rfl rfl rfl (fun u hu => one_bs z32 u (by simpa using hu)) ?_
    intro w st
    refine wl_val (v_assign' (by conv => (lhs; whnf))) rfl ?_
    refine wl_val (v_assign' (by conv => (lhs; whnf))) rfl ?_
    refine wl_nil ?_
    refine then_go ?_
    refine wc_ret (then_ret (block_ret (then_ret ?_)))
    have hno : ¬ provesP root idx p := fun hc => h27 hc.2.2
    exact ret3c rfl (st.reads 0 rfl TF.t23 (getV_all rfl)) rfl rfl ((st.keepOnly (l := []) (List.nil_sublist _)).out (by rw [chk_no hno]; rfl))
   ·refine wc_skip ?_
    refine then_go ?_
    refine wc_exit (block_miss rfl (block_miss rfl (block_miss rfl (then_exit (block_hit ?_)))))
    refine then_go ?_
    refine wc_seq ?_
    refine wc_seq ?_
    refine wc_region ?_
    refine wl_val (v_fa TF.f40_1 rfl) rfl ?_
    refine wl_val (v_load rfl (st.reads (v := .int .i64 p.E) 1 rfl TF.t3 prC_E)) rfl ?_
    refine wl_val (v_eqlF hg3 rfl rfl) rfl ?_
    refine wl_val (v_move' (by conv => (lhs; whnf))) rfl ?_
    refine wl_off rfl rfl rfl rfl ?_
    refine wl_off rfl rfl rfl rfl ?_
    refine wl_off rfl rfl rfl rfl ?_
    refine wl_off rfl rfl rfl rfl ?_
    refine wl_val (v_pick rfl) rfl ?_
    refine wl_nil ?_
    refine then_go ?_
    refine wc_false rfl ?_
    refine wc_skip ?_
    refine then_go ?_
    refine wc_seq ?_
    refine wc_region ?_
    refine wl_val v_z32 rfl ?_
    refine wl_storeW (cs := (bs z32).toArray) 0 st rfl TF.t23 rfl rfl rfl rfl (fun u hu => one_bs z32 u (by simpa using hu)) ?_
    intro w st
    refine wl_val (v_assign' (by conv => (lhs; whnf))) rfl ?_
    refine wl_val (v_assign' (by conv => (lhs; whnf))) rfl ?_
    refine wl_nil ?_
    refine then_go ?_
    refine wc_ret ?_
    have hyes : provesP root idx p := ⟨hok, fun hc => (hg3 hc).elim, Decidable.not_not.1 h27⟩
    exact ret3c rfl (st.reads 0 rfl TF.t23 (getV_all rfl)) rfl rfl ((st.keepOnly (l := []) (List.nil_sublist _)).out (by rw [chk_off hyes (fun hc => hg3 hc.1)]; rfl))
theorem c_rpcheck {v : Value} {root idx : By} {p : Prf} (him : Im m wI) (hr : root.length = 32) (hx : idx.length = 32) (hp : PrM m v p) :
  Ret Try.prog 53 #[arr root, arr idx, v] wI fun v' w' => Out m wI w' fun _ => v' = chkR root idx p := by
 have st := St.start him
 have hp0 := hp
 obtain ⟨sv, rfl, hs, hI, hV⟩ := hp
 obtain ⟨sa, sc, rfl⟩ := hs.sl
 refine ret_of Try.call53 Try.func53 rfl Try.ntmps53 Try.results53 rfl ?_
 refine wc_seq ?_
 refine wc_region ?_
 refine wl_box (v := arr root) rfl st rfl ?_
 intro b3 w st
 refine wl_box (v := arr idx) rfl st rfl ?_
 intro b4 w st
 refine wl_box (v := .agg (prC (.slice sa p.S.length sc) p.E p.I p.V)) rfl st rfl ?_
 intro b5 w st
 refine wl_alloc TF.z23 st rfl ?_
 intro b6 w st
 refine wl_val (v_assign' (by conv => (lhs; whnf))) rfl ?_
 refine wl_val (v_assign' (by conv => (lhs; whnf))) rfl ?_
 refine wl_nil ?_
 refine then_go ?_
 refine wc_seq ?_
 refine wc_seq ?_
 by_cases hok : rightP p
 ·by_cases hE : p.E = 1
  ·by_cases hU : (p.S.length : Int) ≤ (common p.I idx : Int)
   ·refine wc_draw TF.mixed ?_
    have st := st.pure (touch_drew _)
    refine fl_ld 0 rfl (v_load rfl (st.reads (v := .agg (prC (.slice sa p.S.length sc) p.E p.I p.V)) 1 rfl TF.t40 (getV_all (size_prC hI hV)))) (by kernel_rfl) ?_
    refine fl_eff1 1 [] [] (by kernel_rfl) ⟨obl_ld rfl rfl rfl (v_load rfl (st.reads (v := .agg (prC (.slice sa p.S.length sc) p.E p.I p.V)) 1 rfl TF.t40 (getV_all (size_prC hI hV)))), trivial⟩ rfl ?_
    refine wl_call rfl (c_rright st.im hp0) rfl ?_
    rintro v10 w ⟨t10, rfl⟩
    have st := st.pure t10
    first
     | rw [show decide (rightP p) = true from decide_eq_true hok]
     | rw [show decide (rightP p) = false from decide_eq_false hok]
    refine wl_nil ⟨rfl, ?_⟩
    refine fl_val 2 rfl (fun _ => (v_not rfl)) rfl (by kernel_rfl) ?_
    refine fl_val 3 rfl (fun _ => (v_move' (by conv => (lhs; whnf)))) rfl (by kernel_rfl) ?_
    refine fl_on 4 rfl rfl rfl rfl (fun _ => (v_fa TF.f40_1 rfl)) rfl (by kernel_rfl) ?_
    refine fl_ond 5 rfl rfl rfl rfl (v_load rfl (st.reads (v := .int .i64 p.E) 1 rfl TF.t3 prC_E)) rfl (by kernel_rfl) ?_
    refine fl_on 6 rfl rfl rfl rfl (fun _ => (v_eqlT hE rfl rfl)) rfl (by kernel_rfl) ?_
    refine fl_on 7 rfl rfl rfl rfl (fun _ => (v_move' (by conv => (lhs; whnf)))) rfl (by kernel_rfl) ?_
    refine fl_on 8 rfl rfl rfl rfl (fun _ => (v_fa TF.f40_2 rfl)) rfl (by kernel_rfl) ?_
    refine fl_ond 9 rfl rfl rfl rfl (v_load rfl (st.reads (v := arr p.I) 1 rfl TF.t23 (prC_I hI))) rfl (by kernel_rfl) ?_
    refine fl_ond 10 rfl rfl rfl rfl (v_load rfl (st.reads (v := arr idx) 2 rfl TF.t23 (getV_all (by rw [size_arr, hx])))) rfl (by kernel_rfl) ?_
    refine fl_on 11 rfl rfl rfl rfl (fun _ => (v_fa TF.f40_0 rfl)) rfl (by kernel_rfl) ?_
    refine fl_ond 12 rfl rfl rfl rfl (v_load rfl (st.reads (v := .slice sa p.S.length sc) 1 rfl TF.t38 prC_S)) rfl (by kernel_rfl) ?_
    refine fl_on 13 rfl rfl rfl rfl (fun _ => (v_len_s Try.underlying38 rfl)) rfl (by kernel_rfl) ?_
    refine fl_eff1 14 [11, 8, 6, 4, 3, 2] [12, 5] (by kernel_rfl) ⟨obl_on rfl rfl rfl rfl rfl (v_load rfl (st.reads (v := .slice sa p.S.length sc) 1 rfl TF.t38 prC_S)), obl_on rfl rfl rfl rfl rfl (v_load rfl (st.reads (v := arr idx) 2 rfl TF.t23 (getV_all (by rw [size_arr, hx])))), obl_on rfl rfl rfl rfl rfl (v_load rfl (st.reads (v := arr p.I) 1 rfl TF.t23 (prC_I hI))), obl_on rfl rfl rfl rfl rfl (v_load rfl (st.reads (v := .int .i64 p.E) 1 rfl TF.t3 prC_E)), trivial⟩ rfl ?_
    refine wl_on rfl rfl ?_
    refine wl_call rfl (c_runder st.im hI hx) rfl ?_
    rintro v23 w ⟨t23, rfl⟩
    have st := st.pure t23
    first
     | rw [show decide ((p.S.length : Int) ≤ (common p.I idx : Int)) = true from decide_eq_true hU]
     | rw [show decide ((p.S.length : Int) ≤ (common p.I idx : Int)) = false from decide_eq_false hU]
    refine wl_nil ⟨rfl, ?_⟩
    refine fl_on 15 rfl rfl rfl rfl (fun _ => (v_not rfl)) rfl (by kernel_rfl) ?_
    refine fl_on 16 rfl rfl rfl rfl (fun _ => (v_pick rfl)) rfl (by kernel_rfl) ?_
    refine fl_val 17 rfl (fun _ => (v_pick rfl)) rfl (by kernel_rfl) ?_
    refine fl_val 18 rfl (fun _ => (v_move' (by conv => (lhs; whnf)))) rfl (by kernel_rfl) ?_
    refine fl_ond 19 rfl rfl rfl rfl (v_load rfl (st.reads (v := arr idx) 2 rfl TF.t23 (getV_all (by rw [size_arr, hx])))) rfl (by kernel_rfl) ?_
    refine fl_ond 20 rfl rfl rfl rfl (v_load rfl (st.reads (v := .agg (prC (.slice sa p.S.length sc) p.E p.I p.V)) 1 rfl TF.t40 (getV_all (size_prC hI hV)))) rfl (by kernel_rfl) ?_
    refine fl_ond 22 rfl rfl rfl rfl (v_load rfl (st.reads (v := arr root) 3 rfl TF.t23 (getV_all (by rw [size_arr, hr])))) rfl (by kernel_rfl) ?_
    refine fl_eff1 21 [17, 16, 15, 11, 8, 6, 4, 3, 2] [22, 12, 5] (by kernel_rfl) ⟨obl_on rfl rfl rfl rfl rfl (v_load rfl (st.reads (v := arr root) 3 rfl TF.t23 (getV_all (by rw [size_arr, hr])))), obl_on rfl rfl rfl rfl rfl (v_load rfl (st.reads (v := .agg (prC (.slice sa p.S.length sc) p.E p.I p.V)) 1 rfl TF.t40 (getV_all (size_prC hI hV)))), obl_on rfl rfl rfl rfl rfl (v_load rfl (st.reads (v := arr idx) 2 rfl TF.t23 (getV_all (by rw [size_arr, hx])))), obl_on rfl rfl rfl rfl rfl (v_load rfl (st.reads (v := .slice sa p.S.length sc) 1 rfl TF.t38 prC_S)), obl_on rfl rfl rfl rfl rfl (v_load rfl (st.reads (v := .int .i64 p.E) 1 rfl TF.t3 prC_E)), trivial⟩ rfl ?_
    refine wl_on rfl rfl ?_
    refine wl_call rfl (c_rproot st.im hx hp0 (by have := hok.1; omega)) rfl ?_
    rintro v30 w ⟨t30, m1, hg1, hi1, rfl⟩
    have st := st.grown hg1 t30 hi1
    refine wl_nil ⟨rfl, ?_⟩
    refine fl_on 23 rfl rfl rfl rfl (fun _ => (v_neD rfl rfl (length_sum _) hr)) rfl (by kernel_rfl) ?_
    refine fl_val 24 rfl (fun _ => (v_pick rfl)) rfl (by kernel_rfl) ?_
    refine fl_nil (by kernel_rfl) ⟨obl_on rfl rfl rfl rfl rfl (v_load rfl (st.reads (v := arr root) 3 rfl TF.t23 (getV_all (by rw [size_arr, hr])))), obl_on rfl rfl rfl rfl rfl (v_load rfl (st.reads (v := .slice sa p.S.length sc) 1 rfl TF.t38 prC_S)), obl_on rfl rfl rfl rfl rfl (v_load rfl (st.reads (v := .int .i64 p.E) 1 rfl TF.t3 prC_E)), trivial⟩ ?_
    refine then_go ?_
    refine wc_if rfl (fun h33 => ?_) (fun h33 => ?_)
    ·refine wc_seq ?_
     refine wc_region ?_
     refine wl_val v_z32 rfl ?_
     refine wl_storeW (cs := (bs z32).toArray) 0 st rfl TF.t23 rfl rfl rfl rfl (fun u hu => one_bs z32 u (by simpa using hu)) ?_
     intro w st
     refine wl_val (v_assign' (by conv => (lhs; whnf))) rfl ?_
     refine wl_val (v_assign' (by conv => (lhs; whnf))) rfl ?_
     refine wl_nil ?_
     refine then_go ?_
     refine wc_ret (then_ret ?_)
     have hno : ¬ provesP root idx p := fun hc => h33 hc.2.2
     exact ret3c rfl (st.reads 0 rfl TF.t23 (getV_all rfl)) rfl rfl ((st.keepOnly (l := []) (List.nil_sublist _)).out (by rw [chk_no hno]; rfl))
    ·refine wc_skip ?_
     refine then_go ?_
     refine wc_seq ?_
     refine wc_seq ?_
     refine wc_region ?_
     refine wl_val (v_fa TF.f40_1 rfl) rfl ?_
     refine wl_val (v_load rfl (st.reads (v := .int .i64 p.E) 1 rfl TF.t3 prC_E)) rfl ?_
     refine wl_val (v_eqlT hE rfl rfl) rfl ?_
     refine wl_val (v_move' (by conv => (lhs; whnf))) rfl ?_
     refine wl_on rfl rfl ?_
     refine wl_val (v_fa TF.f40_2 rfl) rfl ?_
     refine wl_on rfl rfl ?_
     refine wl_val (v_load rfl (st.reads (v := arr p.I) 1 rfl TF.t23 (prC_I hI))) rfl ?_
     refine wl_on rfl rfl ?_
     refine wl_val (v_load rfl (st.reads (v := arr idx) 2 rfl TF.t23 (getV_all (by rw [size_arr, hx])))) rfl ?_
     refine wl_on rfl rfl ?_
     refine wl_val (v_eqD rfl rfl hI hx) rfl ?_
     refine wl_val (v_pick rfl) rfl ?_
     refine wl_nil ?_
     refine then_go ?_
     refine wc_if rfl (fun h43 => ?_) (fun h43 => ?_)
     ·refine wc_seq ?_
      refine wc_region ?_
      refine wl_val (v_fa TF.f40_3 rfl) rfl ?_
      refine wl_val (v_load rfl (st.reads (v := arr p.V) 1 rfl TF.t23 (prC_V hI hV))) rfl ?_
      refine wl_storeW (cs := (bs p.V).toArray) 0 st rfl TF.t23 rfl rfl (by simp [length_bs, hV]) rfl (fun u hu => one_bs _ u (by simpa using hu)) ?_
      intro w st
      refine wl_val (v_assign' (by conv => (lhs; whnf))) rfl ?_
      refine wl_val (v_assign' (by conv => (lhs; whnf))) rfl ?_
      refine wl_nil ?_
      refine then_go ?_
      refine wc_ret (then_ret ?_)
      have hyes : provesP root idx p := ⟨hok, fun _ => by omega, Decidable.not_not.1 h33⟩
      exact ret3c rfl (st.reads 0 rfl TF.t23 (getV_all (by simp [length_bs, hV]))) rfl rfl ((st.keepOnly (l := []) (List.nil_sublist _)).out (by rw [chk_yes ⟨hyes, hE, h43⟩]; rfl))
     ·refine wc_skip ?_
      refine then_go ?_
      refine wc_seq ?_
      refine wc_region ?_
      refine wl_val v_z32 rfl ?_
      refine wl_storeW (cs := (bs z32).toArray) 0 st rfl TF.t23 rfl rfl rfl rfl (fun u hu => one_bs z32 u (by simpa using hu)) ?_
      intro w st
      refine wl_val (v_assign' (by conv => (lhs; whnf))) rfl ?_
      refine wl_val (v_assign' (by conv => (lhs; whnf))) rfl ?_
      refine wl_nil ?_
      refine then_go ?_
      refine wc_ret ?_
      have hyes : provesP root idx p := ⟨hok, fun _ => by omega, Decidable.not_not.1 h33⟩
      exact ret3c rfl (st.reads 0 rfl TF.t23 (getV_all rfl)) rfl rfl ((st.keepOnly (l := []) (List.nil_sublist _)).out (by rw [chk_off hyes (fun hc => h43 hc.2)]; rfl))
   ·refine wc_draw TF.mixed ?_
    have st := st.pure (touch_drew _)
    refine fl_ld 0 rfl (v_load rfl (st.reads (v := .agg (prC (.slice sa p.S.length sc) p.E p.I p.V)) 1 rfl TF.t40 (getV_all (size_prC hI hV)))) (by kernel_rfl) ?_
    refine fl_eff1 1 [] [] (by kernel_rfl) ⟨obl_ld rfl rfl rfl (v_load rfl (st.reads (v := .agg (prC (.slice sa p.S.length sc) p.E p.I p.V)) 1 rfl TF.t40 (getV_all (size_prC hI hV)))), trivial⟩ rfl ?_
    refine wl_call rfl (c_rright st.im hp0) rfl ?_
    rintro v10 w ⟨t10, rfl⟩
    have st := st.pure t10
    first
     | rw [show decide (rightP p) = true from decide_eq_true hok]
     | rw [show decide (rightP p) = false from decide_eq_false hok]
    refine wl_nil ⟨rfl, ?_⟩
    refine fl_val 2 rfl (fun _ => (v_not rfl)) rfl (by kernel_rfl) ?_
    refine fl_val 3 rfl (fun _ => (v_move' (by conv => (lhs; whnf)))) rfl (by kernel_rfl) ?_
    refine fl_on 4 rfl rfl rfl rfl (fun _ => (v_fa TF.f40_1 rfl)) rfl (by kernel_rfl) ?_
    refine fl_ond 5 rfl rfl rfl rfl (v_load rfl (st.reads (v := .int .i64 p.E) 1 rfl TF.t3 prC_E)) rfl (by kernel_rfl) ?_
    refine fl_on 6 rfl rfl rfl rfl (fun _ => (v_eqlT hE rfl rfl)) rfl (by kernel_rfl) ?_
    refine fl_on 7 rfl rfl rfl rfl (fun _ => (v_move' (by conv => (lhs; whnf)))) rfl (by kernel_rfl) ?_
    refine fl_on 8 rfl rfl rfl rfl (fun _ => (v_fa TF.f40_2 rfl)) rfl (by kernel_rfl) ?_
    refine fl_ond 9 rfl rfl rfl rfl (v_load rfl (st.reads (v := arr p.I) 1 rfl TF.t23 (prC_I hI))) rfl (by kernel_rfl) ?_
    refine fl_ond 10 rfl rfl rfl rfl (v_load rfl (st.reads (v := arr idx) 2 rfl TF.t23 (getV_all (by rw [size_arr, hx])))) rfl (by kernel_rfl) ?_
    refine fl_on 11 rfl rfl rfl rfl (fun _ => (v_fa TF.f40_0 rfl)) rfl (by kernel_rfl) ?_
    refine fl_ond 12 rfl rfl rfl rfl (v_load rfl (st.reads (v := .slice sa p.S.length sc) 1 rfl TF.t38 prC_S)) rfl (by kernel_rfl) ?_
    refine fl_on 13 rfl rfl rfl rfl (fun _ => (v_len_s Try.underlying38 rfl)) rfl (by kernel_rfl) ?_
    refine fl_eff1 14 [11, 8, 6, 4, 3, 2] [12, 5] (by kernel_rfl) ⟨obl_on rfl rfl rfl rfl rfl (v_load rfl (st.reads (v := .slice sa p.S.length sc) 1 rfl TF.t38 prC_S)), obl_on rfl rfl rfl rfl rfl (v_load rfl (st.reads (v := arr idx) 2 rfl TF.t23 (getV_all (by rw [size_arr, hx])))), obl_on rfl rfl rfl rfl rfl (v_load rfl (st.reads (v := arr p.I) 1 rfl TF.t23 (prC_I hI))), obl_on rfl rfl rfl rfl rfl (v_load rfl (st.reads (v := .int .i64 p.E) 1 rfl TF.t3 prC_E)), trivial⟩ rfl ?_
    refine wl_on rfl rfl ?_
    refine wl_call rfl (c_runder st.im hI hx) rfl ?_
    rintro v23 w ⟨t23, rfl⟩
    have st := st.pure t23
    first
     | rw [show decide ((p.S.length : Int) ≤ (common p.I idx : Int)) = true from decide_eq_true hU]
     | rw [show decide ((p.S.length : Int) ≤ (common p.I idx : Int)) = false from decide_eq_false hU]
    refine wl_nil ⟨rfl, ?_⟩
    refine fl_on 15 rfl rfl rfl rfl (fun _ => (v_not rfl)) rfl (by kernel_rfl) ?_
    refine fl_on 16 rfl rfl rfl rfl (fun _ => (v_pick rfl)) rfl (by kernel_rfl) ?_
    refine fl_val 17 rfl (fun _ => (v_pick rfl)) rfl (by kernel_rfl) ?_
    refine fl_val 18 rfl (fun _ => (v_move' (by conv => (lhs; whnf)))) rfl (by kernel_rfl) ?_
    refine fl_offd 19 rfl rfl rfl rfl rfl rfl (by kernel_rfl) ?_
    refine fl_offd 20 rfl rfl rfl rfl rfl rfl (by kernel_rfl) ?_
    refine fl_offd 22 rfl rfl rfl rfl rfl rfl (by kernel_rfl) ?_
    refine fl_eff1 21 [17, 16, 15, 11, 8, 6, 4, 3, 2] [22, 12, 5] (by kernel_rfl) ⟨obl_off rfl rfl rfl rfl rfl rfl, obl_off rfl rfl rfl rfl rfl rfl, obl_off rfl rfl rfl rfl rfl rfl, obl_on rfl rfl rfl rfl rfl (v_load rfl (st.reads (v := .slice sa p.S.length sc) 1 rfl TF.t38 prC_S)), obl_on rfl rfl rfl rfl rfl (v_load rfl (st.reads (v := .int .i64 p.E) 1 rfl TF.t3 prC_E)), trivial⟩ rfl ?_
    refine wl_off rfl rfl rfl rfl ?_
    refine wl_nil ⟨rfl, ?_⟩
    refine fl_off 23 rfl rfl rfl rfl rfl rfl (by kernel_rfl) ?_
    refine fl_val 24 rfl (fun _ => (v_pick rfl)) rfl (by kernel_rfl) ?_
    refine fl_nil (by kernel_rfl) ⟨obl_off rfl rfl rfl rfl rfl rfl, obl_on rfl rfl rfl rfl rfl (v_load rfl (st.reads (v := .slice sa p.S.length sc) 1 rfl TF.t38 prC_S)), obl_on rfl rfl rfl rfl rfl (v_load rfl (st.reads (v := .int .i64 p.E) 1 rfl TF.t3 prC_E)), trivial⟩ ?_
    refine then_go ?_
    refine wc_true rfl ?_
    refine wc_seq ?_
    refine wc_region ?_
    refine wl_val v_z32 rfl ?_
    refine wl_storeW (cs := (bs z32).toArray) 0 st rfl TF.t23 rfl rfl rfl rfl (fun u hu => one_bs z32 u (by simpa using hu)) ?_
    intro w st
    refine wl_val (v_assign' (by conv => (lhs; whnf))) rfl ?_
    refine wl_val (v_assign' (by conv => (lhs; whnf))) rfl ?_
    refine wl_nil ?_
    refine then_go ?_
    refine wc_ret (then_ret ?_)
    have hno : ¬ provesP root idx p := fun hc => by have := hc.2.1 hE; omega
    exact ret3c rfl (st.reads 0 rfl TF.t23 (getV_all rfl)) rfl rfl ((st.keepOnly (l := []) (List.nil_sublist _)).out (by rw [chk_no hno]; rfl))
  ·refine wc_draw TF.mixed ?_
   have st := st.pure (touch_drew _)
   refine fl_ld 0 rfl (v_load rfl (st.reads (v := .agg (prC (.slice sa p.S.length sc) p.E p.I p.V)) 1 rfl TF.t40 (getV_all (size_prC hI hV)))) (by kernel_rfl) ?_
   refine fl_eff1 1 [] [] (by kernel_rfl) ⟨obl_ld rfl rfl rfl (v_load rfl (st.reads (v := .agg (prC (.slice sa p.S.length sc) p.E p.I p.V)) 1 rfl TF.t40 (getV_all (size_prC hI hV)))), trivial⟩ rfl ?_
   refine wl_call rfl (c_rright st.im hp0) rfl ?_
   rintro v10 w ⟨t10, rfl⟩
   have st := st.pure t10
   first
    | rw [show decide (rightP p) = true from decide_eq_true hok]
    | rw [show decide (rightP p) = false from decide_eq_false hok]
   refine wl_nil ⟨rfl, ?_⟩
   refine fl_val 2 rfl (fun _ => (v_not rfl)) rfl (by kernel_rfl) ?_
   refine fl_val 3 rfl (fun _ => (v_move' (by conv => (lhs; whnf)))) rfl (by kernel_rfl) ?_
   refine fl_on 4 rfl rfl rfl rfl (fun _ => (v_fa TF.f40_1 rfl)) rfl (by kernel_rfl) ?_
   refine fl_ond 5 rfl rfl rfl rfl (v_load rfl (st.reads (v := .int .i64 p.E) 1 rfl TF.t3 prC_E)) rfl (by kernel_rfl) ?_
   refine fl_on 6 rfl rfl rfl rfl (fun _ => (v_eqlF hE rfl rfl)) rfl (by kernel_rfl) ?_
   refine fl_on 7 rfl rfl rfl rfl (fun _ => (v_move' (by conv => (lhs; whnf)))) rfl (by kernel_rfl) ?_
   refine fl_off 8 rfl rfl rfl rfl rfl rfl (by kernel_rfl) ?_
   refine fl_offd 9 rfl rfl rfl rfl rfl rfl (by kernel_rfl) ?_
   refine fl_offd 10 rfl rfl rfl rfl rfl rfl (by kernel_rfl) ?_
   refine fl_off 11 rfl rfl rfl rfl rfl rfl (by kernel_rfl) ?_
   refine fl_offd 12 rfl rfl rfl rfl rfl rfl (by kernel_rfl) ?_
   refine fl_off 13 rfl rfl rfl rfl rfl rfl (by kernel_rfl) ?_
   refine fl_eff1 14 [11, 8, 6, 4, 3, 2] [12, 5] (by kernel_rfl) ⟨obl_off rfl rfl rfl rfl rfl rfl, obl_off rfl rfl rfl rfl rfl rfl, obl_off rfl rfl rfl rfl rfl rfl, obl_on rfl rfl rfl rfl rfl (v_load rfl (st.reads (v := .int .i64 p.E) 1 rfl TF.t3 prC_E)), trivial⟩ rfl ?_
   refine wl_off rfl rfl rfl rfl ?_
   refine wl_nil ⟨rfl, ?_⟩
   refine fl_off 15 rfl rfl rfl rfl rfl rfl (by kernel_rfl) ?_
   refine fl_on 16 rfl rfl rfl rfl (fun _ => (v_pick rfl)) rfl (by kernel_rfl) ?_
   refine fl_val 17 rfl (fun _ => (v_pick rfl)) rfl (by kernel_rfl) ?_
   refine fl_val 18 rfl (fun _ => (v_move' (by conv => (lhs; whnf)))) rfl (by kernel_rfl) ?_
   refine fl_ond 19 rfl rfl rfl rfl (v_load rfl (st.reads (v := arr idx) 2 rfl TF.t23 (getV_all (by rw [size_arr, hx])))) rfl (by kernel_rfl) ?_
   refine fl_ond 20 rfl rfl rfl rfl (v_load rfl (st.reads (v := .agg (prC (.slice sa p.S.length sc) p.E p.I p.V)) 1 rfl TF.t40 (getV_all (size_prC hI hV)))) rfl (by kernel_rfl) ?_
   refine fl_ond 22 rfl rfl rfl rfl (v_load rfl (st.reads (v := arr root) 3 rfl TF.t23 (getV_all (by rw [size_arr, hr])))) rfl (by kernel_rfl) ?_
   refine fl_eff1 21 [17, 16, 15, 11, 8, 6, 4, 3, 2] [22, 12, 5] (by kernel_rfl) ⟨obl_on rfl rfl rfl rfl rfl (v_load rfl (st.reads (v := arr root) 3 rfl TF.t23 (getV_all (by rw [size_arr, hr])))), obl_on rfl rfl rfl rfl rfl (v_load rfl (st.reads (v := .agg (prC (.slice sa p.S.length sc) p.E p.I p.V)) 1 rfl TF.t40 (getV_all (size_prC hI hV)))), obl_on rfl rfl rfl rfl rfl (v_load rfl (st.reads (v := arr idx) 2 rfl TF.t23 (getV_all (by rw [size_arr, hx])))), obl_off rfl rfl rfl rfl rfl rfl, obl_on rfl rfl rfl rfl rfl (v_load rfl (st.reads (v := .int .i64 p.E) 1 rfl TF.t3 prC_E)), trivial⟩ rfl ?_
   refine wl_on rfl rfl ?_
   refine wl_call rfl (c_rproot st.im hx hp0 (by have := hok.1; omega)) rfl ?_
   rintro v30 w ⟨t30, m1, hg1, hi1, rfl⟩
   have st := st.grown hg1 t30 hi1
   refine wl_nil ⟨rfl, ?_⟩
   refine fl_on 23 rfl rfl rfl rfl (fun _ => (v_neD rfl rfl (length_sum _) hr)) rfl (by kernel_rfl) ?_
   refine fl_val 24 rfl (fun _ => (v_pick rfl)) rfl (by kernel_rfl) ?_
   refine fl_nil (by kernel_rfl) ⟨obl_on rfl rfl rfl rfl rfl (v_load rfl (st.reads (v := arr root) 3 rfl TF.t23 (getV_all (by rw [size_arr, hr])))), obl_off rfl rfl rfl rfl rfl rfl, obl_on rfl rfl rfl rfl rfl (v_load rfl (st.reads (v := .int .i64 p.E) 1 rfl TF.t3 prC_E)), trivial⟩ ?_
   refine then_go ?_
   refine wc_if rfl (fun h33 => ?_) (fun h33 => ?_)
   ·refine wc_seq ?_
    refine wc_region ?_
    refine wl_val v_z32 rfl ?_
    refine wl_storeW (cs := (bs z32).toArray) 0 st rfl TF.t23 rfl rfl rfl rfl (fun u hu => one_bs z32 u (by simpa using hu)) ?_
    intro w st
    refine wl_val (v_assign' (by conv => (lhs; whnf))) rfl ?_
    refine wl_val (v_assign' (by conv => (lhs; whnf))) rfl ?_
    refine wl_nil ?_
    refine then_go ?_
    refine wc_ret (then_ret ?_)
    have hno : ¬ provesP root idx p := fun hc => h33 hc.2.2
    exact ret3c rfl (st.reads 0 rfl TF.t23 (getV_all rfl)) rfl rfl ((st.keepOnly (l := []) (List.nil_sublist _)).out (by rw [chk_no hno]; rfl))
   ·refine wc_skip ?_
    refine then_go ?_
    refine wc_seq ?_
    refine wc_seq ?_
    refine wc_region ?_
    refine wl_val (v_fa TF.f40_1 rfl) rfl ?_
    refine wl_val (v_load rfl (st.reads (v := .int .i64 p.E) 1 rfl TF.t3 prC_E)) rfl ?_
    refine wl_val (v_eqlF hE rfl rfl) rfl ?_
    refine wl_val (v_move' (by conv => (lhs; whnf))) rfl ?_
    refine wl_off rfl rfl rfl rfl ?_
    refine wl_off rfl rfl rfl rfl ?_
    refine wl_off rfl rfl rfl rfl ?_
    refine wl_off rfl rfl rfl rfl ?_
    refine wl_val (v_pick rfl) rfl ?_
    refine wl_nil ?_
    refine then_go ?_
    refine wc_false rfl ?_
    refine wc_skip ?_
    refine then_go ?_
    refine wc_seq ?_
    refine wc_region ?_
    refine wl_val v_z32 rfl ?_
    refine wl_storeW (cs := (bs z32).toArray) 0 st rfl TF.t23 rfl rfl rfl rfl (fun u hu => one_bs z32 u (by simpa using hu)) ?_
    intro w st
    refine wl_val (v_assign' (by conv => (lhs; whnf))) rfl ?_
    refine wl_val (v_assign' (by conv => (lhs; whnf))) rfl ?_
    refine wl_nil ?_
    refine then_go ?_
    refine wc_ret ?_
    have hyes : provesP root idx p := ⟨hok, fun hc => (hE hc).elim, Decidable.not_not.1 h33⟩
    exact ret3c rfl (st.reads 0 rfl TF.t23 (getV_all rfl)) rfl rfl ((st.keepOnly (l := []) (List.nil_sublist _)).out (by rw [chk_off hyes (fun hc => hE hc.1)]; rfl))
 ·refine wc_draw TF.mixed ?_
  have st := st.pure (touch_drew _)
  refine fl_ld 0 rfl (v_load rfl (st.reads (v := .agg (prC (.slice sa p.S.length sc) p.E p.I p.V)) 1 rfl TF.t40 (getV_all (size_prC hI hV)))) (by kernel_rfl) ?_
  refine fl_eff1 1 [] [] (by kernel_rfl) ⟨obl_ld rfl rfl rfl (v_load rfl (st.reads (v := .agg (prC (.slice sa p.S.length sc) p.E p.I p.V)) 1 rfl TF.t40 (getV_all (size_prC hI hV)))), trivial⟩ rfl ?_
  refine wl_call rfl (c_rright st.im hp0) rfl ?_
  rintro v10 w ⟨t10, rfl⟩
  have st := st.pure t10
  first
   | rw [show decide (rightP p) = true from decide_eq_true hok]
   | rw [show decide (rightP p) = false from decide_eq_false hok]
  refine wl_nil ⟨rfl, ?_⟩
  refine fl_val 2 rfl (fun _ => (v_not rfl)) rfl (by kernel_rfl) ?_
  refine fl_val 3 rfl (fun _ => (v_move' (by conv => (lhs; whnf)))) rfl (by kernel_rfl) ?_
  refine fl_off 4 rfl rfl rfl rfl rfl rfl (by kernel_rfl) ?_
  refine fl_offd 5 rfl rfl rfl rfl rfl rfl (by kernel_rfl) ?_
  refine fl_off 6 rfl rfl rfl rfl rfl rfl (by kernel_rfl) ?_
  refine fl_off 7 rfl rfl rfl rfl rfl rfl (by kernel_rfl) ?_
  refine fl_u 8 rfl rfl rfl rfl rfl (by kernel_rfl) ?_
  refine fl_ud 9 rfl rfl rfl rfl rfl (by kernel_rfl) ?_
  refine fl_ud 10 rfl rfl rfl rfl rfl (by kernel_rfl) ?_
  refine fl_u 11 rfl rfl rfl rfl rfl (by kernel_rfl) ?_
  refine fl_ud 12 rfl rfl rfl rfl rfl (by kernel_rfl) ?_
  refine fl_u 13 rfl rfl rfl rfl rfl (by kernel_rfl) ?_
  refine fl_eff1 14 [11, 8, 6, 4, 3, 2] [12, 5] (by kernel_rfl) ⟨obl_u rfl rfl rfl rfl rfl, obl_u rfl rfl rfl rfl rfl, obl_u rfl rfl rfl rfl rfl, obl_off rfl rfl rfl rfl rfl rfl, trivial⟩ rfl ?_
  refine offU rfl rfl rfl ?_
  refine wl_nil ⟨rfl, ?_⟩
  refine fl_u 15 rfl rfl rfl rfl rfl (by kernel_rfl) ?_
  refine fl_off 16 rfl rfl rfl rfl rfl rfl (by kernel_rfl) ?_
  refine fl_val 17 rfl (fun _ => (v_pick rfl)) rfl (by kernel_rfl) ?_
  refine fl_val 18 rfl (fun _ => (v_move' (by conv => (lhs; whnf)))) rfl (by kernel_rfl) ?_
  refine fl_offd 19 rfl rfl rfl rfl rfl rfl (by kernel_rfl) ?_
  refine fl_offd 20 rfl rfl rfl rfl rfl rfl (by kernel_rfl) ?_
  refine fl_offd 22 rfl rfl rfl rfl rfl rfl (by kernel_rfl) ?_
  refine fl_eff1 21 [17, 16, 15, 11, 8, 6, 4, 3, 2] [22, 12, 5] (by kernel_rfl) ⟨obl_off rfl rfl rfl rfl rfl rfl, obl_off rfl rfl rfl rfl rfl rfl, obl_off rfl rfl rfl rfl rfl rfl, obl_u rfl rfl rfl rfl rfl, obl_off rfl rfl rfl rfl rfl rfl, trivial⟩ rfl ?_
  refine wl_off rfl rfl rfl rfl ?_
  refine wl_nil ⟨rfl, ?_⟩
  refine fl_off 23 rfl rfl rfl rfl rfl rfl (by kernel_rfl) ?_
  refine fl_val 24 rfl (fun _ => (v_pick rfl)) rfl (by kernel_rfl) ?_
  refine fl_nil (by kernel_rfl) ⟨obl_off rfl rfl rfl rfl rfl rfl, obl_u rfl rfl rfl rfl rfl, obl_off rfl rfl rfl rfl rfl rfl, trivial⟩ ?_
  refine then_go ?_
  refine wc_true rfl ?_
  refine wc_seq ?_
  refine wc_region ?_
  refine wl_val v_z32 rfl ?_
  refine wl_storeW (cs := (bs z32).toArray) 0 st rfl TF.t23 rfl rfl rfl rfl (fun u hu => one_bs z32 u (by simpa using hu)) ?_
  intro w st
  refine wl_val (v_assign' (by conv => (lhs; whnf))) rfl ?_
  refine wl_val (v_assign' (by conv => (lhs; whnf))) rfl ?_
  refine wl_nil ?_
  refine then_go ?_
  refine wc_ret (then_ret ?_)
  have hno : ¬ provesP root idx p := fun hc => hok hc.1
  exact ret3c rfl (st.reads 0 rfl TF.t23 (getV_all rfl)) rfl rfl ((st.keepOnly (l := []) (List.nil_sublist _)).out (by rw [chk_no hno]; rfl))
end
end Go.Proofs.Ytjjpakjgppmmdaa

namespace Go.Proofs.Ytjjpakjgppmmdaa
open Go Go.RowKit K SH PT
section
variable {P : Program} {n : Nat} {ops : Array Oper} {Q : Po} {rest : List Oper} {r : Fr} {w : World} {d : Nat} {ty : TypeId} {pos : String} {after : Array Edge} {m0 m : Mem} {F : List Nat} {w0 : World} {Es : List Ent}
theorem wl_s2b {S T E : TypeId} {x : Operand} {l : By} (hS : P.underlying S = some .string) (hT : P.underlying T = some (.slice E)) (hE : P.underlying E = some (.int .u8)) (hx : ev r x = .string (strB l)) (st : St m0 m F w0 w Es) (hd : Nat.blt d n = true)
  (k : ∀ v' m' w', Grow m m' w.heap.size → SlM m' v' 1 l.length (bs l) → v'.oneCell' = true → St m0 m' F w0 w' Es → WL P n ops Q rest (upd d v' r) w') :
  WL P n ops Q (⟨some d, .convert S T x, ty, pos, after, none⟩ :: rest) r w := by
 have hrun := Lib.run_convert_string_bytes (P := P) w S T E (strB l) hS hT hE
 have hnone : m w.heap.size = none := by
  cases hm : m w.heap.size with
  | none => rfl
  | some o => exact absurd (lt_of_get (st.im _ _ hm)) (Nat.lt_irrefl _)
 obtain ⟨o, ho⟩ : ∃ o, o = Obj.cells (Lib.bytesCells w E (strB l)) E ((Lib.bytesCells w E (strB l)).size, (Lib.bytesCells w E (strB l)).size + 1) := ⟨_, rfl⟩
 have hnew := Lib.bytesWorld_at_new w E (strB l)
 rw [← ho] at hnew
 have hg : Grow m (fun j => if j = w.heap.size then some o else m j) w.heap.size := by
  refine ⟨fun j u hj => ?_, fun j u hj => ?_⟩
  ·by_cases h : j = w.heap.size
   ·rw [h, hnone] at hj; cases hj
   ·simp [h, hj]
  ·by_cases h : j = w.heap.size
   ·exact .inr (by omega)
   ·simp [h] at hj; exact .inl hj
 have t : Tch w (Lib.bytesWorld w E (strB l)) [] [] :=
  ⟨rfl, rfl, rfl, by rw [Lib.bytesWorld_size]; omega, fun j hj _ => Lib.bytesWorld_at_old w E (strB l) j hj, by simp⟩
 have hi : Im (fun j => if j = w.heap.size then some o else m j) (Lib.bytesWorld w E (strB l)) := by
  intro j u hj
  by_cases h : j = w.heap.size
  ·simp [h] at hj; subst hj; rw [h]; exact hnew
  ·simp [h] at hj
   rw [Lib.bytesWorld_at_old w E (strB l) j (lt_of_get (st.im _ _ hj))]
   exact st.im _ _ hj
 refine wl_val (v := .slice (some ⟨w.heap.size, 0, none⟩) (strB l).size (grownCap w (strB l).size 0 E)) (w' := Lib.bytesWorld w E (strB l)) ?_ hd (k _ _ _ hg ?_ rfl (st.grown hg t hi))
 ·intro _ _ _ _
  simp only [execOp, hx, Sem.run_bind, hrun, Result.andThen_ok, Sem.run_pure]
 ·have hsz : (strB l).size = l.length := rfl
  have hge := grownCap_ge w (strB l).size 0 E
  rw [hsz] at hge ⊢
  refine SlM.ofBlock (pre := []) (post := List.replicate (grownCap w (strB l).size 0 E - (strB l).size) (.int .u8 0)) (by rw [if_pos rfl, ho]) ?_ rfl hge
  simp [Lib.bytesCells, strB, bs, u8]
end
def valB (salt : By) (b : Bd) : By := 86 :: (salt ++ (num8 (UInt64.ofNat b.name.length) ++ (b.name ++ (num8 b.serial ++ b.key))))
theorem valB_len {salt : By} {b : Bd} (hs : salt.length = 32) : (valB salt b).length = 49 + b.name.length + b.key.length := by
 simp [valB, length_num8, hs]; omega
section
variable {m : Mem} {wI : World}
theorem c_valueb {v : Value} {salt : By} {b : Bd} (him : Im m wI) (hs : salt.length = 32) (hb : BdM m v b) (hn : b.name.length ≤ 1000000) (hk : b.key.length ≤ 1000000) :
  Ret Try.prog 61 #[arr salt, v] wI fun v w' => Out m wI w' fun m' => SlM m' v 1 (valB salt b).length (bs (valB salt b)) := by
 have st := St.start him
 obtain ⟨kv, rfl, hkey, hnl⟩ := hb
 obtain ⟨_, ka, kc, rfl, _⟩ := id hkey
 have hno : (IntKind.u64.wrap (b.name.length : Int) : Int) = (UInt64.ofNat b.name.length).toNat := by
  rw [wrap_u64_small (by omega)]
  rw [UInt64.toNat_ofNat', Nat.mod_eq_of_lt (by omega)]
 refine ret_of Try.call61 Try.func61 rfl Try.ntmps61 Try.results61 rfl ?_
 refine wc_seq ?_
 refine wc_region ?_
 refine wl_box (v := arr salt) rfl st rfl ?_
 intro b2 w st
 refine wl_box (v := .agg (bdC b (.slice ka b.key.length kc)).toArray) rfl st rfl ?_
 intro b3 w st
 refine wl_val (v_assign' (by conv => (lhs; whnf))) rfl ?_
 refine wl_nil ?_
 obtain ⟨m1, hg1, hm1, st⟩ := st.freeze (i := 0) rfl (by simp)
 change St _ _ _ _ _ [_] at st
 obtain ⟨m2, hg2, hm2, st⟩ := st.freeze (i := 0) rfl (by simp)
 change St _ _ _ _ _ [] at st
 have hm1 := hg2.le _ _ hm1
 have hkey := hkey.mono (fun k o h => hg2.le _ _ (hg1.le _ _ h))
 have hsl : SlM m2 (.slice (some ⟨b2, 0 + 0 * 1, none⟩) (32 - 0) (32 - 0)) 1 salt.length (bs salt) := by
  have := SlM.ofBlock (o := 0) (cap := 32) (l := salt) (pre := []) (post := []) hm2 (by simp [arr, Value.cells]) rfl (by omega)
  rw [hs] at this ⊢
  exact this
 refine then_go ?_
 refine wc_seq ?_
 refine wc_draw TF.mixed ?_
 have st := st.pure (touch_drew _)
 show FL _ _ ?ops1 ?post1 [] [] [] _ _
 have fin : ∀ (r : Fr) (w : World) (m3 : Mem) (v10 v13 v16 : Value), r 5 = .slice (some ⟨b2, 0 + 0 * 1, none⟩) (32 - 0) (32 - 0) → r 10 = v10 → r 13 = v13 → r 16 = v16 → r 3 = .pointer (some ⟨b3, 0, none⟩) → r 6 = .pointer (some ⟨b3, 0 + 0, none⟩) → r 7 = .string (strB b.name) → r 17 = .pointer (some ⟨b3, 0 + 1, none⟩) → r 18 = .slice ka b.key.length kc → m3 b3 = some (.cells (Value.agg (bdC b (.slice ka b.key.length kc)).toArray).cells 43 (0, 0)) →
  SlM m3 (.slice (some ⟨b2, 0 + 0 * 1, none⟩) (32 - 0) (32 - 0)) 1 salt.length (bs salt) → SlM m3 v10 1 (num8 (UInt64.ofNat b.name.length)).length (bs (num8 (UInt64.ofNat b.name.length))) → SlM m3 v13 1 b.name.length (bs b.name) → SlM m3 v16 1 (num8 b.serial).length (bs (num8 b.serial)) → SlM m3 (.slice ka b.key.length kc) 1 b.key.length (bs b.key) →
  St m m3 [] wI w [] → FL Try.prog 21 ?ops1 ?post1 [11, 8, 5, 13, 12, 10, 9, 7, 6, 4, 3, 2, 1, 0] [12, 9, 6, 3, 1, 0] [13, 2] r w := by
  clear st hsl hkey hm1 hm2
  rintro r w m3 v10 v13 v16 g5 g10 g13 g16 g3 g6 g7 g17 g18 hm1 hsl h10 h13 h16 hkey st
  refine fl_o 5 g5 (fl_o 10 g10 (fl_o 13 g13 (fl_o 16 g16 (fl_o 3 g3 (fl_o 6 g6 (fl_o 7 g7 (fl_o 17 g17 (fl_o 18 g18 ?_))))))))
  refine fl_eff1 14 [12, 9, 6, 3, 1] [2] (by kernel_rfl) ⟨obl_ld rfl rfl rfl (v_load rfl (st.readm (v := .slice ka b.key.length kc) hm1 TF.t41 rfl)), obl_ld rfl rfl rfl (v_load rfl (st.readm (v := .string (strB b.name)) hm1 TF.t9 rfl)), trivial⟩ rfl ?_
  refine wl_pcsN [(salt, .slice (some ⟨b2, 0 + 0 * 1, none⟩) (32 - 0) (32 - 0)), (num8 (UInt64.ofNat b.name.length), v10), (b.name, v13), (num8 b.serial, v16), (b.key, .slice ka b.key.length kc)] st rfl (by decide) (by decide) rfl (by simp only [List.mem_cons, List.not_mem_nil, or_false]; rintro z (rfl | rfl | rfl | rfl | rfl) <;> first | exact hsl | exact h10 | exact h13 | exact h16 | exact hkey) rfl ?_
  intro m4 v19 w hle4 st hp4
  have hm1 := hle4 _ _ hm1
  refine wl_nil ⟨rfl, ?_⟩
  refine fl_eff1 15 [12, 9, 6, 3, 1] [2] (by kernel_rfl) ⟨obl_ld rfl rfl rfl (v_load rfl (st.readm (v := .string (strB b.name)) hm1 TF.t9 rfl)), trivial⟩ rfl ?_
  have hj : ∀ a b' c d e, joinB [(salt, a), (num8 (UInt64.ofNat b.name.length), b'), (b.name, c), (num8 b.serial, d), (b.key, e)] = salt ++ (num8 (UInt64.ofNat b.name.length) ++ (b.name ++ (num8 b.serial ++ b.key))) := fun a b' c d e => by simp [joinB]
  refine wl_call rfl (c_begin (c := 86) st.im hp4 (by rw [hj]; simp [length_num8, hs]; omega) (by simp)) rfl ?_
  rintro v20 w ⟨t20, m5, hg5, hi5, hs5⟩
  have st := st.grown hg5 t20 hi5
  have hm1 := hg5.le _ _ hm1
  rw [hj] at hs5
  refine wl_nil ⟨rfl, ?_⟩
  refine fl_eff1 16 [] [] (by kernel_rfl) ⟨obl_ld rfl rfl rfl (v_load rfl (st.readm (v := .string (strB b.name)) hm1 TF.t9 rfl)), trivial⟩ rfl ?_
  refine wl_val (v_assign' (by conv => (lhs; whnf))) rfl ?_
  refine wl_nil ⟨rfl, ?_⟩
  refine fl_nil (by kernel_rfl) trivial ?_
  refine then_go ?_
  refine wc_ret ?_
  exact ret1 rfl (st.out hs5)
 refine fl_val 0 rfl (fun _ => (v_sla 0 32 Try.underlying23 TF.t5 rfl rfl rfl (by omega) (by omega) (by omega))) rfl (by kernel_rfl) ?_
 refine fl_val 1 rfl (fun _ => (v_fa TF.f43_0 rfl)) rfl (by kernel_rfl) ?_
 refine fl_ld 2 rfl (v_load rfl (st.readm (v := .string (strB b.name)) hm1 TF.t9 rfl)) (by kernel_rfl) ?_
 refine fl_val 3 rfl (fun _ => (v_len_str Try.underlying9 rfl)) rfl (by kernel_rfl) ?_
 refine fl_val 4 rfl (fun _ => (v_to (v' := u64 (UInt64.ofNat b.name.length)) (v_conv Try.underlying3 Try.underlying24 rfl) (by show _ = Value.int .u64 _; rw [← hno]; rfl))) rfl (by kernel_rfl) ?_
 refine fl_val 6 rfl (fun _ => (v_fa TF.f43_0 rfl)) rfl (by kernel_rfl) ?_
 refine fl_ld 7 rfl (v_load rfl (st.readm (v := .string (strB b.name)) hm1 TF.t9 rfl)) (by kernel_rfl) ?_
 refine fl_val 9 rfl (fun _ => (v_fa TF.f43_2 rfl)) rfl (by kernel_rfl) ?_
 refine fl_ld 10 rfl (v_load rfl (st.readm (v := u64 b.serial) hm1 TF.t24 rfl)) (by kernel_rfl) ?_
 refine fl_val 12 rfl (fun _ => (v_fa TF.f43_1 rfl)) rfl (by kernel_rfl) ?_
 refine fl_ld 13 rfl (v_load rfl (st.readm (v := .slice ka b.key.length kc) hm1 TF.t41 rfl)) (by kernel_rfl) ?_
 refine fl_effs [5, 8] (by kernel_rfl) ⟨obl_ld rfl rfl rfl (v_load rfl (st.readm (v := .slice ka b.key.length kc) hm1 TF.t41 rfl)), obl_ld rfl rfl rfl (v_load rfl (st.readm (v := u64 b.serial) hm1 TF.t24 rfl)), obl_ld rfl rfl rfl (v_load rfl (st.readm (v := .string (strB b.name)) hm1 TF.t9 rfl)), obl_ld rfl rfl rfl (v_load rfl (st.readm (v := .string (strB b.name)) hm1 TF.t9 rfl)), trivial⟩ (all2 ?_ ?_)
 ·refine stepE 5 (pure' := [12, 9, 6, 3, 1, 0]) (lds' := [13, 10, 7, 2]) rfl (by kernel_rfl) (by kernel_rfl) ?_
  refine wl_call rfl (c_number st.im) rfl ?_
  rintro v10 w ⟨t10, m10, hg10, hi10, h10⟩
  have st := st.grown hg10 t10 hi10
  have hm1 := hg10.le _ _ hm1
  have hsl := hsl.mono hg10.le
  have hkey := hkey.mono hg10.le
  first | (have h13 := h13.mono hg10.le) | skip
  refine wl_nil ⟨rfl, ?_⟩
  refine fl_effs [8, 11] (by kernel_rfl) ⟨obl_ld rfl rfl rfl (v_load rfl (st.readm (v := .slice ka b.key.length kc) hm1 TF.t41 rfl)), obl_ld rfl rfl rfl (v_load rfl (st.readm (v := u64 b.serial) hm1 TF.t24 rfl)), obl_ld rfl rfl rfl (v_load rfl (st.readm (v := .string (strB b.name)) hm1 TF.t9 rfl)), obl_ld rfl rfl rfl (v_load rfl (st.readm (v := .string (strB b.name)) hm1 TF.t9 rfl)), trivial⟩ (all2 ?_ ?_)
  ·refine stepE 8 (pure' := [12, 9, 6, 3, 1, 0]) (lds' := [13, 10, 2]) rfl (by kernel_rfl) (by kernel_rfl) ?_
   refine wl_s2b Try.underlying9 Try.underlying41 Try.underlying5 rfl st rfl ?_
   intro v13 m13 w hg13 h13 _ st
   have hm1 := hg13.le _ _ hm1
   have hsl := hsl.mono hg13.le
   have hkey := hkey.mono hg13.le
   first | (have h10 := h10.mono hg13.le) | skip
   first | (have h16 := h16.mono hg13.le) | skip
   refine wl_nil ⟨rfl, ?_⟩
   refine fl_eff1 11 [12, 9, 6, 3, 1, 0] [13, 2] (by kernel_rfl) ⟨obl_ld rfl rfl rfl (v_load rfl (st.readm (v := .slice ka b.key.length kc) hm1 TF.t41 rfl)), obl_ld rfl rfl rfl (v_load rfl (st.readm (v := u64 b.serial) hm1 TF.t24 rfl)), obl_ld rfl rfl rfl (v_load rfl (st.readm (v := .string (strB b.name)) hm1 TF.t9 rfl)), trivial⟩ rfl ?_
   refine wl_call rfl (c_number st.im) rfl ?_
   rintro v16 w ⟨t16, m16, hg16, hi16, h16⟩
   have st := st.grown hg16 t16 hi16
   have hm1 := hg16.le _ _ hm1
   have hsl := hsl.mono hg16.le
   have hkey := hkey.mono hg16.le
   have h10 := h10.mono hg16.le
   first | (have h13 := h13.mono hg16.le) | skip
   refine wl_nil ⟨rfl, ?_⟩
   refine FL.permB [11, 8, 5, 13, 12, 10, 9, 7, 6, 4, 3, 2, 1, 0] [12, 9, 6, 3, 1, 0] [13, 2] (by kernel_rfl) ?_
   exact fin _ _ _ _ _ _ rfl rfl rfl rfl rfl rfl rfl rfl rfl hm1 hsl h10 h13 h16 hkey st
  ·refine stepE 11 (pure' := [12, 9, 6, 3, 1, 0]) (lds' := [13, 7, 2]) rfl (by kernel_rfl) (by kernel_rfl) ?_
   refine wl_call rfl (c_number st.im) rfl ?_
   rintro v16 w ⟨t16, m16, hg16, hi16, h16⟩
   have st := st.grown hg16 t16 hi16
   have hm1 := hg16.le _ _ hm1
   have hsl := hsl.mono hg16.le
   have hkey := hkey.mono hg16.le
   have h10 := h10.mono hg16.le
   first | (have h13 := h13.mono hg16.le) | skip
   refine wl_nil ⟨rfl, ?_⟩
   refine fl_eff1 8 [12, 9, 6, 3, 1, 0] [13, 2] (by kernel_rfl) ⟨obl_ld rfl rfl rfl (v_load rfl (st.readm (v := .slice ka b.key.length kc) hm1 TF.t41 rfl)), obl_ld rfl rfl rfl (v_load rfl (st.readm (v := .string (strB b.name)) hm1 TF.t9 rfl)), obl_ld rfl rfl rfl (v_load rfl (st.readm (v := .string (strB b.name)) hm1 TF.t9 rfl)), trivial⟩ rfl ?_
   refine wl_s2b Try.underlying9 Try.underlying41 Try.underlying5 rfl st rfl ?_
   intro v13 m13 w hg13 h13 _ st
   have hm1 := hg13.le _ _ hm1
   have hsl := hsl.mono hg13.le
   have hkey := hkey.mono hg13.le
   first | (have h10 := h10.mono hg13.le) | skip
   first | (have h16 := h16.mono hg13.le) | skip
   refine wl_nil ⟨rfl, ?_⟩
   refine FL.permB [11, 8, 5, 13, 12, 10, 9, 7, 6, 4, 3, 2, 1, 0] [12, 9, 6, 3, 1, 0] [13, 2] (by kernel_rfl) ?_
   exact fin _ _ _ _ _ _ rfl rfl rfl rfl rfl rfl rfl rfl rfl hm1 hsl h10 h13 h16 hkey st
 ·refine stepE 8 (pure' := [12, 9, 6, 4, 3, 1, 0]) (lds' := [13, 10, 2]) rfl (by kernel_rfl) (by kernel_rfl) ?_
  refine wl_s2b Try.underlying9 Try.underlying41 Try.underlying5 rfl st rfl ?_
  intro v13 m13 w hg13 h13 _ st
  have hm1 := hg13.le _ _ hm1
  have hsl := hsl.mono hg13.le
  have hkey := hkey.mono hg13.le
  first | (have h10 := h10.mono hg13.le) | skip
  first | (have h16 := h16.mono hg13.le) | skip
  refine wl_nil ⟨rfl, ?_⟩
  refine fl_eff1 5 [12, 9, 6, 3, 1, 0] [13, 10, 2] (by kernel_rfl) ⟨obl_ld rfl rfl rfl (v_load rfl (st.readm (v := .slice ka b.key.length kc) hm1 TF.t41 rfl)), obl_ld rfl rfl rfl (v_load rfl (st.readm (v := u64 b.serial) hm1 TF.t24 rfl)), obl_ld rfl rfl rfl (v_load rfl (st.readm (v := .string (strB b.name)) hm1 TF.t9 rfl)), trivial⟩ rfl ?_
  refine wl_call rfl (c_number st.im) rfl ?_
  rintro v10 w ⟨t10, m10, hg10, hi10, h10⟩
  have st := st.grown hg10 t10 hi10
  have hm1 := hg10.le _ _ hm1
  have hsl := hsl.mono hg10.le
  have hkey := hkey.mono hg10.le
  first | (have h13 := h13.mono hg10.le) | skip
  refine wl_nil ⟨rfl, ?_⟩
  refine fl_eff1 11 [12, 9, 6, 3, 1, 0] [13, 2] (by kernel_rfl) ⟨obl_ld rfl rfl rfl (v_load rfl (st.readm (v := .slice ka b.key.length kc) hm1 TF.t41 rfl)), obl_ld rfl rfl rfl (v_load rfl (st.readm (v := u64 b.serial) hm1 TF.t24 rfl)), obl_ld rfl rfl rfl (v_load rfl (st.readm (v := .string (strB b.name)) hm1 TF.t9 rfl)), trivial⟩ rfl ?_
  refine wl_call rfl (c_number st.im) rfl ?_
  rintro v16 w ⟨t16, m16, hg16, hi16, h16⟩
  have st := st.grown hg16 t16 hi16
  have hm1 := hg16.le _ _ hm1
  have hsl := hsl.mono hg16.le
  have hkey := hkey.mono hg16.le
  have h10 := h10.mono hg16.le
  first | (have h13 := h13.mono hg16.le) | skip
  refine wl_nil ⟨rfl, ?_⟩
  refine FL.permB [11, 8, 5, 13, 12, 10, 9, 7, 6, 4, 3, 2, 1, 0] [12, 9, 6, 3, 1, 0] [13, 2] (by kernel_rfl) ?_
  exact fin _ _ _ _ _ _ rfl rfl rfl rfl rfl rfl rfl rfl rfl hm1 hsl h10 h13 h16 hkey st
theorem c_rvalueb {v : Value} {salt : By} {b : Bd} (him : Im m wI) (hs : salt.length = 32) (hb : BdM m v b) (hn : b.name.length ≤ 1000000) (hk : b.key.length ≤ 1000000) :
  Ret Try.prog 80 #[arr salt, v] wI fun v w' => Out m wI w' fun m' => SlM m' v 1 (valB salt b).length (bs (valB salt b)) := by
 have st := St.start him
 obtain ⟨kv, rfl, hkey, hnl⟩ := hb
 obtain ⟨_, ka, kc, rfl, _⟩ := id hkey
 have hno : (IntKind.u64.wrap (b.name.length : Int) : Int) = (UInt64.ofNat b.name.length).toNat := by
  rw [wrap_u64_small (by omega)]
  rw [UInt64.toNat_ofNat', Nat.mod_eq_of_lt (by omega)]
 refine ret_of Try.call80 Try.func80 rfl Try.ntmps80 Try.results80 rfl ?_
 refine wc_seq ?_
 refine wc_region ?_
 refine wl_box (v := arr salt) rfl st rfl ?_
 intro b2 w st
 refine wl_box (v := .agg (bdC b (.slice ka b.key.length kc)).toArray) rfl st rfl ?_
 intro b3 w st
 refine wl_val (v_assign' (by conv => (lhs; whnf))) rfl ?_
 refine wl_nil ?_
 obtain ⟨m1, hg1, hm1, st⟩ := st.freeze (i := 0) rfl (by simp)
 change St _ _ _ _ _ [_] at st
 obtain ⟨m2, hg2, hm2, st⟩ := st.freeze (i := 0) rfl (by simp)
 change St _ _ _ _ _ [] at st
 have hm1 := hg2.le _ _ hm1
 have hkey := hkey.mono (fun k o h => hg2.le _ _ (hg1.le _ _ h))
 have hsl : SlM m2 (.slice (some ⟨b2, 0 + 0 * 1, none⟩) (32 - 0) (32 - 0)) 1 salt.length (bs salt) := by
  have := SlM.ofBlock (o := 0) (cap := 32) (l := salt) (pre := []) (post := []) hm2 (by simp [arr, Value.cells]) rfl (by omega)
  rw [hs] at this ⊢
  exact this
 refine then_go ?_
 refine wc_seq ?_
 refine wc_draw TF.mixed ?_
 have st := st.pure (touch_drew _)
 show FL _ _ ?ops1 ?post1 [] [] [] _ _
 have fin : ∀ (r : Fr) (w : World) (m3 : Mem) (v10 v13 v16 : Value), r 5 = .slice (some ⟨b2, 0 + 0 * 1, none⟩) (32 - 0) (32 - 0) → r 10 = v10 → r 13 = v13 → r 16 = v16 → r 3 = .pointer (some ⟨b3, 0, none⟩) → r 6 = .pointer (some ⟨b3, 0 + 0, none⟩) → r 7 = .string (strB b.name) → r 17 = .pointer (some ⟨b3, 0 + 1, none⟩) → r 18 = .slice ka b.key.length kc → m3 b3 = some (.cells (Value.agg (bdC b (.slice ka b.key.length kc)).toArray).cells 43 (0, 0)) →
  SlM m3 (.slice (some ⟨b2, 0 + 0 * 1, none⟩) (32 - 0) (32 - 0)) 1 salt.length (bs salt) → SlM m3 v10 1 (num8 (UInt64.ofNat b.name.length)).length (bs (num8 (UInt64.ofNat b.name.length))) → SlM m3 v13 1 b.name.length (bs b.name) → SlM m3 v16 1 (num8 b.serial).length (bs (num8 b.serial)) → SlM m3 (.slice ka b.key.length kc) 1 b.key.length (bs b.key) →
  St m m3 [] wI w [] → FL Try.prog 21 ?ops1 ?post1 [11, 8, 5, 13, 12, 10, 9, 7, 6, 4, 3, 2, 1, 0] [12, 9, 6, 3, 1, 0] [13, 2] r w := by
  clear st hsl hkey hm1 hm2
  rintro r w m3 v10 v13 v16 g5 g10 g13 g16 g3 g6 g7 g17 g18 hm1 hsl h10 h13 h16 hkey st
  refine fl_o 5 g5 (fl_o 10 g10 (fl_o 13 g13 (fl_o 16 g16 (fl_o 3 g3 (fl_o 6 g6 (fl_o 7 g7 (fl_o 17 g17 (fl_o 18 g18 ?_))))))))
  refine fl_eff1 14 [12, 9, 6, 3, 1] [2] (by kernel_rfl) ⟨obl_ld rfl rfl rfl (v_load rfl (st.readm (v := .slice ka b.key.length kc) hm1 TF.t41 rfl)), obl_ld rfl rfl rfl (v_load rfl (st.readm (v := .string (strB b.name)) hm1 TF.t9 rfl)), trivial⟩ rfl ?_
  refine wl_pcsN [(salt, .slice (some ⟨b2, 0 + 0 * 1, none⟩) (32 - 0) (32 - 0)), (num8 (UInt64.ofNat b.name.length), v10), (b.name, v13), (num8 b.serial, v16), (b.key, .slice ka b.key.length kc)] st rfl (by decide) (by decide) rfl (by simp only [List.mem_cons, List.not_mem_nil, or_false]; rintro z (rfl | rfl | rfl | rfl | rfl) <;> first | exact hsl | exact h10 | exact h13 | exact h16 | exact hkey) rfl ?_
  intro m4 v19 w hle4 st hp4
  have hm1 := hle4 _ _ hm1
  refine wl_nil ⟨rfl, ?_⟩
  refine fl_eff1 15 [12, 9, 6, 3, 1] [2] (by kernel_rfl) ⟨obl_ld rfl rfl rfl (v_load rfl (st.readm (v := .string (strB b.name)) hm1 TF.t9 rfl)), trivial⟩ rfl ?_
  have hj : ∀ a b' c d e, joinB [(salt, a), (num8 (UInt64.ofNat b.name.length), b'), (b.name, c), (num8 b.serial, d), (b.key, e)] = salt ++ (num8 (UInt64.ofNat b.name.length) ++ (b.name ++ (num8 b.serial ++ b.key))) := fun a b' c d e => by simp [joinB]
  refine wl_call rfl (c_sign (c := 86) st.im hp4 (by rw [hj]; simp [length_num8, hs]; omega) (by simp)) rfl ?_
  rintro v20 w ⟨t20, m5, hg5, hi5, hs5⟩
  have st := st.grown hg5 t20 hi5
  have hm1 := hg5.le _ _ hm1
  rw [hj] at hs5
  refine wl_nil ⟨rfl, ?_⟩
  refine fl_eff1 16 [] [] (by kernel_rfl) ⟨obl_ld rfl rfl rfl (v_load rfl (st.readm (v := .string (strB b.name)) hm1 TF.t9 rfl)), trivial⟩ rfl ?_
  refine wl_val (v_assign' (by conv => (lhs; whnf))) rfl ?_
  refine wl_nil ⟨rfl, ?_⟩
  refine fl_nil (by kernel_rfl) trivial ?_
  refine then_go ?_
  refine wc_ret ?_
  exact ret1 rfl (st.out hs5)
 refine fl_val 0 rfl (fun _ => (v_sla 0 32 Try.underlying23 TF.t5 rfl rfl rfl (by omega) (by omega) (by omega))) rfl (by kernel_rfl) ?_
 refine fl_val 1 rfl (fun _ => (v_fa TF.f43_0 rfl)) rfl (by kernel_rfl) ?_
 refine fl_ld 2 rfl (v_load rfl (st.readm (v := .string (strB b.name)) hm1 TF.t9 rfl)) (by kernel_rfl) ?_
 refine fl_val 3 rfl (fun _ => (v_len_str Try.underlying9 rfl)) rfl (by kernel_rfl) ?_
 refine fl_val 4 rfl (fun _ => (v_to (v' := u64 (UInt64.ofNat b.name.length)) (v_conv Try.underlying3 Try.underlying24 rfl) (by show _ = Value.int .u64 _; rw [← hno]; rfl))) rfl (by kernel_rfl) ?_
 refine fl_val 6 rfl (fun _ => (v_fa TF.f43_0 rfl)) rfl (by kernel_rfl) ?_
 refine fl_ld 7 rfl (v_load rfl (st.readm (v := .string (strB b.name)) hm1 TF.t9 rfl)) (by kernel_rfl) ?_
 refine fl_val 9 rfl (fun _ => (v_fa TF.f43_2 rfl)) rfl (by kernel_rfl) ?_
 refine fl_ld 10 rfl (v_load rfl (st.readm (v := u64 b.serial) hm1 TF.t24 rfl)) (by kernel_rfl) ?_
 refine fl_val 12 rfl (fun _ => (v_fa TF.f43_1 rfl)) rfl (by kernel_rfl) ?_
 refine fl_ld 13 rfl (v_load rfl (st.readm (v := .slice ka b.key.length kc) hm1 TF.t41 rfl)) (by kernel_rfl) ?_
 refine fl_effs [5, 8] (by kernel_rfl) ⟨obl_ld rfl rfl rfl (v_load rfl (st.readm (v := .slice ka b.key.length kc) hm1 TF.t41 rfl)), obl_ld rfl rfl rfl (v_load rfl (st.readm (v := u64 b.serial) hm1 TF.t24 rfl)), obl_ld rfl rfl rfl (v_load rfl (st.readm (v := .string (strB b.name)) hm1 TF.t9 rfl)), obl_ld rfl rfl rfl (v_load rfl (st.readm (v := .string (strB b.name)) hm1 TF.t9 rfl)), trivial⟩ (all2 ?_ ?_)
 ·refine stepE 5 (pure' := [12, 9, 6, 3, 1, 0]) (lds' := [13, 10, 7, 2]) rfl (by kernel_rfl) (by kernel_rfl) ?_
  refine wl_call rfl (c_rnumber st.im) rfl ?_
  rintro v10 w ⟨t10, m10, hg10, hi10, h10⟩
  have st := st.grown hg10 t10 hi10
  have hm1 := hg10.le _ _ hm1
  have hsl := hsl.mono hg10.le
  have hkey := hkey.mono hg10.le
  first | (have h13 := h13.mono hg10.le) | skip
  refine wl_nil ⟨rfl, ?_⟩
  refine fl_effs [8, 11] (by kernel_rfl) ⟨obl_ld rfl rfl rfl (v_load rfl (st.readm (v := .slice ka b.key.length kc) hm1 TF.t41 rfl)), obl_ld rfl rfl rfl (v_load rfl (st.readm (v := u64 b.serial) hm1 TF.t24 rfl)), obl_ld rfl rfl rfl (v_load rfl (st.readm (v := .string (strB b.name)) hm1 TF.t9 rfl)), obl_ld rfl rfl rfl (v_load rfl (st.readm (v := .string (strB b.name)) hm1 TF.t9 rfl)), trivial⟩ (all2 ?_ ?_)
  ·refine stepE 8 (pure' := [12, 9, 6, 3, 1, 0]) (lds' := [13, 10, 2]) rfl (by kernel_rfl) (by kernel_rfl) ?_
   refine wl_s2b Try.underlying9 Try.underlying41 Try.underlying5 rfl st rfl ?_
   intro v13 m13 w hg13 h13 _ st
   have hm1 := hg13.le _ _ hm1
   have hsl := hsl.mono hg13.le
   have hkey := hkey.mono hg13.le
   first | (have h10 := h10.mono hg13.le) | skip
   first | (have h16 := h16.mono hg13.le) | skip
   refine wl_nil ⟨rfl, ?_⟩
   refine fl_eff1 11 [12, 9, 6, 3, 1, 0] [13, 2] (by kernel_rfl) ⟨obl_ld rfl rfl rfl (v_load rfl (st.readm (v := .slice ka b.key.length kc) hm1 TF.t41 rfl)), obl_ld rfl rfl rfl (v_load rfl (st.readm (v := u64 b.serial) hm1 TF.t24 rfl)), obl_ld rfl rfl rfl (v_load rfl (st.readm (v := .string (strB b.name)) hm1 TF.t9 rfl)), trivial⟩ rfl ?_
   refine wl_call rfl (c_rnumber st.im) rfl ?_
   rintro v16 w ⟨t16, m16, hg16, hi16, h16⟩
   have st := st.grown hg16 t16 hi16
   have hm1 := hg16.le _ _ hm1
   have hsl := hsl.mono hg16.le
   have hkey := hkey.mono hg16.le
   have h10 := h10.mono hg16.le
   first | (have h13 := h13.mono hg16.le) | skip
   refine wl_nil ⟨rfl, ?_⟩
   refine FL.permB [11, 8, 5, 13, 12, 10, 9, 7, 6, 4, 3, 2, 1, 0] [12, 9, 6, 3, 1, 0] [13, 2] (by kernel_rfl) ?_
   exact fin _ _ _ _ _ _ rfl rfl rfl rfl rfl rfl rfl rfl rfl hm1 hsl h10 h13 h16 hkey st
  ·refine stepE 11 (pure' := [12, 9, 6, 3, 1, 0]) (lds' := [13, 7, 2]) rfl (by kernel_rfl) (by kernel_rfl) ?_
   refine wl_call rfl (c_rnumber st.im) rfl ?_
   rintro v16 w ⟨t16, m16, hg16, hi16, h16⟩
   have st := st.grown hg16 t16 hi16
   have hm1 := hg16.le _ _ hm1
   have hsl := hsl.mono hg16.le
   have hkey := hkey.mono hg16.le
   have h10 := h10.mono hg16.le
   first | (have h13 := h13.mono hg16.le) | skip
   refine wl_nil ⟨rfl, ?_⟩
   refine fl_eff1 8 [12, 9, 6, 3, 1, 0] [13, 2] (by kernel_rfl) ⟨obl_ld rfl rfl rfl (v_load rfl (st.readm (v := .slice ka b.key.length kc) hm1 TF.t41 rfl)), obl_ld rfl rfl rfl (v_load rfl (st.readm (v := .string (strB b.name)) hm1 TF.t9 rfl)), obl_ld rfl rfl rfl (v_load rfl (st.readm (v := .string (strB b.name)) hm1 TF.t9 rfl)), trivial⟩ rfl ?_
   refine wl_s2b Try.underlying9 Try.underlying41 Try.underlying5 rfl st rfl ?_
   intro v13 m13 w hg13 h13 _ st
   have hm1 := hg13.le _ _ hm1
   have hsl := hsl.mono hg13.le
   have hkey := hkey.mono hg13.le
   first | (have h10 := h10.mono hg13.le) | skip
   first | (have h16 := h16.mono hg13.le) | skip
   refine wl_nil ⟨rfl, ?_⟩
   refine FL.permB [11, 8, 5, 13, 12, 10, 9, 7, 6, 4, 3, 2, 1, 0] [12, 9, 6, 3, 1, 0] [13, 2] (by kernel_rfl) ?_
   exact fin _ _ _ _ _ _ rfl rfl rfl rfl rfl rfl rfl rfl rfl hm1 hsl h10 h13 h16 hkey st
 ·refine stepE 8 (pure' := [12, 9, 6, 4, 3, 1, 0]) (lds' := [13, 10, 2]) rfl (by kernel_rfl) (by kernel_rfl) ?_
  refine wl_s2b Try.underlying9 Try.underlying41 Try.underlying5 rfl st rfl ?_
  intro v13 m13 w hg13 h13 _ st
  have hm1 := hg13.le _ _ hm1
  have hsl := hsl.mono hg13.le
  have hkey := hkey.mono hg13.le
  first | (have h10 := h10.mono hg13.le) | skip
  first | (have h16 := h16.mono hg13.le) | skip
  refine wl_nil ⟨rfl, ?_⟩
  refine fl_eff1 5 [12, 9, 6, 3, 1, 0] [13, 10, 2] (by kernel_rfl) ⟨obl_ld rfl rfl rfl (v_load rfl (st.readm (v := .slice ka b.key.length kc) hm1 TF.t41 rfl)), obl_ld rfl rfl rfl (v_load rfl (st.readm (v := u64 b.serial) hm1 TF.t24 rfl)), obl_ld rfl rfl rfl (v_load rfl (st.readm (v := .string (strB b.name)) hm1 TF.t9 rfl)), trivial⟩ rfl ?_
  refine wl_call rfl (c_rnumber st.im) rfl ?_
  rintro v10 w ⟨t10, m10, hg10, hi10, h10⟩
  have st := st.grown hg10 t10 hi10
  have hm1 := hg10.le _ _ hm1
  have hsl := hsl.mono hg10.le
  have hkey := hkey.mono hg10.le
  first | (have h13 := h13.mono hg10.le) | skip
  refine wl_nil ⟨rfl, ?_⟩
  refine fl_eff1 11 [12, 9, 6, 3, 1, 0] [13, 2] (by kernel_rfl) ⟨obl_ld rfl rfl rfl (v_load rfl (st.readm (v := .slice ka b.key.length kc) hm1 TF.t41 rfl)), obl_ld rfl rfl rfl (v_load rfl (st.readm (v := u64 b.serial) hm1 TF.t24 rfl)), obl_ld rfl rfl rfl (v_load rfl (st.readm (v := .string (strB b.name)) hm1 TF.t9 rfl)), trivial⟩ rfl ?_
  refine wl_call rfl (c_rnumber st.im) rfl ?_
  rintro v16 w ⟨t16, m16, hg16, hi16, h16⟩
  have st := st.grown hg16 t16 hi16
  have hm1 := hg16.le _ _ hm1
  have hsl := hsl.mono hg16.le
  have hkey := hkey.mono hg16.le
  have h10 := h10.mono hg16.le
  first | (have h13 := h13.mono hg16.le) | skip
  refine wl_nil ⟨rfl, ?_⟩
  refine FL.permB [11, 8, 5, 13, 12, 10, 9, 7, 6, 4, 3, 2, 1, 0] [12, 9, 6, 3, 1, 0] [13, 2] (by kernel_rfl) ?_
  exact fin _ _ _ _ _ _ rfl rfl rfl rfl rfl rfl rfl rfl rfl hm1 hsl h10 h13 h16 hkey st
theorem c_rvalue {v : Value} {salt : By} {b : Bd} (him : Im m wI) (hs : salt.length = 32) (hb : BdM m v b) (hn : b.name.length ≤ 1000000) (hk : b.key.length ≤ 1000000) :
  Ret Try.prog 56 #[arr salt, v] wI fun v w' => Tch wI w' [] [] ∧ v = arr (sum (valB salt b)) := by
 have st := St.start him
 have hb0 := hb
 obtain ⟨kv, rfl, hkey, hnl⟩ := hb
 refine ret_of Try.call56 Try.func56 rfl Try.ntmps56 Try.results56 rfl ?_
 refine wc_seq ?_
 refine wc_region ?_
 refine wl_box (v := arr salt) rfl st rfl ?_
 intro b2 w st
 refine wl_box (v := .agg (bdC b kv).toArray) rfl st rfl ?_
 intro b3 w st
 refine wl_alloc TF.z23 st rfl ?_
 intro b4 w st
 refine wl_nil ?_
 refine then_go ?_
 refine wc_seq ?_
 refine wc_region ?_
 refine wl_val (v_load rfl (st.reads (v := arr salt) 2 rfl TF.t23 (getV_all (by rw [size_arr, hs])))) rfl ?_
 refine wl_val (v_load rfl (st.reads (v := .agg (bdC b kv).toArray) 1 rfl TF.t43 (getV_all rfl))) rfl ?_
 refine wl_call rfl (c_rvalueb st.im hs hb0 hn hk) rfl ?_
 rintro v7 w ⟨t7, m1, hg1, hi1, hs1⟩
 have st := st.grown hg1 t7 hi1
 refine wl_call rfl (c_ref3of st.im hs1 (by rw [valB_len hs]; omega)) rfl ?_
 rintro v8 w ⟨t8, rfl⟩
 have st := st.pure t8
 refine wl_storeW (cs := (bs (sum (valB salt b))).toArray) 0 st rfl TF.t23 rfl rfl (by simp [length_bs, length_sum]) rfl (fun u hu => one_bs _ u (by simpa using hu)) ?_
 intro w st
 refine wl_nil ?_
 refine then_go ?_
 refine wc_ret ?_
 exact ret1c rfl (st.reads (v := arr (sum (valB salt b))) 0 rfl TF.t23 (getV_all (by simp [length_bs, length_sum]))) ⟨(st.keepOnly (l := []) (List.nil_sublist _)).touch, rfl⟩
end
end Go.Proofs.Ytjjpakjgppmmdaa

namespace Go.Proofs.Ytjjpakjgppmmdaa
open Go Go.RowKit K SH PT
structure Aw where
 epoch : UInt64
 index : By
 proof : Prf
 there : Bool
 salt : By
 bind : Bd
def prL (sv : Value) (E : Int) (I V : By) : List Value := sv :: .int .i64 E :: (bs I ++ bs V)
def awC (a : Aw) (sv kv : Value) : List Value := u64 a.epoch :: (bs a.index ++ (prL sv a.proof.E a.proof.I a.proof.V ++ (.bool a.there :: (bs a.salt ++ bdC a.bind kv))))
structure AwOk (m : Mem) (a : Aw) (sv kv : Value) : Prop where
 sibs : DigM m sv a.proof.S
 key : SlM m kv 1 a.bind.key.length (bs a.bind.key)
 idx : a.index.length = 32
 salt : a.salt.length = 32
 pI : a.proof.I.length = 32
 pV : a.proof.V.length = 32
 name : a.bind.name.length ≤ 9223372036854775807
def AwM (m : Mem) (v : Value) (a : Aw) : Prop := ∃ sv kv, v = .agg (awC a sv kv).toArray ∧ AwOk m a sv kv
theorem AwOk.mono {m m' : Mem} {a : Aw} {sv kv : Value} (h : AwOk m a sv kv) (hm : ∀ k o, m k = some o → m' k = some o) : AwOk m' a sv kv :=
 ⟨h.sibs.mono hm, h.key.mono hm, h.idx, h.salt, h.pI, h.pV, h.name⟩
theorem AwM.mono {m m' : Mem} {v : Value} {a : Aw} (h : AwM m v a) (hm : ∀ k o, m k = some o → m' k = some o) : AwM m' v a := by
 obtain ⟨sv, kv, h1, h2⟩ := h
 exact ⟨sv, kv, h1, h2.mono hm⟩
section
variable {m : Mem} {a : Aw} {sv kv : Value} (h : AwOk m a sv kv)
theorem aw_e : getV false 1 (awC a sv kv).toArray 0 = some (u64 a.epoch) := rfl
include h
theorem aw_i : getV true 32 (awC a sv kv).toArray 1 = some (arr a.index) := getV_seg (a := [u64 a.epoch]) (b := bs a.index) (c := prL sv a.proof.E a.proof.I a.proof.V ++ (.bool a.there :: (bs a.salt ++ bdC a.bind kv))) (by simp [awC]) rfl (by rw [length_bs, h.idx])
theorem len_prL : (prL sv a.proof.E a.proof.I a.proof.V).length = 66 := by simp [prL, length_bs, h.pI, h.pV]
theorem aw_p : getV true 66 (awC a sv kv).toArray 33 = some (.agg (prC sv a.proof.E a.proof.I a.proof.V)) := getV_seg (a := u64 a.epoch :: bs a.index) (b := prL sv a.proof.E a.proof.I a.proof.V) (c := (.bool a.there :: (bs a.salt ++ bdC a.bind kv))) (by simp [awC]) (by simp [length_bs, h.idx]) (len_prL h)
theorem aw_ps : getV false 1 (awC a sv kv).toArray 33 = some sv := getV_lst (b := []) (a := u64 a.epoch :: bs a.index) (c := (Value.int .i64 a.proof.E :: (bs a.proof.I ++ bs a.proof.V)) ++ (.bool a.there :: (bs a.salt ++ bdC a.bind kv))) (by simp [awC, prL]) (by simp [length_bs, h.idx])
theorem aw_t : getV false 1 (awC a sv kv).toArray 99 = some (.bool a.there) := getV_lst (b := []) (a := u64 a.epoch :: (bs a.index ++ prL sv a.proof.E a.proof.I a.proof.V)) (c := bs a.salt ++ bdC a.bind kv) (by simp [awC]) (by simp [length_bs, h.idx, len_prL h])
theorem aw_s : getV true 32 (awC a sv kv).toArray 100 = some (arr a.salt) := getV_seg (a := u64 a.epoch :: (bs a.index ++ (prL sv a.proof.E a.proof.I a.proof.V ++ [.bool a.there]))) (b := bs a.salt) (c := bdC a.bind kv) (by simp [awC]) (by simp [length_bs, h.idx, len_prL h]) (by rw [length_bs, h.salt])
theorem aw_b : getV true 3 (awC a sv kv).toArray 132 = some (.agg (bdC a.bind kv).toArray) := getV_seg (a := u64 a.epoch :: (bs a.index ++ (prL sv a.proof.E a.proof.I a.proof.V ++ (.bool a.there :: bs a.salt)))) (b := bdC a.bind kv) (c := []) (by simp [awC]) (by simp [length_bs, h.idx, len_prL h, h.salt]) rfl
theorem aw_bn : getV false 1 (awC a sv kv).toArray 132 = some (.string (strB a.bind.name)) := getV_lst (b := []) (a := u64 a.epoch :: (bs a.index ++ (prL sv a.proof.E a.proof.I a.proof.V ++ (.bool a.there :: bs a.salt)))) (c := [kv, u64 a.bind.serial]) (by simp [awC, bdC]) (by simp [length_bs, h.idx, len_prL h, h.salt])
theorem aw_bk : getV false 1 (awC a sv kv).toArray 133 = some kv := getV_lst (b := []) (a := u64 a.epoch :: (bs a.index ++ (prL sv a.proof.E a.proof.I a.proof.V ++ (.bool a.there :: (bs a.salt ++ [.string (strB a.bind.name)]))))) (c := [u64 a.bind.serial]) (by simp [awC, bdC]) (by simp [length_bs, h.idx, len_prL h, h.salt])
theorem aw_bs : getV false 1 (awC a sv kv).toArray 134 = some (u64 a.bind.serial) := getV_lst (b := []) (a := u64 a.epoch :: (bs a.index ++ (prL sv a.proof.E a.proof.I a.proof.V ++ (.bool a.there :: (bs a.salt ++ [.string (strB a.bind.name), kv]))))) (c := []) (by simp [awC, bdC]) (by simp [length_bs, h.idx, len_prL h, h.salt])
theorem length_awC : (awC a sv kv).length = 135 := by simp [awC, length_bs, h.idx, len_prL h, h.salt, bdC]
end
def zeroP (a : Aw) : Prop := a.there = false ∧ a.salt = z32 ∧ a.bind.name = [] ∧ a.bind.key.length = 0 ∧ a.bind.serial = 0
instance {a : Aw} : Decidable (zeroP a) := by unfold zeroP; infer_instance
def bindP (name : By) (a : Aw) (value : By) : Prop := a.there = true ∧ a.bind.name = name ∧ 0 < a.bind.serial.toNat ∧ checkE a.bind.name a.bind.key = 0 ∧ sum (valB a.salt a.bind) = value
instance {name : By} {a : Aw} {value : By} : Decidable (bindP name a value) := by unfold bindP; infer_instance
theorem checkE_len {n k : By} (h : checkE n k = 0) : n.length ≤ 32 ∧ k.length ≤ 64 := by
 unfold checkE at h
 split at h
 ·cases h
 ·rename_i h1
  split at h
  ·cases h
  ·have h1 := Decidable.not_not.1 h1
   exact ⟨h1.2.2, by omega⟩
section
variable {m : Mem} {wI : World}
theorem c_shownF {v : Value} {name value : By} {a : Aw} (him : Im m wI) (hv : value.length = 32) (ha : AwM m v a) :
    Ret Try.prog 50 #[.string (strB name), v, arr value, .bool false] wI fun v' w' => Out m wI w' fun _ => v' = .bool (decide (zeroP a)) := by
  have st := St.start him
  obtain ⟨sv, kv, rfl, hok⟩ := ha
  obtain ⟨_, ka, kc, rfl, _⟩ := id hok.key
  refine ret_of Try.call50 Try.func50 rfl Try.ntmps50 Try.results50 rfl ?_
  refine wc_seq ?_
  refine wc_region ?_
  refine wl_box (v := .agg (awC a sv (.slice ka a.bind.key.length kc)).toArray) rfl st rfl ?_
  intro b5 w st
  refine wl_box (v := arr value) rfl st rfl ?_
  intro b6 w st
  refine wl_val (v_assign' (by conv => (lhs; whnf))) rfl ?_
  refine wl_nil ?_
  refine then_go ?_
  refine wc_seq ?_
  refine wc_seq ?_
  refine wc_region ?_
  refine wl_val (v_move' (by conv => (lhs; whnf))) rfl ?_
  refine wl_val (v_not rfl) rfl ?_
  refine wl_nil ?_
  refine then_go ?_
  refine wc_true rfl ?_
  refine wc_seq ?_
  refine wc_region ?_
  refine wl_val (v_fa TF.f45_3 rfl) rfl ?_
  refine wl_val (v_load rfl (st.reads (v := .bool a.there) 1 rfl TF.t4 (aw_t hok))) rfl ?_
  refine wl_val (v_not rfl) rfl ?_
  refine wl_val (v_move' (by conv => (lhs; whnf))) rfl ?_
  rcases Bool.eq_false_or_eq_true (!a.there) with hg3 | hg3
  · rw [hg3]
    refine wl_on rfl rfl ?_
    refine wl_val (v_fa TF.f45_4 rfl) rfl ?_
    refine wl_on rfl rfl ?_
    refine wl_val (v_load rfl (st.reads (v := arr a.salt) 1 rfl TF.t23 (aw_s hok))) rfl ?_
    refine wl_on rfl rfl ?_
    refine wl_val v_z32 rfl ?_
    refine wl_on rfl rfl ?_
    refine wl_val (v_eqD rfl rfl hok.salt rfl) rfl ?_
    refine wl_val (v_pick rfl) rfl ?_
    refine wl_val (v_move' (by conv => (lhs; whnf))) rfl ?_
    by_cases hg9 : a.salt = z32
    · rw [show decide (a.salt = z32) = true from decide_eq_true hg9]
      refine wl_on rfl rfl ?_
      refine wl_val (v_fa TF.f45_5 rfl) rfl ?_
      refine wl_on rfl rfl ?_
      refine wl_val (v_fa TF.f43_0 rfl) rfl ?_
      refine wl_on rfl rfl ?_
      refine wl_val (v_load rfl (st.reads (v := .string (strB a.bind.name)) 1 rfl TF.t9 (aw_bn hok))) rfl ?_
      refine wl_on rfl rfl ?_
      refine wl_val (v_eqs (b := []) rfl rfl) rfl ?_
      refine wl_val (v_pick rfl) rfl ?_
      refine wl_val (v_move' (by conv => (lhs; whnf))) rfl ?_
      by_cases hg15 : a.bind.name = []
      · rw [show decide (a.bind.name = []) = true from decide_eq_true hg15]
        refine wl_on rfl rfl ?_
        refine wl_val (v_fa TF.f45_5 rfl) rfl ?_
        refine wl_on rfl rfl ?_
        refine wl_val (v_fa TF.f43_1 rfl) rfl ?_
        refine wl_on rfl rfl ?_
        refine wl_val (v_load rfl (st.reads (v := .slice ka a.bind.key.length kc) 1 rfl TF.t41 (aw_bk hok))) rfl ?_
        refine wl_on rfl rfl ?_
        refine wl_val (v_len_s Try.underlying41 rfl) rfl ?_
        refine wl_on rfl rfl ?_
        refine wl_val (v_to (v' := .bool (decide ((a.bind.key.length : Int) = 0))) (v_eql rfl rfl) rfl) rfl ?_
        refine wl_val (v_pick rfl) rfl ?_
        refine wl_val (v_move' (by conv => (lhs; whnf))) rfl ?_
        by_cases hg22 : (a.bind.key.length : Int) = 0
        · rw [show decide ((a.bind.key.length : Int) = 0) = true from decide_eq_true hg22]
          refine wl_on rfl rfl ?_
          refine wl_val (v_fa TF.f45_5 rfl) rfl ?_
          refine wl_on rfl rfl ?_
          refine wl_val (v_fa TF.f43_2 rfl) rfl ?_
          refine wl_on rfl rfl ?_
          refine wl_val (v_load rfl (st.reads (v := u64 a.bind.serial) 1 rfl TF.t24 (aw_bs hok))) rfl ?_
          refine wl_on rfl rfl ?_
          refine wl_val (v_eql rfl rfl) rfl ?_
          refine wl_val (v_pick rfl) rfl ?_
          refine wl_val (v_assign' (by conv => (lhs; whnf))) rfl ?_
          refine wl_nil ?_
          refine then_go ?_
          refine wc_ret (then_ret ?_)
          refine ret1 rfl ((st.keepOnly (l := []) (List.nil_sublist _)).out ?_)
          first
            | (have ht : a.there = false := by simpa using hg3
               have e : decide (zeroP a) = decide ((a.bind.serial.toNat : Int) = 0) := decide_eq_decide.2 ⟨fun h => by rw [h.2.2.2.2]; rfl, fun h => ⟨ht, hg9, hg15, by omega, UInt64.toNat_inj.1 (by rw [show (0 : UInt64).toNat = 0 from rfl]; omega)⟩⟩
               rw [e]; rfl)
            | (rw [show decide (zeroP a) = false from decide_eq_false (fun hc => by first | exact hg9 hc.2.1 | exact hg15 hc.2.2.1 | exact hg22 (by have := hc.2.2.2.1; omega) | (have := hc.1; rw [this] at hg3; cases hg3))]; rfl)
        · rw [show decide ((a.bind.key.length : Int) = 0) = false from decide_eq_false hg22]
          refine wl_off rfl rfl rfl rfl ?_
          refine wl_off rfl rfl rfl rfl ?_
          refine wl_off rfl rfl rfl rfl ?_
          refine wl_off rfl rfl rfl rfl ?_
          refine wl_val (v_pick rfl) rfl ?_
          refine wl_val (v_assign' (by conv => (lhs; whnf))) rfl ?_
          refine wl_nil ?_
          refine then_go ?_
          refine wc_ret (then_ret ?_)
          refine ret1 rfl ((st.keepOnly (l := []) (List.nil_sublist _)).out ?_)
          first
            | (have ht : a.there = false := by simpa using hg3
               have e : decide (zeroP a) = decide ((a.bind.serial.toNat : Int) = 0) := decide_eq_decide.2 ⟨fun h => by rw [h.2.2.2.2]; rfl, fun h => ⟨ht, hg9, hg15, by omega, UInt64.toNat_inj.1 (by rw [show (0 : UInt64).toNat = 0 from rfl]; omega)⟩⟩
               rw [e]; rfl)
            | (rw [show decide (zeroP a) = false from decide_eq_false (fun hc => by first | exact hg9 hc.2.1 | exact hg15 hc.2.2.1 | exact hg22 (by have := hc.2.2.2.1; omega) | (have := hc.1; rw [this] at hg3; cases hg3))]; rfl)
      · rw [show decide (a.bind.name = []) = false from decide_eq_false hg15]
        refine wl_off rfl rfl rfl rfl ?_
        refine wl_off rfl rfl rfl rfl ?_
        refine wl_off rfl rfl rfl rfl ?_
        refine wl_off rfl rfl rfl rfl ?_
        refine wl_off rfl rfl rfl rfl ?_
        refine wl_val (v_pick rfl) rfl ?_
        refine wl_val (v_move' (by conv => (lhs; whnf))) rfl ?_
        refine wl_off rfl rfl rfl rfl ?_
        refine wl_off rfl rfl rfl rfl ?_
        refine wl_off rfl rfl rfl rfl ?_
        refine wl_off rfl rfl rfl rfl ?_
        refine wl_val (v_pick rfl) rfl ?_
        refine wl_val (v_assign' (by conv => (lhs; whnf))) rfl ?_
        refine wl_nil ?_
        refine then_go ?_
        refine wc_ret (then_ret ?_)
        refine ret1 rfl ((st.keepOnly (l := []) (List.nil_sublist _)).out ?_)
        first
          | (have ht : a.there = false := by simpa using hg3
             have e : decide (zeroP a) = decide ((a.bind.serial.toNat : Int) = 0) := decide_eq_decide.2 ⟨fun h => by rw [h.2.2.2.2]; rfl, fun h => ⟨ht, hg9, hg15, by omega, UInt64.toNat_inj.1 (by rw [show (0 : UInt64).toNat = 0 from rfl]; omega)⟩⟩
             rw [e]; rfl)
          | (rw [show decide (zeroP a) = false from decide_eq_false (fun hc => by first | exact hg9 hc.2.1 | exact hg15 hc.2.2.1 | exact hg22 (by have := hc.2.2.2.1; omega) | (have := hc.1; rw [this] at hg3; cases hg3))]; rfl)
    · rw [show decide (a.salt = z32) = false from decide_eq_false hg9]
      refine wl_off rfl rfl rfl rfl ?_
      refine wl_off rfl rfl rfl rfl ?_
      refine wl_off rfl rfl rfl rfl ?_
      refine wl_off rfl rfl rfl rfl ?_
      refine wl_val (v_pick rfl) rfl ?_
      refine wl_val (v_move' (by conv => (lhs; whnf))) rfl ?_
      refine wl_off rfl rfl rfl rfl ?_
      refine wl_off rfl rfl rfl rfl ?_
      refine wl_off rfl rfl rfl rfl ?_
      refine wl_off rfl rfl rfl rfl ?_
      refine wl_off rfl rfl rfl rfl ?_
      refine wl_val (v_pick rfl) rfl ?_
      refine wl_val (v_move' (by conv => (lhs; whnf))) rfl ?_
      refine wl_off rfl rfl rfl rfl ?_
      refine wl_off rfl rfl rfl rfl ?_
      refine wl_off rfl rfl rfl rfl ?_
      refine wl_off rfl rfl rfl rfl ?_
      refine wl_val (v_pick rfl) rfl ?_
      refine wl_val (v_assign' (by conv => (lhs; whnf))) rfl ?_
      refine wl_nil ?_
      refine then_go ?_
      refine wc_ret (then_ret ?_)
      refine ret1 rfl ((st.keepOnly (l := []) (List.nil_sublist _)).out ?_)
      first
        | (have ht : a.there = false := by simpa using hg3
           have e : decide (zeroP a) = decide ((a.bind.serial.toNat : Int) = 0) := decide_eq_decide.2 ⟨fun h => by rw [h.2.2.2.2]; rfl, fun h => ⟨ht, hg9, hg15, by omega, UInt64.toNat_inj.1 (by rw [show (0 : UInt64).toNat = 0 from rfl]; omega)⟩⟩
           rw [e]; rfl)
        | (rw [show decide (zeroP a) = false from decide_eq_false (fun hc => by first | exact hg9 hc.2.1 | exact hg15 hc.2.2.1 | exact hg22 (by have := hc.2.2.2.1; omega) | (have := hc.1; rw [this] at hg3; cases hg3))]; rfl)
  · rw [hg3]
    refine wl_off rfl rfl rfl rfl ?_
    refine wl_off rfl rfl rfl rfl ?_
    refine wl_off rfl rfl rfl rfl ?_
    refine wl_off rfl rfl rfl rfl ?_
    refine wl_val (v_pick rfl) rfl ?_
    refine wl_val (v_move' (by conv => (lhs; whnf))) rfl ?_
    refine wl_off rfl rfl rfl rfl ?_
    refine wl_off rfl rfl rfl rfl ?_
    refine wl_off rfl rfl rfl rfl ?_
    refine wl_off rfl rfl rfl rfl ?_
    refine wl_val (v_pick rfl) rfl ?_
    refine wl_val (v_move' (by conv => (lhs; whnf))) rfl ?_
    refine wl_off rfl rfl rfl rfl ?_
    refine wl_off rfl rfl rfl rfl ?_
    refine wl_off rfl rfl rfl rfl ?_
    refine wl_off rfl rfl rfl rfl ?_
    refine wl_off rfl rfl rfl rfl ?_
    refine wl_val (v_pick rfl) rfl ?_
    refine wl_val (v_move' (by conv => (lhs; whnf))) rfl ?_
    refine wl_off rfl rfl rfl rfl ?_
    refine wl_off rfl rfl rfl rfl ?_
    refine wl_off rfl rfl rfl rfl ?_
    refine wl_off rfl rfl rfl rfl ?_
    refine wl_val (v_pick rfl) rfl ?_
    refine wl_val (v_assign' (by conv => (lhs; whnf))) rfl ?_
    refine wl_nil ?_
    refine then_go ?_
    refine wc_ret (then_ret ?_)
    refine ret1 rfl ((st.keepOnly (l := []) (List.nil_sublist _)).out ?_)
    first
      | (have ht : a.there = false := by simpa using hg3
         have e : decide (zeroP a) = decide ((a.bind.serial.toNat : Int) = 0) := decide_eq_decide.2 ⟨fun h => by rw [h.2.2.2.2]; rfl, fun h => ⟨ht, hg9, hg15, by omega, UInt64.toNat_inj.1 (by rw [show (0 : UInt64).toNat = 0 from rfl]; omega)⟩⟩
         rw [e]; rfl)
      | (rw [show decide (zeroP a) = false from decide_eq_false (fun hc => by first | exact hg9 hc.2.1 | exact hg15 hc.2.2.1 | exact hg22 (by have := hc.2.2.2.1; omega) | (have := hc.1; rw [this] at hg3; cases hg3))]; rfl)
theorem c_shownT {v : Value} {name value : By} {a : Aw} (him : Im m wI) (hv : value.length = 32) (ha : AwM m v a) :
  Ret Try.prog 50 #[.string (strB name), v, arr value, .bool true] wI fun v' w' => Out m wI w' fun _ => v' = .bool (decide (bindP name a value)) := by
 have st := St.start him
 obtain ⟨sv, kv, rfl, hok⟩ := ha
 obtain ⟨_, ka, kc, rfl, _⟩ := id hok.key
 have hbd : BdM m (.agg (bdC a.bind (.slice ka a.bind.key.length kc)).toArray) a.bind := ⟨_, rfl, hok.key, hok.name⟩
 refine ret_of Try.call50 Try.func50 rfl Try.ntmps50 Try.results50 rfl ?_
 refine wc_seq ?_
 refine wc_region ?_
 refine wl_box (v := .agg (awC a sv (.slice ka a.bind.key.length kc)).toArray) rfl st rfl ?_
 intro b5 w st
 refine wl_box (v := arr value) rfl st rfl ?_
 intro b6 w st
 refine wl_val (v_assign' (by conv => (lhs; whnf))) rfl ?_
 refine wl_nil ?_
 refine then_go ?_
 refine wc_seq ?_
 refine wc_seq ?_
 refine wc_region ?_
 refine wl_val (v_move' (by conv => (lhs; whnf))) rfl ?_
 refine wl_val (v_not rfl) rfl ?_
 refine wl_nil ?_
 refine then_go ?_
 refine wc_false rfl ?_
 refine wc_skip ?_
 refine then_go ?_
 refine wc_seq ?_
 refine wc_region ?_
 refine wl_val (v_fa TF.f45_5 rfl) rfl ?_
 refine wl_val (v_load rfl (st.reads (v := .agg (bdC a.bind (.slice ka a.bind.key.length kc)).toArray) 1 rfl TF.t43 (aw_b hok))) rfl ?_
 refine wl_alloc TF.z43 st rfl ?_
 intro b9 w st
 refine wl_storeW (cs := (bdC a.bind (.slice ka a.bind.key.length kc)).toArray) 0 st rfl TF.t43 rfl rfl rfl rfl (fun u hu => by simp [bdC] at hu; rcases hu with rfl | rfl | rfl <;> rfl) ?_
 intro w st
 refine wl_nil ?_
 refine then_go ?_
 refine wc_seq ?_
 rcases Bool.eq_false_or_eq_true a.there with hT | hT
 ·by_cases hN : a.bind.name = name
  ·by_cases hS : 0 < a.bind.serial.toNat
   ·by_cases hC : checkE a.bind.name a.bind.key = 0
    ·refine wc_draw TF.mixed ?_
     have st := st.pure (touch_drew _)
     refine fl_val 0 rfl (fun _ => (v_fa TF.f45_3 rfl)) rfl (by kernel_rfl) ?_
     refine fl_ld 1 rfl (v_to (v' := .bool true) (v_load rfl (st.reads (v := .bool a.there) 2 rfl TF.t4 (aw_t hok))) (by rw [hT])) (by kernel_rfl) ?_
     refine fl_val 2 rfl (fun _ => (v_move' (by conv => (lhs; whnf)))) rfl (by kernel_rfl) ?_
     refine fl_on 3 rfl rfl rfl rfl (fun _ => (v_fa TF.f43_0 rfl)) rfl (by kernel_rfl) ?_
     refine fl_ond 4 rfl rfl rfl rfl (v_load rfl (st.reads (v := .string (strB a.bind.name)) 0 rfl TF.t9 rfl)) rfl (by kernel_rfl) ?_
     refine fl_on 5 rfl rfl rfl rfl (fun _ => (v_move' (by conv => (lhs; whnf)))) rfl (by kernel_rfl) ?_
     refine fl_on 6 rfl rfl rfl rfl (fun _ => (v_to (v' := .bool true) (v_eqs rfl rfl) (by rw [decide_eq_true hN]))) rfl (by kernel_rfl) ?_
     refine fl_val 7 rfl (fun _ => (v_pick rfl)) rfl (by kernel_rfl) ?_
     refine fl_val 8 rfl (fun _ => (v_move' (by conv => (lhs; whnf)))) rfl (by kernel_rfl) ?_
     refine fl_on 9 rfl rfl rfl rfl (fun _ => (v_fa TF.f43_2 rfl)) rfl (by kernel_rfl) ?_
     refine fl_ond 10 rfl rfl rfl rfl (v_load rfl (st.reads (v := u64 a.bind.serial) 0 rfl TF.t24 rfl)) rfl (by kernel_rfl) ?_
     refine fl_on 11 rfl rfl rfl rfl (fun _ => (v_to (v' := .bool true) (v_gtr rfl rfl) (by rw [decide_eq_true (by omega)]))) rfl (by kernel_rfl) ?_
     refine fl_val 12 rfl (fun _ => (v_pick rfl)) rfl (by kernel_rfl) ?_
     refine fl_val 13 rfl (fun _ => (v_move' (by conv => (lhs; whnf)))) rfl (by kernel_rfl) ?_
     refine fl_ond 14 rfl rfl rfl rfl (v_load rfl (st.reads (v := .agg (bdC a.bind (.slice ka a.bind.key.length kc)).toArray) 0 rfl TF.t43 (getV_all rfl))) rfl (by kernel_rfl) ?_
     refine fl_eff1 15 [12, 11, 9, 8, 7, 6, 5, 3, 2, 0] [10, 4, 1] (by kernel_rfl) ⟨obl_on rfl rfl rfl rfl rfl (v_load rfl (st.reads (v := .agg (bdC a.bind (.slice ka a.bind.key.length kc)).toArray) 0 rfl TF.t43 (getV_all rfl))), obl_on rfl rfl rfl rfl rfl (v_load rfl (st.reads (v := u64 a.bind.serial) 0 rfl TF.t24 rfl)), obl_on rfl rfl rfl rfl rfl (v_load rfl (st.reads (v := .string (strB a.bind.name)) 0 rfl TF.t9 rfl)), obl_ld rfl rfl rfl (v_to (v' := .bool true) (v_load rfl (st.reads (v := .bool a.there) 2 rfl TF.t4 (aw_t hok))) (by rw [hT])), trivial⟩ rfl ?_
     refine wl_on rfl rfl ?_
     refine wl_call rfl (c_reccheck st.im hbd) rfl ?_
     rintro v57 w ⟨t57, rfl⟩
     have st := st.pure t57
     refine wl_nil ⟨rfl, ?_⟩
     refine fl_on 16 rfl rfl rfl rfl (fun _ => (v_to (v' := .bool true) (v_eql rfl rfl) (by rw [decide_eq_true hC]))) rfl (by kernel_rfl) ?_
     refine fl_val 17 rfl (fun _ => (v_pick rfl)) rfl (by kernel_rfl) ?_
     refine fl_val 18 rfl (fun _ => (v_move' (by conv => (lhs; whnf)))) rfl (by kernel_rfl) ?_
     refine fl_on 19 rfl rfl rfl rfl (fun _ => (v_fa TF.f45_4 rfl)) rfl (by kernel_rfl) ?_
     refine fl_ond 20 rfl rfl rfl rfl (v_load rfl (st.reads (v := arr a.salt) 2 rfl TF.t23 (aw_s hok))) rfl (by kernel_rfl) ?_
     refine fl_ond 21 rfl rfl rfl rfl (v_load rfl (st.reads (v := .agg (bdC a.bind (.slice ka a.bind.key.length kc)).toArray) 0 rfl TF.t43 (getV_all rfl))) rfl (by kernel_rfl) ?_
     refine fl_ond 24 rfl rfl rfl rfl (v_load rfl (st.reads (v := arr value) 1 rfl TF.t23 (getV_all (by rw [size_arr, hv])))) rfl (by kernel_rfl) ?_
     refine fl_eff1 22 [19, 17, 16, 12, 11, 9, 8, 7, 6, 5, 3, 2, 0] [24, 10, 4, 1] (by kernel_rfl) ⟨obl_on rfl rfl rfl rfl rfl (v_load rfl (st.reads (v := arr value) 1 rfl TF.t23 (getV_all (by rw [size_arr, hv])))), obl_on rfl rfl rfl rfl rfl (v_load rfl (st.reads (v := .agg (bdC a.bind (.slice ka a.bind.key.length kc)).toArray) 0 rfl TF.t43 (getV_all rfl))), obl_on rfl rfl rfl rfl rfl (v_load rfl (st.reads (v := arr a.salt) 2 rfl TF.t23 (aw_s hok))), obl_on rfl rfl rfl rfl rfl (v_load rfl (st.reads (v := u64 a.bind.serial) 0 rfl TF.t24 rfl)), obl_on rfl rfl rfl rfl rfl (v_load rfl (st.reads (v := .string (strB a.bind.name)) 0 rfl TF.t9 rfl)), obl_ld rfl rfl rfl (v_to (v' := .bool true) (v_load rfl (st.reads (v := .bool a.there) 2 rfl TF.t4 (aw_t hok))) (by rw [hT])), trivial⟩ rfl ?_
     refine wl_on rfl rfl ?_
     refine wl_call rfl (c_valueb st.im hok.salt hbd (by have := (checkE_len hC).1; omega) (by have := (checkE_len hC).2; omega)) rfl ?_
     rintro v64 w ⟨t64, m1, hg1, hi1, hs1⟩
     have st := st.grown hg1 t64 hi1
     refine wl_nil ⟨rfl, ?_⟩
     refine fl_eff1 23 [19, 17, 16, 12, 11, 9, 8, 7, 6, 5, 3, 2, 0] [24, 10, 4, 1] (by kernel_rfl) ⟨obl_on rfl rfl rfl rfl rfl (v_load rfl (st.reads (v := arr value) 1 rfl TF.t23 (getV_all (by rw [size_arr, hv])))), obl_on rfl rfl rfl rfl rfl (v_load rfl (st.reads (v := u64 a.bind.serial) 0 rfl TF.t24 rfl)), obl_on rfl rfl rfl rfl rfl (v_load rfl (st.reads (v := .string (strB a.bind.name)) 0 rfl TF.t9 rfl)), obl_ld rfl rfl rfl (v_to (v' := .bool true) (v_load rfl (st.reads (v := .bool a.there) 2 rfl TF.t4 (aw_t hok))) (by rw [hT])), trivial⟩ rfl ?_
     refine wl_on rfl rfl ?_
     refine wl_call rfl (c_tagsof st.im hs1 (by rw [valB_len hok.salt]; have := checkE_len hC; omega)) rfl ?_
     rintro v65 w ⟨t65, rfl⟩
     have st := st.pure t65
     refine wl_nil ⟨rfl, ?_⟩
     refine fl_on 25 rfl rfl rfl rfl (fun _ => (v_eqD rfl rfl (length_sum _) hv)) rfl (by kernel_rfl) ?_
     refine fl_val 26 rfl (fun _ => (v_pick rfl)) rfl (by kernel_rfl) ?_
     refine fl_eff1 27 [] [] (by kernel_rfl) ⟨obl_on rfl rfl rfl rfl rfl (v_load rfl (st.reads (v := arr value) 1 rfl TF.t23 (getV_all (by rw [size_arr, hv])))), obl_on rfl rfl rfl rfl rfl (v_load rfl (st.reads (v := u64 a.bind.serial) 0 rfl TF.t24 rfl)), obl_on rfl rfl rfl rfl rfl (v_load rfl (st.reads (v := .string (strB a.bind.name)) 0 rfl TF.t9 rfl)), obl_ld rfl rfl rfl (v_to (v' := .bool true) (v_load rfl (st.reads (v := .bool a.there) 2 rfl TF.t4 (aw_t hok))) (by rw [hT])), trivial⟩ rfl ?_
     refine wl_val (v_assign' (by conv => (lhs; whnf))) rfl ?_
     refine wl_nil ⟨rfl, ?_⟩
     refine fl_nil (by kernel_rfl) trivial ?_
     refine then_go ?_
     refine wc_ret ?_
     refine ret1 rfl ((st.keepOnly (l := []) (List.nil_sublist _)).out ?_)
     have e : decide (bindP name a value) = decide (sum (valB a.salt a.bind) = value) := decide_eq_decide.2 ⟨fun h => h.2.2.2.2, fun h => ⟨hT, hN, hS, hC, h⟩⟩
     rw [e]; rfl
    ·refine wc_draw TF.mixed ?_
     have st := st.pure (touch_drew _)
     refine fl_val 0 rfl (fun _ => (v_fa TF.f45_3 rfl)) rfl (by kernel_rfl) ?_
     refine fl_ld 1 rfl (v_to (v' := .bool true) (v_load rfl (st.reads (v := .bool a.there) 2 rfl TF.t4 (aw_t hok))) (by rw [hT])) (by kernel_rfl) ?_
     refine fl_val 2 rfl (fun _ => (v_move' (by conv => (lhs; whnf)))) rfl (by kernel_rfl) ?_
     refine fl_on 3 rfl rfl rfl rfl (fun _ => (v_fa TF.f43_0 rfl)) rfl (by kernel_rfl) ?_
     refine fl_ond 4 rfl rfl rfl rfl (v_load rfl (st.reads (v := .string (strB a.bind.name)) 0 rfl TF.t9 rfl)) rfl (by kernel_rfl) ?_
     refine fl_on 5 rfl rfl rfl rfl (fun _ => (v_move' (by conv => (lhs; whnf)))) rfl (by kernel_rfl) ?_
     refine fl_on 6 rfl rfl rfl rfl (fun _ => (v_to (v' := .bool true) (v_eqs rfl rfl) (by rw [decide_eq_true hN]))) rfl (by kernel_rfl) ?_
     refine fl_val 7 rfl (fun _ => (v_pick rfl)) rfl (by kernel_rfl) ?_
     refine fl_val 8 rfl (fun _ => (v_move' (by conv => (lhs; whnf)))) rfl (by kernel_rfl) ?_
     refine fl_on 9 rfl rfl rfl rfl (fun _ => (v_fa TF.f43_2 rfl)) rfl (by kernel_rfl) ?_
     refine fl_ond 10 rfl rfl rfl rfl (v_load rfl (st.reads (v := u64 a.bind.serial) 0 rfl TF.t24 rfl)) rfl (by kernel_rfl) ?_
     refine fl_on 11 rfl rfl rfl rfl (fun _ => (v_to (v' := .bool true) (v_gtr rfl rfl) (by rw [decide_eq_true (by omega)]))) rfl (by kernel_rfl) ?_
     refine fl_val 12 rfl (fun _ => (v_pick rfl)) rfl (by kernel_rfl) ?_
     refine fl_val 13 rfl (fun _ => (v_move' (by conv => (lhs; whnf)))) rfl (by kernel_rfl) ?_
     refine fl_ond 14 rfl rfl rfl rfl (v_load rfl (st.reads (v := .agg (bdC a.bind (.slice ka a.bind.key.length kc)).toArray) 0 rfl TF.t43 (getV_all rfl))) rfl (by kernel_rfl) ?_
     refine fl_eff1 15 [12, 11, 9, 8, 7, 6, 5, 3, 2, 0] [10, 4, 1] (by kernel_rfl) ⟨obl_on rfl rfl rfl rfl rfl (v_load rfl (st.reads (v := .agg (bdC a.bind (.slice ka a.bind.key.length kc)).toArray) 0 rfl TF.t43 (getV_all rfl))), obl_on rfl rfl rfl rfl rfl (v_load rfl (st.reads (v := u64 a.bind.serial) 0 rfl TF.t24 rfl)), obl_on rfl rfl rfl rfl rfl (v_load rfl (st.reads (v := .string (strB a.bind.name)) 0 rfl TF.t9 rfl)), obl_ld rfl rfl rfl (v_to (v' := .bool true) (v_load rfl (st.reads (v := .bool a.there) 2 rfl TF.t4 (aw_t hok))) (by rw [hT])), trivial⟩ rfl ?_
     refine wl_on rfl rfl ?_
     refine wl_call rfl (c_reccheck st.im hbd) rfl ?_
     rintro v57 w ⟨t57, rfl⟩
     have st := st.pure t57
     refine wl_nil ⟨rfl, ?_⟩
     refine fl_on 16 rfl rfl rfl rfl (fun _ => (v_to (v' := .bool false) (v_eql rfl rfl) (by rw [decide_eq_false hC]))) rfl (by kernel_rfl) ?_
     refine fl_val 17 rfl (fun _ => (v_pick rfl)) rfl (by kernel_rfl) ?_
     refine fl_val 18 rfl (fun _ => (v_move' (by conv => (lhs; whnf)))) rfl (by kernel_rfl) ?_
     refine fl_off 19 rfl rfl rfl rfl rfl rfl (by kernel_rfl) ?_
     refine fl_offd 20 rfl rfl rfl rfl rfl rfl (by kernel_rfl) ?_
     refine fl_offd 21 rfl rfl rfl rfl rfl rfl (by kernel_rfl) ?_
     refine fl_offd 24 rfl rfl rfl rfl rfl rfl (by kernel_rfl) ?_
     refine fl_eff1 22 [19, 17, 16, 12, 11, 9, 8, 7, 6, 5, 3, 2, 0] [24, 10, 4, 1] (by kernel_rfl) ⟨obl_off rfl rfl rfl rfl rfl rfl, obl_off rfl rfl rfl rfl rfl rfl, obl_off rfl rfl rfl rfl rfl rfl, obl_on rfl rfl rfl rfl rfl (v_load rfl (st.reads (v := u64 a.bind.serial) 0 rfl TF.t24 rfl)), obl_on rfl rfl rfl rfl rfl (v_load rfl (st.reads (v := .string (strB a.bind.name)) 0 rfl TF.t9 rfl)), obl_ld rfl rfl rfl (v_to (v' := .bool true) (v_load rfl (st.reads (v := .bool a.there) 2 rfl TF.t4 (aw_t hok))) (by rw [hT])), trivial⟩ rfl ?_
     refine wl_off rfl rfl rfl rfl ?_
     refine wl_nil ⟨rfl, ?_⟩
     refine fl_eff1 23 [19, 17, 16, 12, 11, 9, 8, 7, 6, 5, 3, 2, 0] [24, 10, 4, 1] (by kernel_rfl) ⟨obl_off rfl rfl rfl rfl rfl rfl, obl_on rfl rfl rfl rfl rfl (v_load rfl (st.reads (v := u64 a.bind.serial) 0 rfl TF.t24 rfl)), obl_on rfl rfl rfl rfl rfl (v_load rfl (st.reads (v := .string (strB a.bind.name)) 0 rfl TF.t9 rfl)), obl_ld rfl rfl rfl (v_to (v' := .bool true) (v_load rfl (st.reads (v := .bool a.there) 2 rfl TF.t4 (aw_t hok))) (by rw [hT])), trivial⟩ rfl ?_
     refine wl_off rfl rfl rfl rfl ?_
     refine wl_nil ⟨rfl, ?_⟩
     refine fl_off 25 rfl rfl rfl rfl rfl rfl (by kernel_rfl) ?_
     refine fl_val 26 rfl (fun _ => (v_pick rfl)) rfl (by kernel_rfl) ?_
     refine fl_eff1 27 [] [] (by kernel_rfl) ⟨obl_off rfl rfl rfl rfl rfl rfl, obl_on rfl rfl rfl rfl rfl (v_load rfl (st.reads (v := u64 a.bind.serial) 0 rfl TF.t24 rfl)), obl_on rfl rfl rfl rfl rfl (v_load rfl (st.reads (v := .string (strB a.bind.name)) 0 rfl TF.t9 rfl)), obl_ld rfl rfl rfl (v_to (v' := .bool true) (v_load rfl (st.reads (v := .bool a.there) 2 rfl TF.t4 (aw_t hok))) (by rw [hT])), trivial⟩ rfl ?_
     refine wl_val (v_assign' (by conv => (lhs; whnf))) rfl ?_
     refine wl_nil ⟨rfl, ?_⟩
     refine fl_nil (by kernel_rfl) trivial ?_
     refine then_go ?_
     refine wc_ret ?_
     refine ret1 rfl ((st.keepOnly (l := []) (List.nil_sublist _)).out ?_)
     rw [show decide (bindP name a value) = false from decide_eq_false (fun hc => by first | exact hN hc.2.1 | exact hS hc.2.2.1 | exact hC hc.2.2.2.1 | (have := hc.1; rw [this] at hT; cases hT))]; rfl
   ·refine wc_draw TF.mixed ?_
    have st := st.pure (touch_drew _)
    refine fl_val 0 rfl (fun _ => (v_fa TF.f45_3 rfl)) rfl (by kernel_rfl) ?_
    refine fl_ld 1 rfl (v_to (v' := .bool true) (v_load rfl (st.reads (v := .bool a.there) 2 rfl TF.t4 (aw_t hok))) (by rw [hT])) (by kernel_rfl) ?_
    refine fl_val 2 rfl (fun _ => (v_move' (by conv => (lhs; whnf)))) rfl (by kernel_rfl) ?_
    refine fl_on 3 rfl rfl rfl rfl (fun _ => (v_fa TF.f43_0 rfl)) rfl (by kernel_rfl) ?_
    refine fl_ond 4 rfl rfl rfl rfl (v_load rfl (st.reads (v := .string (strB a.bind.name)) 0 rfl TF.t9 rfl)) rfl (by kernel_rfl) ?_
    refine fl_on 5 rfl rfl rfl rfl (fun _ => (v_move' (by conv => (lhs; whnf)))) rfl (by kernel_rfl) ?_
    refine fl_on 6 rfl rfl rfl rfl (fun _ => (v_to (v' := .bool true) (v_eqs rfl rfl) (by rw [decide_eq_true hN]))) rfl (by kernel_rfl) ?_
    refine fl_val 7 rfl (fun _ => (v_pick rfl)) rfl (by kernel_rfl) ?_
    refine fl_val 8 rfl (fun _ => (v_move' (by conv => (lhs; whnf)))) rfl (by kernel_rfl) ?_
    refine fl_on 9 rfl rfl rfl rfl (fun _ => (v_fa TF.f43_2 rfl)) rfl (by kernel_rfl) ?_
    refine fl_ond 10 rfl rfl rfl rfl (v_load rfl (st.reads (v := u64 a.bind.serial) 0 rfl TF.t24 rfl)) rfl (by kernel_rfl) ?_
    refine fl_on 11 rfl rfl rfl rfl (fun _ => (v_to (v' := .bool false) (v_gtr rfl rfl) (by rw [decide_eq_false (by omega)]))) rfl (by kernel_rfl) ?_
    refine fl_val 12 rfl (fun _ => (v_pick rfl)) rfl (by kernel_rfl) ?_
    refine fl_val 13 rfl (fun _ => (v_move' (by conv => (lhs; whnf)))) rfl (by kernel_rfl) ?_
    refine fl_offd 14 rfl rfl rfl rfl rfl rfl (by kernel_rfl) ?_
    refine fl_eff1 15 [12, 11, 9, 8, 7, 6, 5, 3, 2, 0] [10, 4, 1] (by kernel_rfl) ⟨obl_off rfl rfl rfl rfl rfl rfl, obl_on rfl rfl rfl rfl rfl (v_load rfl (st.reads (v := u64 a.bind.serial) 0 rfl TF.t24 rfl)), obl_on rfl rfl rfl rfl rfl (v_load rfl (st.reads (v := .string (strB a.bind.name)) 0 rfl TF.t9 rfl)), obl_ld rfl rfl rfl (v_to (v' := .bool true) (v_load rfl (st.reads (v := .bool a.there) 2 rfl TF.t4 (aw_t hok))) (by rw [hT])), trivial⟩ rfl ?_
    refine wl_off rfl rfl rfl rfl ?_
    refine wl_nil ⟨rfl, ?_⟩
    refine fl_off 16 rfl rfl rfl rfl rfl rfl (by kernel_rfl) ?_
    refine fl_val 17 rfl (fun _ => (v_pick rfl)) rfl (by kernel_rfl) ?_
    refine fl_val 18 rfl (fun _ => (v_move' (by conv => (lhs; whnf)))) rfl (by kernel_rfl) ?_
    refine fl_off 19 rfl rfl rfl rfl rfl rfl (by kernel_rfl) ?_
    refine fl_offd 20 rfl rfl rfl rfl rfl rfl (by kernel_rfl) ?_
    refine fl_offd 21 rfl rfl rfl rfl rfl rfl (by kernel_rfl) ?_
    refine fl_offd 24 rfl rfl rfl rfl rfl rfl (by kernel_rfl) ?_
    refine fl_eff1 22 [19, 17, 16, 12, 11, 9, 8, 7, 6, 5, 3, 2, 0] [24, 10, 4, 1] (by kernel_rfl) ⟨obl_off rfl rfl rfl rfl rfl rfl, obl_off rfl rfl rfl rfl rfl rfl, obl_off rfl rfl rfl rfl rfl rfl, obl_on rfl rfl rfl rfl rfl (v_load rfl (st.reads (v := u64 a.bind.serial) 0 rfl TF.t24 rfl)), obl_on rfl rfl rfl rfl rfl (v_load rfl (st.reads (v := .string (strB a.bind.name)) 0 rfl TF.t9 rfl)), obl_ld rfl rfl rfl (v_to (v' := .bool true) (v_load rfl (st.reads (v := .bool a.there) 2 rfl TF.t4 (aw_t hok))) (by rw [hT])), trivial⟩ rfl ?_
    refine wl_off rfl rfl rfl rfl ?_
    refine wl_nil ⟨rfl, ?_⟩
    refine fl_eff1 23 [19, 17, 16, 12, 11, 9, 8, 7, 6, 5, 3, 2, 0] [24, 10, 4, 1] (by kernel_rfl) ⟨obl_off rfl rfl rfl rfl rfl rfl, obl_on rfl rfl rfl rfl rfl (v_load rfl (st.reads (v := u64 a.bind.serial) 0 rfl TF.t24 rfl)), obl_on rfl rfl rfl rfl rfl (v_load rfl (st.reads (v := .string (strB a.bind.name)) 0 rfl TF.t9 rfl)), obl_ld rfl rfl rfl (v_to (v' := .bool true) (v_load rfl (st.reads (v := .bool a.there) 2 rfl TF.t4 (aw_t hok))) (by rw [hT])), trivial⟩ rfl ?_
    refine wl_off rfl rfl rfl rfl ?_
    refine wl_nil ⟨rfl, ?_⟩
    refine fl_off 25 rfl rfl rfl rfl rfl rfl (by kernel_rfl) ?_
    refine fl_val 26 rfl (fun _ => (v_pick rfl)) rfl (by kernel_rfl) ?_
    refine fl_eff1 27 [] [] (by kernel_rfl) ⟨obl_off rfl rfl rfl rfl rfl rfl, obl_on rfl rfl rfl rfl rfl (v_load rfl (st.reads (v := u64 a.bind.serial) 0 rfl TF.t24 rfl)), obl_on rfl rfl rfl rfl rfl (v_load rfl (st.reads (v := .string (strB a.bind.name)) 0 rfl TF.t9 rfl)), obl_ld rfl rfl rfl (v_to (v' := .bool true) (v_load rfl (st.reads (v := .bool a.there) 2 rfl TF.t4 (aw_t hok))) (by rw [hT])), trivial⟩ rfl ?_
    refine wl_val (v_assign' (by conv => (lhs; whnf))) rfl ?_
    refine wl_nil ⟨rfl, ?_⟩
    refine fl_nil (by kernel_rfl) trivial ?_
    refine then_go ?_
    refine wc_ret ?_
    refine ret1 rfl ((st.keepOnly (l := []) (List.nil_sublist _)).out ?_)
    rw [show decide (bindP name a value) = false from decide_eq_false (fun hc => by first | exact hN hc.2.1 | exact hS hc.2.2.1 | exact hC hc.2.2.2.1 | (have := hc.1; rw [this] at hT; cases hT))]; rfl
  ·refine wc_draw TF.mixed ?_
   have st := st.pure (touch_drew _)
   refine fl_val 0 rfl (fun _ => (v_fa TF.f45_3 rfl)) rfl (by kernel_rfl) ?_
   refine fl_ld 1 rfl (v_to (v' := .bool true) (v_load rfl (st.reads (v := .bool a.there) 2 rfl TF.t4 (aw_t hok))) (by rw [hT])) (by kernel_rfl) ?_
   refine fl_val 2 rfl (fun _ => (v_move' (by conv => (lhs; whnf)))) rfl (by kernel_rfl) ?_
   refine fl_on 3 rfl rfl rfl rfl (fun _ => (v_fa TF.f43_0 rfl)) rfl (by kernel_rfl) ?_
   refine fl_ond 4 rfl rfl rfl rfl (v_load rfl (st.reads (v := .string (strB a.bind.name)) 0 rfl TF.t9 rfl)) rfl (by kernel_rfl) ?_
   refine fl_on 5 rfl rfl rfl rfl (fun _ => (v_move' (by conv => (lhs; whnf)))) rfl (by kernel_rfl) ?_
   refine fl_on 6 rfl rfl rfl rfl (fun _ => (v_to (v' := .bool false) (v_eqs rfl rfl) (by rw [decide_eq_false hN]))) rfl (by kernel_rfl) ?_
   refine fl_val 7 rfl (fun _ => (v_pick rfl)) rfl (by kernel_rfl) ?_
   refine fl_val 8 rfl (fun _ => (v_move' (by conv => (lhs; whnf)))) rfl (by kernel_rfl) ?_
   refine fl_off 9 rfl rfl rfl rfl rfl rfl (by kernel_rfl) ?_
   refine fl_offd 10 rfl rfl rfl rfl rfl rfl (by kernel_rfl) ?_
   refine fl_off 11 rfl rfl rfl rfl rfl rfl (by kernel_rfl) ?_
   refine fl_val 12 rfl (fun _ => (v_pick rfl)) rfl (by kernel_rfl) ?_
   refine fl_val 13 rfl (fun _ => (v_move' (by conv => (lhs; whnf)))) rfl (by kernel_rfl) ?_
   refine fl_offd 14 rfl rfl rfl rfl rfl rfl (by kernel_rfl) ?_
   refine fl_eff1 15 [12, 11, 9, 8, 7, 6, 5, 3, 2, 0] [10, 4, 1] (by kernel_rfl) ⟨obl_off rfl rfl rfl rfl rfl rfl, obl_off rfl rfl rfl rfl rfl rfl, obl_on rfl rfl rfl rfl rfl (v_load rfl (st.reads (v := .string (strB a.bind.name)) 0 rfl TF.t9 rfl)), obl_ld rfl rfl rfl (v_to (v' := .bool true) (v_load rfl (st.reads (v := .bool a.there) 2 rfl TF.t4 (aw_t hok))) (by rw [hT])), trivial⟩ rfl ?_
   refine wl_off rfl rfl rfl rfl ?_
   refine wl_nil ⟨rfl, ?_⟩
   refine fl_off 16 rfl rfl rfl rfl rfl rfl (by kernel_rfl) ?_
   refine fl_val 17 rfl (fun _ => (v_pick rfl)) rfl (by kernel_rfl) ?_
   refine fl_val 18 rfl (fun _ => (v_move' (by conv => (lhs; whnf)))) rfl (by kernel_rfl) ?_
   refine fl_off 19 rfl rfl rfl rfl rfl rfl (by kernel_rfl) ?_
   refine fl_offd 20 rfl rfl rfl rfl rfl rfl (by kernel_rfl) ?_
   refine fl_offd 21 rfl rfl rfl rfl rfl rfl (by kernel_rfl) ?_
   refine fl_offd 24 rfl rfl rfl rfl rfl rfl (by kernel_rfl) ?_
   refine fl_eff1 22 [19, 17, 16, 12, 11, 9, 8, 7, 6, 5, 3, 2, 0] [24, 10, 4, 1] (by kernel_rfl) ⟨obl_off rfl rfl rfl rfl rfl rfl, obl_off rfl rfl rfl rfl rfl rfl, obl_off rfl rfl rfl rfl rfl rfl, obl_off rfl rfl rfl rfl rfl rfl, obl_on rfl rfl rfl rfl rfl (v_load rfl (st.reads (v := .string (strB a.bind.name)) 0 rfl TF.t9 rfl)), obl_ld rfl rfl rfl (v_to (v' := .bool true) (v_load rfl (st.reads (v := .bool a.there) 2 rfl TF.t4 (aw_t hok))) (by rw [hT])), trivial⟩ rfl ?_
   refine wl_off rfl rfl rfl rfl ?_
   refine wl_nil ⟨rfl, ?_⟩
   refine fl_eff1 23 [19, 17, 16, 12, 11, 9, 8, 7, 6, 5, 3, 2, 0] [24, 10, 4, 1] (by kernel_rfl) ⟨obl_off rfl rfl rfl rfl rfl rfl, obl_off rfl rfl rfl rfl rfl rfl, obl_on rfl rfl rfl rfl rfl (v_load rfl (st.reads (v := .string (strB a.bind.name)) 0 rfl TF.t9 rfl)), obl_ld rfl rfl rfl (v_to (v' := .bool true) (v_load rfl (st.reads (v := .bool a.there) 2 rfl TF.t4 (aw_t hok))) (by rw [hT])), trivial⟩ rfl ?_
   refine wl_off rfl rfl rfl rfl ?_
   refine wl_nil ⟨rfl, ?_⟩
   refine fl_off 25 rfl rfl rfl rfl rfl rfl (by kernel_rfl) ?_
   refine fl_val 26 rfl (fun _ => (v_pick rfl)) rfl (by kernel_rfl) ?_
   refine fl_eff1 27 [] [] (by kernel_rfl) ⟨obl_off rfl rfl rfl rfl rfl rfl, obl_off rfl rfl rfl rfl rfl rfl, obl_on rfl rfl rfl rfl rfl (v_load rfl (st.reads (v := .string (strB a.bind.name)) 0 rfl TF.t9 rfl)), obl_ld rfl rfl rfl (v_to (v' := .bool true) (v_load rfl (st.reads (v := .bool a.there) 2 rfl TF.t4 (aw_t hok))) (by rw [hT])), trivial⟩ rfl ?_
   refine wl_val (v_assign' (by conv => (lhs; whnf))) rfl ?_
   refine wl_nil ⟨rfl, ?_⟩
   refine fl_nil (by kernel_rfl) trivial ?_
   refine then_go ?_
   refine wc_ret ?_
   refine ret1 rfl ((st.keepOnly (l := []) (List.nil_sublist _)).out ?_)
   rw [show decide (bindP name a value) = false from decide_eq_false (fun hc => by first | exact hN hc.2.1 | exact hS hc.2.2.1 | exact hC hc.2.2.2.1 | (have := hc.1; rw [this] at hT; cases hT))]; rfl
 ·refine wc_draw TF.mixed ?_
  have st := st.pure (touch_drew _)
  refine fl_val 0 rfl (fun _ => (v_fa TF.f45_3 rfl)) rfl (by kernel_rfl) ?_
  refine fl_ld 1 rfl (v_to (v' := .bool false) (v_load rfl (st.reads (v := .bool a.there) 2 rfl TF.t4 (aw_t hok))) (by rw [hT])) (by kernel_rfl) ?_
  refine fl_val 2 rfl (fun _ => (v_move' (by conv => (lhs; whnf)))) rfl (by kernel_rfl) ?_
  refine fl_off 3 rfl rfl rfl rfl rfl rfl (by kernel_rfl) ?_
  refine fl_offd 4 rfl rfl rfl rfl rfl rfl (by kernel_rfl) ?_
  refine fl_off 5 rfl rfl rfl rfl rfl rfl (by kernel_rfl) ?_
  refine fl_off 6 rfl rfl rfl rfl rfl rfl (by kernel_rfl) ?_
  refine fl_val 7 rfl (fun _ => (v_pick rfl)) rfl (by kernel_rfl) ?_
  refine fl_val 8 rfl (fun _ => (v_move' (by conv => (lhs; whnf)))) rfl (by kernel_rfl) ?_
  refine fl_off 9 rfl rfl rfl rfl rfl rfl (by kernel_rfl) ?_
  refine fl_offd 10 rfl rfl rfl rfl rfl rfl (by kernel_rfl) ?_
  refine fl_off 11 rfl rfl rfl rfl rfl rfl (by kernel_rfl) ?_
  refine fl_val 12 rfl (fun _ => (v_pick rfl)) rfl (by kernel_rfl) ?_
  refine fl_val 13 rfl (fun _ => (v_move' (by conv => (lhs; whnf)))) rfl (by kernel_rfl) ?_
  refine fl_offd 14 rfl rfl rfl rfl rfl rfl (by kernel_rfl) ?_
  refine fl_eff1 15 [12, 11, 9, 8, 7, 6, 5, 3, 2, 0] [10, 4, 1] (by kernel_rfl) ⟨obl_off rfl rfl rfl rfl rfl rfl, obl_off rfl rfl rfl rfl rfl rfl, obl_off rfl rfl rfl rfl rfl rfl, obl_ld rfl rfl rfl (v_to (v' := .bool false) (v_load rfl (st.reads (v := .bool a.there) 2 rfl TF.t4 (aw_t hok))) (by rw [hT])), trivial⟩ rfl ?_
  refine wl_off rfl rfl rfl rfl ?_
  refine wl_nil ⟨rfl, ?_⟩
  refine fl_off 16 rfl rfl rfl rfl rfl rfl (by kernel_rfl) ?_
  refine fl_val 17 rfl (fun _ => (v_pick rfl)) rfl (by kernel_rfl) ?_
  refine fl_val 18 rfl (fun _ => (v_move' (by conv => (lhs; whnf)))) rfl (by kernel_rfl) ?_
  refine fl_off 19 rfl rfl rfl rfl rfl rfl (by kernel_rfl) ?_
  refine fl_offd 20 rfl rfl rfl rfl rfl rfl (by kernel_rfl) ?_
  refine fl_offd 21 rfl rfl rfl rfl rfl rfl (by kernel_rfl) ?_
  refine fl_offd 24 rfl rfl rfl rfl rfl rfl (by kernel_rfl) ?_
  refine fl_eff1 22 [19, 17, 16, 12, 11, 9, 8, 7, 6, 5, 3, 2, 0] [24, 10, 4, 1] (by kernel_rfl) ⟨obl_off rfl rfl rfl rfl rfl rfl, obl_off rfl rfl rfl rfl rfl rfl, obl_off rfl rfl rfl rfl rfl rfl, obl_off rfl rfl rfl rfl rfl rfl, obl_off rfl rfl rfl rfl rfl rfl, obl_ld rfl rfl rfl (v_to (v' := .bool false) (v_load rfl (st.reads (v := .bool a.there) 2 rfl TF.t4 (aw_t hok))) (by rw [hT])), trivial⟩ rfl ?_
  refine wl_off rfl rfl rfl rfl ?_
  refine wl_nil ⟨rfl, ?_⟩
  refine fl_eff1 23 [19, 17, 16, 12, 11, 9, 8, 7, 6, 5, 3, 2, 0] [24, 10, 4, 1] (by kernel_rfl) ⟨obl_off rfl rfl rfl rfl rfl rfl, obl_off rfl rfl rfl rfl rfl rfl, obl_off rfl rfl rfl rfl rfl rfl, obl_ld rfl rfl rfl (v_to (v' := .bool false) (v_load rfl (st.reads (v := .bool a.there) 2 rfl TF.t4 (aw_t hok))) (by rw [hT])), trivial⟩ rfl ?_
  refine wl_off rfl rfl rfl rfl ?_
  refine wl_nil ⟨rfl, ?_⟩
  refine fl_off 25 rfl rfl rfl rfl rfl rfl (by kernel_rfl) ?_
  refine fl_val 26 rfl (fun _ => (v_pick rfl)) rfl (by kernel_rfl) ?_
  refine fl_eff1 27 [] [] (by kernel_rfl) ⟨obl_off rfl rfl rfl rfl rfl rfl, obl_off rfl rfl rfl rfl rfl rfl, obl_off rfl rfl rfl rfl rfl rfl, obl_ld rfl rfl rfl (v_to (v' := .bool false) (v_load rfl (st.reads (v := .bool a.there) 2 rfl TF.t4 (aw_t hok))) (by rw [hT])), trivial⟩ rfl ?_
  refine wl_val (v_assign' (by conv => (lhs; whnf))) rfl ?_
  refine wl_nil ⟨rfl, ?_⟩
  refine fl_nil (by kernel_rfl) trivial ?_
  refine then_go ?_
  refine wc_ret ?_
  refine ret1 rfl ((st.keepOnly (l := []) (List.nil_sublist _)).out ?_)
  rw [show decide (bindP name a value) = false from decide_eq_false (fun hc => by first | exact hN hc.2.1 | exact hS hc.2.2.1 | exact hC hc.2.2.2.1 | (have := hc.1; rw [this] at hT; cases hT))]; rfl
end
end Go.Proofs.Ytjjpakjgppmmdaa

namespace Go.Proofs.Ytjjpakjgppmmdaa
open Go Go.RowKit K SH PT
structure Fd where
 epoch : UInt64
 there : Bool
 bind : Bd
 deriving DecidableEq
def bd0 : Bd := ⟨[], [], 0⟩
def fd0 : Fd := ⟨0, false, bd0⟩
def fdC (f : Fd) (kv : Value) : List Value := [u64 f.epoch, .bool f.there, .string (strB f.bind.name), kv, u64 f.bind.serial]
def FdM (m : Mem) (v : Value) (f : Fd) : Prop := ∃ kv, v = .agg (fdC f kv).toArray ∧ SlM m kv 1 f.bind.key.length (bs f.bind.key) ∧ f.bind.name.length ≤ 9223372036854775807
theorem FdM.mono {m m' : Mem} {v : Value} {f : Fd} (h : FdM m v f) (hm : ∀ k o, m k = some o → m' k = some o) : FdM m' v f := by
 obtain ⟨kv, h1, h2, h3⟩ := h
 exact ⟨kv, h1, h2.mono hm, h3⟩
theorem fd0_M {m : Mem} : FdM m (.agg (fdC fd0 (.slice none 0 0)).toArray) fd0 := ⟨_, rfl, SlM.nil, by decide⟩
def rootAt (x : Vw) (e : UInt64) : By := match x.roots[e.toNat - 1]? with
 | some t => t.tree
 | none => []
def epochP (x : Vw) (e : UInt64) : Prop := 1 ≤ e.toNat ∧ e.toNat ≤ x.roots.length
instance {x : Vw} {e : UInt64} : Decidable (epochP x e) := by unfold epochP; infer_instance
def shownP (name : By) (a : Aw) (value : By) (th : Bool) : Prop := if th = true then bindP name a value else zeroP a
instance {name : By} {a : Aw} {value : By} {th : Bool} : Decidable (shownP name a value th) := by unfold shownP; infer_instance
def askOk (x : Vw) (name : By) (e : UInt64) (a : Aw) : Prop := a.epoch = e ∧ provesP (rootAt x e) a.index a.proof ∧ shownP name a (chkV (rootAt x e) a.index a.proof) (decide (chkT (rootAt x e) a.index a.proof))
instance {x : Vw} {name : By} {e : UInt64} {a : Aw} : Decidable (askOk x name e a) := by unfold askOk; infer_instance
def askE (x : Vw) (name : By) (e : UInt64) (a : Aw) : Int := if ¬ okName name then 4 else if ¬ epochP x e then 10 else if askOk x name e a then 0 else 15
def askF (x : Vw) (name : By) (e : UInt64) (a : Aw) : Fd := if okName name ∧ epochP x e ∧ askOk x name e a then ⟨e, decide (chkT (rootAt x e) a.index a.proof), a.bind⟩ else fd0
section
variable {x : Vw} {name : By} {e : UInt64} {a : Aw}
theorem ask_4 (h : ¬ okName name) : askE x name e a = 4 ∧ askF x name e a = fd0 := ⟨by rw [askE, if_pos h], by rw [askF, if_neg (fun hc => h hc.1)]⟩
theorem ask_10 (h : okName name) (h2 : ¬ epochP x e) : askE x name e a = 10 ∧ askF x name e a = fd0 := ⟨by rw [askE, if_neg (not_not_intro h), if_pos h2], by rw [askF, if_neg (fun hc => h2 hc.2.1)]⟩
theorem ask_15 (h : okName name) (h2 : epochP x e) (h3 : ¬ askOk x name e a) : askE x name e a = 15 ∧ askF x name e a = fd0 := ⟨by rw [askE, if_neg (not_not_intro h), if_neg (not_not_intro h2), if_neg h3], by rw [askF, if_neg (fun hc => h3 hc.2.2)]⟩
theorem ask_0 (h : okName name) (h2 : epochP x e) (h3 : askOk x name e a) : askE x name e a = 0 ∧ askF x name e a = ⟨e, decide (chkT (rootAt x e) a.index a.proof), a.bind⟩ := ⟨by rw [askE, if_neg (not_not_intro h), if_neg (not_not_intro h2), if_pos h3], by rw [askF, if_pos ⟨h, h2, h3⟩]⟩
end
theorem checkE_name {n : By} : checkE n [0] = if okName n then 0 else 4 := by
 unfold checkE
 by_cases h : okName n
 ·rw [if_neg (not_not_intro h), if_neg (by simp), if_pos h]
 ·rw [if_pos h, if_neg h]
theorem fill_bd {n : By} {kv : Value} (hk : kv.oneCell' = true) : FillR (#[(0, 1), (1, 1), (2, 1)][·]?) (Value.agg ([Value.string ⟨#[]⟩] ++ [Value.slice none 0 0] ++ [Value.int .u64 0]).toArray).cells [(0, .string (strB n)), (1, kv)] (bdC ⟨n, [0], 0⟩ kv).toArray :=
 ⟨0, 1, rfl, rfl, Nat.le_of_ble_eq_true rfl, 1, 1, rfl, by rw [cells_one hk]; rfl, Nat.le_of_ble_eq_true rfl, by rw [cells_one hk]; rfl⟩
theorem fill_fd {e : UInt64} {th : Bool} {b : Bd} {kv : Value} : FillR (#[(0, 1), (1, 1), (2, 3)][·]?) (Value.agg ([Value.int .u64 0] ++ [Value.bool false] ++ ([Value.string ⟨#[]⟩] ++ [Value.slice none 0 0] ++ [Value.int .u64 0])).toArray).cells [(0, u64 e), (1, .bool th), (2, .agg (bdC b kv).toArray)] (fdC ⟨e, th, b⟩ kv).toArray :=
 ⟨0, 1, rfl, rfl, Nat.le_of_ble_eq_true rfl, 1, 1, rfl, rfl, Nat.le_of_ble_eq_true rfl, 2, 3, rfl, rfl, Nat.le_of_ble_eq_true rfl, rfl⟩
theorem fill_fd1 {e : UInt64} : FillR (#[(0, 1), (1, 1), (2, 3)][·]?) (Value.agg ([Value.int .u64 0] ++ [Value.bool false] ++ ([Value.string ⟨#[]⟩] ++ [Value.slice none 0 0] ++ [Value.int .u64 0])).toArray).cells [(0, u64 e)] (fdC ⟨e, false, bd0⟩ (.slice none 0 0)).toArray :=
 ⟨0, 1, rfl, rfl, Nat.le_of_ble_eq_true rfl, rfl⟩
theorem one_fdC {f : Fd} {kv : Value} (hk : kv.oneCell' = true) : ∀ u ∈ (fdC f kv).toArray.toList, u.oneCell' = true := by
 intro u hu
 simp [fdC] at hu
 rcases hu with rfl | rfl | rfl | rfl | rfl <;> first | rfl | exact hk
theorem chkV_len {root idx : By} {p : Prf} (h : p.V.length = 32) : (chkV root idx p).length = 32 := by
 unfold chkV
 split
 ·exact h
 ·rfl
section
variable {m : Mem} {wI : World}
theorem c_shown {v : Value} {name value : By} {a : Aw} {th : Bool} (him : Im m wI) (hv : value.length = 32) (ha : AwM m v a) :
  Ret Try.prog 50 #[.string (strB name), v, arr value, .bool th] wI fun v' w' => Out m wI w' fun _ => v' = .bool (decide (shownP name a value th)) := by
 cases th with
 | true => exact c_shownT him hv ha
 | false => exact c_shownF him hv ha
theorem c_bclone {v : Value} {l : By} (him : Im m wI) (hv : SlM m v 1 l.length (bs l)) (hL : l.length ≤ 1099511627776) :
  Ret Try.prog 51 #[v] wI fun v' w' => Out m wI w' fun m' => SlM m' v' 1 l.length (bs l) := by
 have st := St.start him
 obtain ⟨_, a, cap, rfl, _⟩ := id hv
 refine ret_of Try.call51 Try.func51 rfl Try.ntmps51 Try.results51 rfl ?_
 refine wc_seq ?_
 refine wc_region ?_
 refine wl_val (v_assign' (by conv => (lhs; whnf))) rfl ?_
 refine wl_nil ?_
 refine then_go ?_
 refine wc_seq ?_
 refine wc_seq ?_
 refine wc_region ?_
 refine wl_val (v_move' (by conv => (lhs; whnf))) rfl ?_
 refine wl_val (v_eq_nilS Try.underlying41 rfl rfl) rfl ?_
 refine wl_nil ?_
 refine then_go ?_
 refine wc_cond rfl (fun h4 => ?_) (fun h4 => ?_)
 ·refine wc_seq ?_
  refine wc_region ?_
  refine wl_val (v_assign' (by conv => (lhs; whnf))) rfl ?_
  refine wl_nil ?_
  refine then_go ?_
  refine wc_ret (then_ret ?_)
  have hL0 : l = [] := by
   obtain ⟨_, a', c', he, hk, hn, _⟩ := hv
   cases he
   have := hn (by simpa using h4)
   exact List.eq_nil_of_length_eq_zero (by omega)
  subst hL0
  exact ret1 rfl (st.out SlM.nil)
 ·refine wc_skip ?_
  refine then_go ?_
  refine wc_seq ?_
  refine wc_region ?_
  refine wl_buildSlice0 (size := 1) Try.underlying41 TF.t5 st rfl ?_
  intro v5 w st
  have st : St m m [] wI w [rowE v5 5 1 ([] : By).length (bs [])] := st
  refine wl_val (v_move' (by conv => (lhs; whnf))) rfl ?_
  refine wl_appB (l2 := l) st Try.underlying41 Try.underlying41 (.inr ⟨_, rfl⟩) TF.t5 TF.z5 rfl rfl (hv.src st.im (one_bs _)) (by simp; omega) (by simp; omega) rfl ?_
  intro v7 w st hv7
  refine wl_val (v_assign' (by conv => (lhs; whnf))) rfl ?_
  refine wl_nil ?_
  refine then_go ?_
  refine wc_ret ?_
  exact ret1 rfl st.bytesOut
theorem c_rzero {v : Value} {b : Bd} (him : Im m wI) (hb : BdM m v b) : Ret Try.prog 54 #[v] wI fun v' w' => Tch wI w' [] [] ∧ v' = .bool (decide (b.name = [] ∧ b.key.length = 0 ∧ b.serial = 0)) := by
  have st := St.start him
  obtain ⟨kv, rfl, hkey, hnl⟩ := hb
  obtain ⟨_, ka, kc, rfl, _⟩ := id hkey
  refine ret_of Try.call54 Try.func54 rfl Try.ntmps54 Try.results54 rfl ?_
  refine wc_seq ?_
  refine wc_region ?_
  refine wl_box (v := .agg (bdC b (.slice ka b.key.length kc)).toArray) rfl st rfl ?_
  intro b1 w st
  refine wl_val (v_assign' (by conv => (lhs; whnf))) rfl ?_
  refine wl_nil ?_
  refine then_go ?_
  refine wc_seq ?_
  refine wc_region ?_
  refine wl_val (v_fa TF.f43_0 rfl) rfl ?_
  refine wl_val (v_load rfl (st.reads (v := .string (strB b.name)) 0 rfl TF.t9 rfl)) rfl ?_
  refine wl_val (v_eqs (b := []) rfl rfl) rfl ?_
  refine wl_val (v_move' (by conv => (lhs; whnf))) rfl ?_
  by_cases hg3 : b.name = []
  · rw [show decide (b.name = []) = true from decide_eq_true hg3]
    refine wl_on rfl rfl ?_
    refine wl_val (v_fa TF.f43_1 rfl) rfl ?_
    refine wl_on rfl rfl ?_
    refine wl_val (v_load rfl (st.reads (v := .slice ka b.key.length kc) 0 rfl TF.t41 rfl)) rfl ?_
    refine wl_on rfl rfl ?_
    refine wl_val (v_len_s Try.underlying41 rfl) rfl ?_
    refine wl_on rfl rfl ?_
    refine wl_val (v_to (v' := .bool (decide ((b.key.length : Int) = 0))) (v_eql rfl rfl) rfl) rfl ?_
    refine wl_val (v_pick rfl) rfl ?_
    refine wl_val (v_move' (by conv => (lhs; whnf))) rfl ?_
    by_cases hg9 : (b.key.length : Int) = 0
    · rw [show decide ((b.key.length : Int) = 0) = true from decide_eq_true hg9]
      refine wl_on rfl rfl ?_
      refine wl_val (v_fa TF.f43_2 rfl) rfl ?_
      refine wl_on rfl rfl ?_
      refine wl_val (v_load rfl (st.reads (v := u64 b.serial) 0 rfl TF.t24 rfl)) rfl ?_
      refine wl_on rfl rfl ?_
      refine wl_val (v_eql rfl rfl) rfl ?_
      refine wl_val (v_pick rfl) rfl ?_
      refine wl_val (v_assign' (by conv => (lhs; whnf))) rfl ?_
      refine wl_nil ?_
      refine then_go ?_
      refine wc_ret ?_
      refine ret1 rfl ⟨(st.keepOnly (l := []) (List.nil_sublist _)).touch, ?_⟩
      first
        | (have e : decide (b.name = [] ∧ b.key.length = 0 ∧ b.serial = 0) = decide ((b.serial.toNat : Int) = 0) := decide_eq_decide.2 ⟨fun h => by rw [h.2.2]; rfl, fun h => ⟨hg3, by omega, UInt64.toNat_inj.1 (by rw [show (0 : UInt64).toNat = 0 from rfl]; omega)⟩⟩
           rw [e]; rfl)
        | (rw [decide_eq_false (fun hc => by first | exact hg3 hc.1 | exact hg9 (by have := hc.2.1; omega))]; rfl)
    · rw [show decide ((b.key.length : Int) = 0) = false from decide_eq_false hg9]
      refine wl_off rfl rfl rfl rfl ?_
      refine wl_off rfl rfl rfl rfl ?_
      refine wl_off rfl rfl rfl rfl ?_
      refine wl_val (v_pick rfl) rfl ?_
      refine wl_val (v_assign' (by conv => (lhs; whnf))) rfl ?_
      refine wl_nil ?_
      refine then_go ?_
      refine wc_ret ?_
      refine ret1 rfl ⟨(st.keepOnly (l := []) (List.nil_sublist _)).touch, ?_⟩
      first
        | (have e : decide (b.name = [] ∧ b.key.length = 0 ∧ b.serial = 0) = decide ((b.serial.toNat : Int) = 0) := decide_eq_decide.2 ⟨fun h => by rw [h.2.2]; rfl, fun h => ⟨hg3, by omega, UInt64.toNat_inj.1 (by rw [show (0 : UInt64).toNat = 0 from rfl]; omega)⟩⟩
           rw [e]; rfl)
        | (rw [decide_eq_false (fun hc => by first | exact hg3 hc.1 | exact hg9 (by have := hc.2.1; omega))]; rfl)
  · rw [show decide (b.name = []) = false from decide_eq_false hg3]
    refine wl_off rfl rfl rfl rfl ?_
    refine wl_off rfl rfl rfl rfl ?_
    refine wl_off rfl rfl rfl rfl ?_
    refine wl_off rfl rfl rfl rfl ?_
    refine wl_val (v_pick rfl) rfl ?_
    refine wl_val (v_move' (by conv => (lhs; whnf))) rfl ?_
    refine wl_off rfl rfl rfl rfl ?_
    refine wl_off rfl rfl rfl rfl ?_
    refine wl_off rfl rfl rfl rfl ?_
    refine wl_val (v_pick rfl) rfl ?_
    refine wl_val (v_assign' (by conv => (lhs; whnf))) rfl ?_
    refine wl_nil ?_
    refine then_go ?_
    refine wc_ret ?_
    refine ret1 rfl ⟨(st.keepOnly (l := []) (List.nil_sublist _)).touch, ?_⟩
    first
      | (have e : decide (b.name = [] ∧ b.key.length = 0 ∧ b.serial = 0) = decide ((b.serial.toNat : Int) = 0) := decide_eq_decide.2 ⟨fun h => by rw [h.2.2]; rfl, fun h => ⟨hg3, by omega, UInt64.toNat_inj.1 (by rw [show (0 : UInt64).toNat = 0 from rfl]; omega)⟩⟩
         rw [e]; rfl)
      | (rw [decide_eq_false (fun hc => by first | exact hg3 hc.1 | exact hg9 (by have := hc.2.1; omega))]; rfl)
theorem c_ask {vv av : Value} {x : Vw} {name : By} {e : UInt64} {a : Aw} (him : Im m wI) (hv : VwM m vv x) (hn : name.length ≤ 9223372036854775807) (ha : AwM m av a) (hL : x.roots.length ≤ 1099511627776) (hk : a.bind.key.length ≤ 1099511627776) :
  Ret Try.prog 20 #[vv, .string (strB name), u64 e, av] wI fun v' w' => Out m wI w' fun m' => ∃ fv, v' = .tuple #[fv, .int .i64 (askE x name e a)] ∧ FdM m' fv (askF x name e a) := by
 have st := St.start him
 have ha0 := ha
 obtain ⟨rv, rfl, hrt, hp, hh, hokx⟩ := hv
 obtain ⟨sv, kv, rfl, hok⟩ := ha
 obtain ⟨ra, rc, rfl⟩ := hrt.sl
 have elt := e.toNat_lt
 refine ret_of Try.call20 Try.func20 rfl Try.ntmps20 Try.results20 rfl ?_
 refine wc_seq ?_
 refine wc_region ?_
 refine wl_box (v := .agg (vwC x.pin x.head (.slice ra x.roots.length rc)).toArray) rfl st rfl ?_
 intro b4 w st
 refine wl_box (v := .agg (awC a sv kv).toArray) rfl st rfl ?_
 intro b7 w st
 refine wl_alloc TF.z48 st rfl ?_
 intro b8 w st
 have st : St m m [] wI w [K.blk b8 (fdC fd0 (.slice none 0 0)).toArray 48, K.blk b7 (awC a sv kv).toArray 45, K.blk b4 (vwC x.pin x.head (.slice ra x.roots.length rc)).toArray 29] := st
 refine wl_val (v_assign' (by conv => (lhs; whnf))) rfl ?_
 refine wl_nil ?_
 refine then_go ?_
 refine wc_seq ?_
 refine wc_block ?_
 refine wc_seq ?_
 refine wc_region ?_
 refine wl_val (v_move' (by conv => (lhs; whnf))) rfl ?_
 refine wl_byte1 0 Try.underlying41 TF.t5 TF.z5 rfl st rfl ?_
 intro b16 w st
 obtain ⟨m1, hg1, hm1, st⟩ := st.freeze (i := 0) rfl (by simp)
 change St _ _ _ _ _ [_, _, _] at st
 have hs1 : SlM m1 (.slice (some ⟨b16, 0, none⟩) 1 1) 1 ([0] : By).length (bs [0]) := SlM.ofBlock (pre := []) (post := []) hm1 (by simp) rfl (Nat.le_refl _)
 have hrt := hrt.mono hg1.le
 have hok := hok.mono hg1.le
 have ha0 := ha0.mono hg1.le
 refine wl_val (v_build (c' := (bdC ⟨name, [0], 0⟩ (.slice (some ⟨b16, 0, none⟩) 1 1)).toArray) [(0, .string (strB name)), (1, .slice (some ⟨b16, 0, none⟩) 1 1)] TF.z43 TF.p43 rfl (fill_bd rfl)) rfl ?_
 refine wl_call rfl (c_reccheck (b := ⟨name, [0], 0⟩) st.im ⟨_, rfl, hs1, hn⟩) rfl ?_
 rintro v18 w ⟨t18, rfl⟩
 have st := st.pure t18
 refine wl_val (v_neq rfl rfl) rfl ?_
 refine wl_val (v_assign' (by conv => (lhs; whnf))) rfl ?_
 refine wl_nil ?_
 refine then_go ?_
 refine wc_if rfl (fun h14 => ?_) (fun h14 => ?_)
 ·refine wc_seq ?_
  refine wc_region ?_
  refine wl_val (v_build (c' := (fdC fd0 (.slice none 0 0)).toArray) [] TF.z48 TF.p48 rfl rfl) rfl ?_
  refine wl_storeW (cs := (fdC fd0 (.slice none 0 0)).toArray) 0 st rfl TF.t48 rfl rfl rfl rfl (one_fdC rfl) ?_
  intro w st
  refine wl_val (v_assign' (by conv => (lhs; whnf))) rfl ?_
  refine wl_nil ?_
  refine then_go ?_
  refine wc_ret (block_ret (then_ret ?_))
  have hno : ¬ okName name := by intro hc; rw [checkE_name, if_pos hc] at h14; exact h14 rfl
  obtain ⟨q1, q2⟩ := ask_4 (x := x) (e := e) (a := a) hno
  exact ret2c rfl (st.reads 0 rfl TF.t48 (getV_all rfl)) rfl ((st.keepOnly (l := []) (List.nil_sublist _)).out ⟨_, by rw [q1]; rfl, by rw [q2]; exact fd0_M⟩)
 ·refine wc_seq ?_
  have hyes : okName name := by
   refine Decidable.byContradiction fun hc => h14 ?_
   rw [checkE_name, if_neg hc]
   decide
  refine wc_region ?_
  refine wl_val (v_move' (by conv => (lhs; whnf))) rfl ?_
  refine wl_val (v_lss rfl rfl) rfl ?_
  refine wl_val (v_move' (by conv => (lhs; whnf))) rfl ?_
  by_cases hg2 : (e.toNat : Int) < 1
  ·rw [show decide ((e.toNat : Int) < 1) = true from decide_eq_true hg2]
   refine wl_off rfl rfl rfl rfl ?_
   refine wl_off rfl rfl rfl rfl ?_
   refine wl_off rfl rfl rfl rfl ?_
   refine wl_off rfl rfl rfl rfl ?_
   refine wl_off rfl rfl rfl rfl ?_
   refine wl_off rfl rfl rfl rfl ?_
   refine wl_val (v_pick rfl) rfl ?_
   refine wl_val (v_assign' (by conv => (lhs; whnf))) rfl ?_
   refine wl_nil ?_
   refine then_go ?_
   refine wc_true rfl ?_
   refine wc_seq ?_
   refine wc_region ?_
   refine wl_val (v_build (c' := (fdC fd0 (.slice none 0 0)).toArray) [] TF.z48 TF.p48 rfl rfl) rfl ?_
   refine wl_storeW (cs := (fdC fd0 (.slice none 0 0)).toArray) 0 st rfl TF.t48 rfl rfl rfl rfl (one_fdC rfl) ?_
   intro w st
   refine wl_val (v_assign' (by conv => (lhs; whnf))) rfl ?_
   refine wl_nil ?_
   refine then_go ?_
   refine wc_ret (block_ret (then_ret ?_))
   obtain ⟨q1, q2⟩ := ask_10 (x := x) (e := e) (a := a) hyes (fun hc => by have := hc.1; omega)
   exact ret2c rfl (st.reads 0 rfl TF.t48 (getV_all rfl)) rfl ((st.keepOnly (l := []) (List.nil_sublist _)).out ⟨_, by rw [q1]; rfl, by rw [q2]; exact fd0_M⟩)
  ·rw [show decide ((e.toNat : Int) < 1) = false from decide_eq_false hg2]
   refine wl_on rfl rfl ?_
   refine wl_val (v_move' (by conv => (lhs; whnf))) rfl ?_
   refine wl_on rfl rfl ?_
   refine wl_val (v_fa TF.f29_2 rfl) rfl ?_
   refine wl_on rfl rfl ?_
   refine wl_val (v_load rfl (st.reads (v := .slice ra x.roots.length rc) 2 rfl TF.t27 (vw_r hp hh))) rfl ?_
   refine wl_on rfl rfl ?_
   refine wl_val (v_len_s Try.underlying27 rfl) rfl ?_
   refine wl_on rfl rfl ?_
   refine wl_val (v_to (v' := .int .u64 (x.roots.length : Nat)) (v_conv Try.underlying3 Try.underlying24 rfl) (by rw [wrap_u64_small (by omega)])) rfl ?_
   refine wl_on rfl rfl ?_
   refine wl_val (v_gtr rfl rfl) rfl ?_
   refine wl_val (v_pick rfl) rfl ?_
   refine wl_val (v_assign' (by conv => (lhs; whnf))) rfl ?_
   refine wl_nil ?_
   refine then_go ?_
   refine wc_if rfl (fun h21 => ?_) (fun h21 => ?_)
   ·refine wc_seq ?_
    refine wc_region ?_
    refine wl_val (v_build (c' := (fdC fd0 (.slice none 0 0)).toArray) [] TF.z48 TF.p48 rfl rfl) rfl ?_
    refine wl_storeW (cs := (fdC fd0 (.slice none 0 0)).toArray) 0 st rfl TF.t48 rfl rfl rfl rfl (one_fdC rfl) ?_
    intro w st
    refine wl_val (v_assign' (by conv => (lhs; whnf))) rfl ?_
    refine wl_nil ?_
    refine then_go ?_
    refine wc_ret (block_ret (then_ret ?_))
    obtain ⟨q1, q2⟩ := ask_10 (x := x) (e := e) (a := a) hyes (fun hc => by have := hc.2; omega)
    exact ret2c rfl (st.reads 0 rfl TF.t48 (getV_all rfl)) rfl ((st.keepOnly (l := []) (List.nil_sublist _)).out ⟨_, by rw [q1]; rfl, by rw [q2]; exact fd0_M⟩)
   ·refine wc_skip ?_
    refine block_go (then_go ?_)
    refine wc_seq ?_
    have hep : epochP x e := ⟨by omega, by omega⟩
    have hj : e.toNat - 1 < x.roots.length := by have := hep.1; have := hep.2; omega
    obtain ⟨rb, ro, hra⟩ := hrt.ptr (by omega) (by decide)
    subst hra
    have hok1 := hokx _ (List.getElem_mem hj)
    have hroot : rootAt x e = x.roots[e.toNat - 1].tree := by rw [rootAt, List.getElem?_eq_getElem hj]
    have hrl : (rootAt x e).length = 32 := by rw [hroot]; exact hok1.2.1
    refine wc_draw TF.mixed ?_
    have st := st.pure (touch_drew _)
    show FL _ _ ?ops5 ?post5 [] [] [] _ _
    have fin : ∀ (r : Fr) (w : World) (m2 : Mem) (b10 : Nat), r 1 = .string (strB name) → r 2 = u64 e → r 4 = .pointer (some ⟨b4, 0, none⟩) → r 7 = .pointer (some ⟨b7, 0, none⟩) → r 8 = .pointer (some ⟨b8, 0, none⟩) → r 10 = .pointer (some ⟨b10, 0, none⟩) → r 34 = .pointer (some ⟨b4, 0 + 97, none⟩) → r 35 = .slice (some ⟨rb, ro, none⟩) x.roots.length rc → r 46 = arr (chkV (rootAt x e) a.index a.proof) → r 47 = .bool (decide (chkT (rootAt x e) a.index a.proof)) → r 48 = .int .i64 (chkE (rootAt x e) a.index a.proof) → AwOk m2 a sv kv →
     St m m2 [] wI w [K.blk b10 (bs z32).toArray 23, K.blk b8 (fdC fd0 (.slice none 0 0)).toArray 48, K.blk b7 (awC a sv kv).toArray 45, K.blk b4 (vwC x.pin x.head (.slice (some ⟨rb, ro, none⟩) x.roots.length rc)).toArray 29] → FL Try.prog 78 ?ops5 ?post5 [16, 15, 14, 13, 12, 11, 10, 9, 8, 7, 6, 5, 4, 3, 2, 1, 0] [15, 14, 13, 12, 9, 7, 5, 4, 3, 2, 0] [1] r w := by
     clear st
     rintro r w m2 b10 g1 g2 g4 g7 g8 g10 g34 g35 g46 g47 g48 hok st
     have ha0 : AwM m2 (.agg (awC a sv kv).toArray) a := ⟨_, _, rfl, hok⟩
     refine fl_o 1 g1 (fl_o 2 g2 (fl_o 4 g4 (fl_o 7 g7 (fl_o 8 g8 (fl_o 10 g10 (fl_o 34 g34 (fl_o 35 g35 (fl_o 46 g46 (fl_o 47 g47 (fl_o 48 g48 ?_))))))))))
     refine fl_eff1 17 [15, 14] [] (by kernel_rfl) ⟨obl_ld rfl rfl rfl (v_load rfl (by first | exact st.reads (v := .slice (some ⟨rb, ro, none⟩) x.roots.length rc) (b := b4) (c := (vwC x.pin x.head (.slice (some ⟨rb, ro, none⟩) x.roots.length rc)).toArray) 2 rfl TF.t27 (vw_r hp hh) | exact st.reads (v := .slice (some ⟨rb, ro, none⟩) x.roots.length rc) (b := b4) (c := (vwC x.pin x.head (.slice (some ⟨rb, ro, none⟩) x.roots.length rc)).toArray) 3 rfl TF.t27 (vw_r hp hh))), trivial⟩ rfl ?_
     refine wl_storeW (cs := (bs (chkV (rootAt x e) a.index a.proof)).toArray) 0 st rfl TF.t23 rfl rfl (by rw [List.size_toArray, length_bs, chkV_len hok.pV]) rfl (fun u hu => one_bs _ u (by simpa using hu)) ?_
     intro w st
     refine wl_nil ⟨rfl, ?_⟩
     refine fl_eff1 18 [15] [] (by kernel_rfl) trivial rfl ?_
     refine wl_val (v_assign' (by conv => (lhs; whnf))) rfl ?_
     refine wl_nil ⟨rfl, ?_⟩
     refine fl_eff1 19 [] [] (by kernel_rfl) trivial rfl ?_
     refine wl_val (v_assign' (by conv => (lhs; whnf))) rfl ?_
     refine wl_nil ⟨rfl, ?_⟩
     refine fl_nil (by kernel_rfl) trivial ?_
     refine then_go ?_
     refine wc_seq ?_
     refine wc_seq ?_
     refine wc_region ?_
     refine wl_val (v_fa TF.f45_0 rfl) rfl ?_
     refine wl_val (v_load rfl (st.reads (v := u64 a.epoch) 2 rfl TF.t24 aw_e)) rfl ?_
     refine wl_val (v_move' (by conv => (lhs; whnf))) rfl ?_
     refine wl_val (v_neq rfl rfl) rfl ?_
     refine wl_val (v_move' (by conv => (lhs; whnf))) rfl ?_
     by_cases hg4 : ¬ (a.epoch.toNat : Int) = (e.toNat : Int)
     ·rw [show decide (¬ (a.epoch.toNat : Int) = (e.toNat : Int)) = true from decide_eq_true hg4]
      refine wl_off rfl rfl rfl rfl ?_
      refine wl_off rfl rfl rfl rfl ?_
      refine wl_val (v_pick rfl) rfl ?_
      refine wl_val (v_move' (by conv => (lhs; whnf))) rfl ?_
      refine wl_off rfl rfl rfl rfl ?_
      refine wl_off rfl rfl rfl rfl ?_
      refine wl_off rfl rfl rfl rfl ?_
      refine wl_off rfl rfl rfl rfl ?_
      refine wl_off rfl rfl rfl rfl ?_
      refine wl_off rfl rfl rfl rfl ?_
      refine wl_val (v_pick rfl) rfl ?_
      refine wl_nil ?_
      refine then_go ?_
      refine wc_true rfl ?_
      refine wc_seq ?_
      refine wc_region ?_
      refine wl_val (v_build (c' := (fdC fd0 (.slice none 0 0)).toArray) [] TF.z48 TF.p48 rfl rfl) rfl ?_
      refine wl_storeW (cs := (fdC fd0 (.slice none 0 0)).toArray) 1 st rfl TF.t48 rfl rfl rfl rfl (one_fdC rfl) ?_
      intro w st
      refine wl_val (v_assign' (by conv => (lhs; whnf))) rfl ?_
      refine wl_nil ?_
      refine then_go ?_
      refine wc_ret (then_ret ?_)
      obtain ⟨q1, q2⟩ := ask_15 hyes hep (fun hc : askOk x name e a => hg4 (by rw [hc.1]))
      exact ret2c rfl (st.reads 1 rfl TF.t48 (getV_all rfl)) rfl ((st.keepOnly (l := []) (List.nil_sublist _)).out ⟨_, by rw [q1]; rfl, by rw [q2]; exact fd0_M⟩)
     ·rw [show decide (¬ (a.epoch.toNat : Int) = (e.toNat : Int)) = false from decide_eq_false hg4]
      refine wl_on rfl rfl ?_
      refine wl_val (v_move' (by conv => (lhs; whnf))) rfl ?_
      refine wl_on rfl rfl ?_
      refine wl_val (v_neq rfl rfl) rfl ?_
      refine wl_val (v_pick rfl) rfl ?_
      refine wl_val (v_move' (by conv => (lhs; whnf))) rfl ?_
      by_cases hg8 : ¬ chkE (rootAt x e) a.index a.proof = 0
      ·rw [show decide (¬ chkE (rootAt x e) a.index a.proof = 0) = true from decide_eq_true hg8]
       refine wl_off rfl rfl rfl rfl ?_
       refine wl_off rfl rfl rfl rfl ?_
       refine wl_off rfl rfl rfl rfl ?_
       refine wl_off rfl rfl rfl rfl ?_
       refine wl_off rfl rfl rfl rfl ?_
       refine wl_off rfl rfl rfl rfl ?_
       refine wl_val (v_pick rfl) rfl ?_
       refine wl_nil ?_
       refine then_go ?_
       refine wc_true rfl ?_
       refine wc_seq ?_
       refine wc_region ?_
       refine wl_val (v_build (c' := (fdC fd0 (.slice none 0 0)).toArray) [] TF.z48 TF.p48 rfl rfl) rfl ?_
       refine wl_storeW (cs := (fdC fd0 (.slice none 0 0)).toArray) 1 st rfl TF.t48 rfl rfl rfl rfl (one_fdC rfl) ?_
       intro w st
       refine wl_val (v_assign' (by conv => (lhs; whnf))) rfl ?_
       refine wl_nil ?_
       refine then_go ?_
       refine wc_ret (then_ret ?_)
       obtain ⟨q1, q2⟩ := ask_15 hyes hep (fun hc : askOk x name e a => hg8 (by rw [chkE, if_pos hc.2.1]))
       exact ret2c rfl (st.reads 1 rfl TF.t48 (getV_all rfl)) rfl ((st.keepOnly (l := []) (List.nil_sublist _)).out ⟨_, by rw [q1]; rfl, by rw [q2]; exact fd0_M⟩)
      ·rw [show decide (¬ chkE (rootAt x e) a.index a.proof = 0) = false from decide_eq_false hg8]
       refine wl_on rfl rfl ?_
       refine wl_val (v_move' (by conv => (lhs; whnf))) rfl ?_
       refine wl_on rfl rfl ?_
       refine wl_val (v_load rfl (st.reads (v := .agg (awC a sv kv).toArray) 2 rfl TF.t45 (getV_all (by rw [List.size_toArray, length_awC hok])))) rfl ?_
       refine wl_on rfl rfl ?_
       refine wl_val (v_load rfl (st.reads (v := arr (chkV (rootAt x e) a.index a.proof)) 0 rfl TF.t23 (getV_all (by rw [List.size_toArray, length_bs, chkV_len hok.pV])))) rfl ?_
       refine wl_on rfl rfl ?_
       refine wl_val (v_move' (by conv => (lhs; whnf))) rfl ?_
       refine wl_on rfl rfl ?_
       refine wl_call rfl (c_shown st.im (chkV_len hok.pV) ha0) rfl ?_
       rintro v62 w ⟨t62, m3, hg3, hi3, rfl⟩
       have st := st.grown hg3 t62 hi3
       have hok := hok.mono hg3.le
       refine wl_on rfl rfl ?_
       refine wl_val (v_not rfl) rfl ?_
       refine wl_val (v_pick rfl) rfl ?_
       refine wl_nil ?_
       refine then_go ?_
       refine wc_cond rfl (fun h64 => ?_) (fun h64 => ?_)
       ·refine wc_seq ?_
        refine wc_region ?_
        refine wl_val (v_build (c' := (fdC fd0 (.slice none 0 0)).toArray) [] TF.z48 TF.p48 rfl rfl) rfl ?_
        refine wl_storeW (cs := (fdC fd0 (.slice none 0 0)).toArray) 1 st rfl TF.t48 rfl rfl rfl rfl (one_fdC rfl) ?_
        intro w st
        refine wl_val (v_assign' (by conv => (lhs; whnf))) rfl ?_
        refine wl_nil ?_
        refine then_go ?_
        refine wc_ret (then_ret ?_)
        obtain ⟨q1, q2⟩ := ask_15 hyes hep (fun hc : askOk x name e a => by have := hc.2.2; simp [this] at h64)
        exact ret2c rfl (st.reads 1 rfl TF.t48 (getV_all rfl)) rfl ((st.keepOnly (l := []) (List.nil_sublist _)).out ⟨_, by rw [q1]; rfl, by rw [q2]; exact fd0_M⟩)
       ·refine wc_skip ?_
        refine then_go ?_
        refine wc_seq ?_
        have hpr : provesP (rootAt x e) a.index a.proof := by
         refine Decidable.byContradiction fun hc => hg8 ?_
         rw [chkE, if_neg hc]
         decide
        have hall : askOk x name e a := ⟨UInt64.toNat_inj.1 (by omega), hpr, by simpa using h64⟩
        obtain ⟨q1, q2⟩ := ask_0 hyes hep hall
        obtain ⟨_, ka, kc, hkv, _⟩ := id hok.key
        subst hkv
        refine wc_region ?_
        refine wl_val (v_move' (by conv => (lhs; whnf))) rfl ?_
        refine wl_val (v_move' (by conv => (lhs; whnf))) rfl ?_
        refine wl_val (v_fa TF.f45_5 rfl) rfl ?_
        refine wl_val (v_load rfl (st.reads (v := .agg (bdC a.bind (.slice ka a.bind.key.length kc)).toArray) 2 rfl TF.t43 (aw_b hok))) rfl ?_
        refine wl_val (v_build (c' := (fdC ⟨e, decide (chkT (rootAt x e) a.index a.proof), a.bind⟩ (.slice ka a.bind.key.length kc)).toArray) [(0, u64 e), (1, .bool (decide (chkT (rootAt x e) a.index a.proof))), (2, .agg (bdC a.bind (.slice ka a.bind.key.length kc)).toArray)] TF.z48 TF.p48 rfl fill_fd) rfl ?_
        refine wl_alloc TF.z48 st rfl ?_
        intro b13 w st
        refine wl_storeW (cs := (fdC ⟨e, decide (chkT (rootAt x e) a.index a.proof), a.bind⟩ (.slice ka a.bind.key.length kc)).toArray) 0 st rfl TF.t48 rfl rfl rfl rfl (one_fdC rfl) ?_
        intro w st
        refine wl_nil ?_
        refine then_go ?_
        refine wc_seq ?_
        refine wc_region ?_
        refine wl_val (v_fa TF.f45_5 rfl) rfl ?_
        refine wl_val (v_fa TF.f43_1 rfl) rfl ?_
        refine wl_val (v_load rfl (st.reads (v := .slice ka a.bind.key.length kc) 3 rfl TF.t41 (aw_bk hok))) rfl ?_
        refine wl_call rfl (c_bclone st.im hok.key hk) rfl ?_
        rintro v74 w ⟨t74, m4, hg4', hi4, hs4⟩
        have st := st.grown hg4' t74 hi4
        have ho4 : v74.oneCell' = true := by obtain ⟨_, _, _, h, _⟩ := hs4; rw [h]; rfl
        refine wl_val (v_fa TF.f48_2 rfl) rfl ?_
        refine wl_val (v_fa TF.f43_1 rfl) rfl ?_
        refine wl_store1 0 st rfl TF.t41 rfl (by conv => (lhs; whnf)) ho4 (Nat.le_of_ble_eq_true rfl) ?_
        intro w st
        have st : St m m4 [] wI w (K.blk _ (fdC ⟨e, decide (chkT (rootAt x e) a.index a.proof), a.bind⟩ v74).toArray 48 :: _) := st
        refine wl_nil ?_
        refine then_go ?_
        refine wc_seq ?_
        refine wc_region ?_
        refine wl_val (v_load rfl (st.reads (v := .agg (fdC ⟨e, decide (chkT (rootAt x e) a.index a.proof), a.bind⟩ v74).toArray) 0 rfl TF.t48 (getV_all rfl))) rfl ?_
        refine wl_storeW (cs := (fdC ⟨e, decide (chkT (rootAt x e) a.index a.proof), a.bind⟩ v74).toArray) 2 st rfl TF.t48 rfl rfl rfl rfl (one_fdC ho4) ?_
        intro w st
        refine wl_val (v_assign' (by conv => (lhs; whnf))) rfl ?_
        refine wl_nil ?_
        refine then_go ?_
        refine wc_ret ?_
        exact ret2c rfl (st.reads (v := .agg (fdC ⟨e, decide (chkT (rootAt x e) a.index a.proof), a.bind⟩ v74).toArray) 2 rfl TF.t48 (getV_all rfl)) rfl ((st.keepOnly (l := []) (List.nil_sublist _)).out ⟨_, by rw [q1]; rfl, by rw [q2]; exact ⟨_, rfl, hs4, hok.name⟩⟩)
    refine fl_val 0 rfl (fun _ => (v_fa TF.f29_2 rfl)) rfl (by kernel_rfl) ?_
    refine fl_ld 1 rfl (v_load rfl (by first | exact st.reads (v := .slice (some ⟨rb, ro, none⟩) x.roots.length rc) (b := b4) (c := (vwC x.pin x.head (.slice (some ⟨rb, ro, none⟩) x.roots.length rc)).toArray) 2 rfl TF.t27 (vw_r hp hh) | exact st.reads (v := .slice (some ⟨rb, ro, none⟩) x.roots.length rc) (b := b4) (c := (vwC x.pin x.head (.slice (some ⟨rb, ro, none⟩) x.roots.length rc)).toArray) 3 rfl TF.t27 (vw_r hp hh))) (by kernel_rfl) ?_
    refine fl_val 2 rfl (fun _ => (v_move' (by conv => (lhs; whnf)))) rfl (by kernel_rfl) ?_
    refine fl_val 3 rfl (fun _ => (v_to (v' := .int .u64 ((e.toNat - 1 : Nat) : Int)) (v_sub rfl rfl) (by rw [show ((e.toNat : Int) - 1) = ((e.toNat - 1 : Nat) : Int) by omega, wrap_u64_small (by omega)]))) rfl (by kernel_rfl) ?_
    refine fl_val 4 rfl (fun _ => (v_ias (e.toNat - 1) Try.underlying27 TF.t55 rfl rfl (by first | rfl | omega) (by first | omega | (dsimp only at *; omega)))) rfl (by kernel_rfl) ?_
    refine fl_val 5 rfl (fun _ => (v_fa TF.f55_2 rfl)) rfl (by kernel_rfl) ?_
    refine fl_ld 6 rfl (v_load rfl (hrt.rd (v' := arr (rootAt x e)) rfl hj (by decide) TF.t23 (by rw [hroot]; exact (getRt hok1).2.1) st.im)) (by kernel_rfl) ?_
    refine fl_val 7 rfl (fun _ => (v_fa TF.f45_1 rfl)) rfl (by kernel_rfl) ?_
    refine fl_ld 8 rfl (v_load rfl (by first | exact st.reads (v := arr a.index) (b := b7) (c := (awC a sv kv).toArray) 1 rfl TF.t23 (aw_i hok) | exact st.reads (v := arr a.index) (b := b7) (c := (awC a sv kv).toArray) 2 rfl TF.t23 (aw_i hok))) (by kernel_rfl) ?_
    refine fl_val 9 rfl (fun _ => (v_fa TF.f45_2 rfl)) rfl (by kernel_rfl) ?_
    refine fl_ld 10 rfl (v_load rfl (by first | exact st.reads (v := .agg (prC sv a.proof.E a.proof.I a.proof.V)) (b := b7) (c := (awC a sv kv).toArray) 1 rfl TF.t40 (aw_p hok) | exact st.reads (v := .agg (prC sv a.proof.E a.proof.I a.proof.V)) (b := b7) (c := (awC a sv kv).toArray) 2 rfl TF.t40 (aw_p hok))) (by kernel_rfl) ?_
    refine fl_effs [11, 16] (by kernel_rfl) ⟨obl_ld rfl rfl rfl (v_load rfl (by first | exact st.reads (v := .agg (prC sv a.proof.E a.proof.I a.proof.V)) (b := b7) (c := (awC a sv kv).toArray) 1 rfl TF.t40 (aw_p hok) | exact st.reads (v := .agg (prC sv a.proof.E a.proof.I a.proof.V)) (b := b7) (c := (awC a sv kv).toArray) 2 rfl TF.t40 (aw_p hok))), obl_ld rfl rfl rfl (v_load rfl (by first | exact st.reads (v := arr a.index) (b := b7) (c := (awC a sv kv).toArray) 1 rfl TF.t23 (aw_i hok) | exact st.reads (v := arr a.index) (b := b7) (c := (awC a sv kv).toArray) 2 rfl TF.t23 (aw_i hok))), obl_ld rfl rfl rfl (v_load rfl (hrt.rd (v' := arr (rootAt x e)) rfl hj (by decide) TF.t23 (by rw [hroot]; exact (getRt hok1).2.1) st.im)), obl_ld rfl rfl rfl (v_load rfl (by first | exact st.reads (v := .slice (some ⟨rb, ro, none⟩) x.roots.length rc) (b := b4) (c := (vwC x.pin x.head (.slice (some ⟨rb, ro, none⟩) x.roots.length rc)).toArray) 2 rfl TF.t27 (vw_r hp hh) | exact st.reads (v := .slice (some ⟨rb, ro, none⟩) x.roots.length rc) (b := b4) (c := (vwC x.pin x.head (.slice (some ⟨rb, ro, none⟩) x.roots.length rc)).toArray) 3 rfl TF.t27 (vw_r hp hh))), trivial⟩ (all2 ?_ ?_)
    ·refine stepE 11 (pure' := [9, 7, 5, 4, 3, 2, 0]) (lds' := [1]) rfl (by kernel_rfl) (by kernel_rfl) ?_
     refine wl_call rfl (c_pcheck st.im hrl hok.idx ⟨_, rfl, hok.sibs, hok.pI, hok.pV⟩) rfl ?_
     rintro v45 w ⟨t45, m2, hg2, hi2, rfl⟩
     have st := st.grown hg2 t45 hi2
     have hok := hok.mono hg2.le
     have hrt := hrt.mono hg2.le
     refine wl_nil ⟨rfl, ?_⟩
     refine fl_val 12 rfl (fun _ => (v_move' (by conv => (lhs; whnf)))) rfl (by kernel_rfl) ?_
     refine fl_val 13 rfl (fun _ => (v_extract rfl rfl)) rfl (by kernel_rfl) ?_
     refine fl_val 14 rfl (fun _ => (v_extract rfl rfl)) rfl (by kernel_rfl) ?_
     refine fl_val 15 rfl (fun _ => (v_extract rfl rfl)) rfl (by kernel_rfl) ?_
     refine fl_eff1 16 [15, 14, 13, 12, 9, 7, 5, 4, 3, 2, 0] [1] (by kernel_rfl) ⟨obl_ld rfl rfl rfl (v_load rfl (by first | exact st.reads (v := .slice (some ⟨rb, ro, none⟩) x.roots.length rc) (b := b4) (c := (vwC x.pin x.head (.slice (some ⟨rb, ro, none⟩) x.roots.length rc)).toArray) 2 rfl TF.t27 (vw_r hp hh) | exact st.reads (v := .slice (some ⟨rb, ro, none⟩) x.roots.length rc) (b := b4) (c := (vwC x.pin x.head (.slice (some ⟨rb, ro, none⟩) x.roots.length rc)).toArray) 3 rfl TF.t27 (vw_r hp hh))), trivial⟩ rfl ?_
     refine wl_alloc TF.z23 st rfl ?_
     intro b10 w st
     refine wl_nil ⟨rfl, ?_⟩
     refine FL.permB [16, 15, 14, 13, 12, 11, 10, 9, 8, 7, 6, 5, 4, 3, 2, 1, 0] [15, 14, 13, 12, 9, 7, 5, 4, 3, 2, 0] [1] (by kernel_rfl) ?_
     exact fin _ _ _ _ rfl rfl rfl rfl rfl rfl rfl rfl rfl rfl rfl hok st
    ·refine stepE 16 (pure' := [9, 7, 5, 4, 3, 2, 0]) (lds' := [10, 8, 6, 1]) rfl (by kernel_rfl) (by kernel_rfl) ?_
     refine wl_alloc TF.z23 st rfl ?_
     intro b10 w st
     refine wl_nil ⟨rfl, ?_⟩
     refine fl_eff1 11 [9, 7, 5, 4, 3, 2, 0] [1] (by kernel_rfl) ⟨obl_ld rfl rfl rfl (v_load rfl (by first | exact st.reads (v := .agg (prC sv a.proof.E a.proof.I a.proof.V)) (b := b7) (c := (awC a sv kv).toArray) 1 rfl TF.t40 (aw_p hok) | exact st.reads (v := .agg (prC sv a.proof.E a.proof.I a.proof.V)) (b := b7) (c := (awC a sv kv).toArray) 2 rfl TF.t40 (aw_p hok))), obl_ld rfl rfl rfl (v_load rfl (by first | exact st.reads (v := arr a.index) (b := b7) (c := (awC a sv kv).toArray) 1 rfl TF.t23 (aw_i hok) | exact st.reads (v := arr a.index) (b := b7) (c := (awC a sv kv).toArray) 2 rfl TF.t23 (aw_i hok))), obl_ld rfl rfl rfl (v_load rfl (hrt.rd (v' := arr (rootAt x e)) rfl hj (by decide) TF.t23 (by rw [hroot]; exact (getRt hok1).2.1) st.im)), obl_ld rfl rfl rfl (v_load rfl (by first | exact st.reads (v := .slice (some ⟨rb, ro, none⟩) x.roots.length rc) (b := b4) (c := (vwC x.pin x.head (.slice (some ⟨rb, ro, none⟩) x.roots.length rc)).toArray) 2 rfl TF.t27 (vw_r hp hh) | exact st.reads (v := .slice (some ⟨rb, ro, none⟩) x.roots.length rc) (b := b4) (c := (vwC x.pin x.head (.slice (some ⟨rb, ro, none⟩) x.roots.length rc)).toArray) 3 rfl TF.t27 (vw_r hp hh))), trivial⟩ rfl ?_
     refine wl_call rfl (c_pcheck st.im hrl hok.idx ⟨_, rfl, hok.sibs, hok.pI, hok.pV⟩) rfl ?_
     rintro v45 w ⟨t45, m2, hg2, hi2, rfl⟩
     have st := st.grown hg2 t45 hi2
     have hok := hok.mono hg2.le
     have hrt := hrt.mono hg2.le
     refine wl_nil ⟨rfl, ?_⟩
     refine fl_val 12 rfl (fun _ => (v_move' (by conv => (lhs; whnf)))) rfl (by kernel_rfl) ?_
     refine fl_val 13 rfl (fun _ => (v_extract rfl rfl)) rfl (by kernel_rfl) ?_
     refine fl_val 14 rfl (fun _ => (v_extract rfl rfl)) rfl (by kernel_rfl) ?_
     refine fl_val 15 rfl (fun _ => (v_extract rfl rfl)) rfl (by kernel_rfl) ?_
     refine FL.permB [16, 15, 14, 13, 12, 11, 10, 9, 8, 7, 6, 5, 4, 3, 2, 1, 0] [15, 14, 13, 12, 9, 7, 5, 4, 3, 2, 0] [1] (by kernel_rfl) ?_
     exact fin _ _ _ _ rfl rfl rfl rfl rfl rfl rfl rfl rfl rfl rfl hok st
end
end Go.Proofs.Ytjjpakjgppmmdaa
