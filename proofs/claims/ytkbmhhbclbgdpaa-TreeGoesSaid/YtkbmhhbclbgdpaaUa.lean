/-
  The trees of leaves: what they are, how they lie; Empty, leaf, fork, Len, Root.
-/
import Derived.Test.YtkbmhhbclbgdpaaPd
namespace Go.Proofs.Ytkbmhhbclbgdpaa
open Go Go.RowKit K SH PT

/-- A tree: without leaves, with one, or with two trees below it. -/
inductive Tr
  | e
  | l (i v : By)
  | f (a b : Tr)

namespace Tr
def n : Tr → Nat
  | e => 0
  | l _ _ => 1
  | f a b => a.n + b.n
def root : Tr → By
  | e => sum [69]
  | l i v => sum (76 :: (i ++ v))
  | f a b => sum (78 :: (a.root ++ b.root))
def ht : Tr → Nat
  | e => 0
  | l _ _ => 0
  | f a b => max a.ht b.ht + 1
end Tr

def z32 : By := List.replicate 32 0
def nilP : Value := .pointer none
def ptrP (p : Nat) : Value := .pointer (some ⟨p, 0, none⟩)

/-- A tree's cells. -/
def trC (n : Nat) (i v : By) (lp rp : Value) (r : By) : Array Value := (Value.int .i64 n :: (bs i ++ (bs v ++ (lp :: rp :: bs r)))).toArray

theorem length_root (t : Tr) : t.root.length = 32 := by cases t <;> exact length_sum _

/-- A tree lies there. -/
inductive TreeM (m : Mem) : Nat → Tr → Prop
  | mkE {p : Nat} : m p = some (.cells (trC 0 z32 z32 nilP nilP (Tr.root .e)) 56 (0, 0)) → TreeM m p .e
  | mkL {p : Nat} {i v : By} : i.length = 32 → v.length = 32 → m p = some (.cells (trC 1 i v nilP nilP (Tr.root (.l i v))) 56 (0, 0)) → TreeM m p (.l i v)
  | mkF {p pa pb : Nat} {a b : Tr} : TreeM m pa a → TreeM m pb b → m p = some (.cells (trC (Tr.n (.f a b)) z32 z32 (ptrP pa) (ptrP pb) (Tr.root (.f a b))) 56 (0, 0)) → TreeM m p (.f a b)

theorem TreeM.mono {m m' : Mem} (hm : ∀ k o, m k = some o → m' k = some o) {t : Tr} {p : Nat} (h : TreeM m p t) : TreeM m' p t := by
  induction h with
  | mkE h => exact .mkE (hm _ _ h)
  | mkL h1 h2 h => exact .mkL h1 h2 (hm _ _ h)
  | mkF _ _ h ha hb => exact .mkF ha hb (hm _ _ h)

theorem TreeM.leaf {m : Mem} {p : Nat} {i v : By} (h : TreeM m p (.l i v)) : i.length = 32 ∧ v.length = 32 ∧ m p = some (.cells (trC 1 i v nilP nilP (Tr.root (.l i v))) 56 (0, 0)) := by
  cases h with
  | mkL h1 h2 h => exact ⟨h1, h2, h⟩

theorem TreeM.fork {m : Mem} {p : Nat} {a b : Tr} (h : TreeM m p (.f a b)) : ∃ pa pb, TreeM m pa a ∧ TreeM m pb b ∧ m p = some (.cells (trC (Tr.n (.f a b)) z32 z32 (ptrP pa) (ptrP pb) (Tr.root (.f a b))) 56 (0, 0)) := by
  cases h with
  | mkF h1 h2 h => exact ⟨_, _, h1, h2, h⟩

theorem TreeM.hd {m : Mem} {p : Nat} {t : Tr} (h : TreeM m p t) : ∃ i v lp rp, i.length = 32 ∧ v.length = 32 ∧ m p = some (.cells (trC t.n i v lp rp t.root) 56 (0, 0)) := by
  cases h with
  | mkE h => exact ⟨_, _, _, _, rfl, rfl, h⟩
  | mkL h1 h2 h => exact ⟨_, _, _, _, h1, h2, h⟩
  | mkF _ _ h => exact ⟨_, _, _, _, rfl, rfl, h⟩

section
variable {n : Nat} {i v r : By} {lp rp : Value} (hi : i.length = 32) (hv : v.length = 32) (hr : r.length = 32)
theorem trC_eq : trC n i v lp rp r = ([Value.int .i64 n] ++ bs i ++ (bs v ++ (lp :: rp :: bs r))).toArray := by simp [trC]
include hi hv in
theorem size_trC (hr : r.length = 32) : (trC n i v lp rp r).size = 99 := by simp [trC, length_bs, hi, hv, hr]
theorem getV_n : getV false 1 (trC n i v lp rp r) 0 = some (.int .i64 n) := rfl
include hi in
theorem getV_i : getV true 32 (trC n i v lp rp r) 1 = some (arr i) := by
  refine getV_seg (a := [Value.int .i64 n]) (b := bs i) (c := bs v ++ (lp :: rp :: bs r)) ?_ rfl (by rw [length_bs, hi])
  simp
include hi hv in
theorem getV_v : getV true 32 (trC n i v lp rp r) 33 = some (arr v) := by
  refine getV_seg (a := Value.int .i64 n :: bs i) (b := bs v) (c := lp :: rp :: bs r) ?_ (by simp [length_bs, hi]) (by rw [length_bs, hv])
  simp
include hi hv hr in
theorem getV_r : getV true 32 (trC n i v lp rp r) 67 = some (arr r) := by
  refine getV_seg (a := Value.int .i64 n :: (bs i ++ (bs v ++ [lp, rp]))) (b := bs r) (c := []) ?_ (by simp [length_bs, hi, hv]) (by rw [length_bs, hr])
  simp
theorem getV_atL {a b : List Value} {x : Value} {o : Nat} {l : List Value} (hl : l = a ++ x :: b) (ha : a.length = o) : getV false 1 l.toArray o = some x := by
  subst hl; subst ha
  simp [getV]
include hi hv in
theorem getV_lp : getV false 1 (trC n i v lp rp r) 65 = some lp :=
  getV_atL (a := Value.int .i64 n :: (bs i ++ bs v)) (b := rp :: bs r) (by simp) (by simp [length_bs, hi, hv])
include hi hv in
theorem getV_rp : getV false 1 (trC n i v lp rp r) 66 = some rp :=
  getV_atL (a := Value.int .i64 n :: (bs i ++ (bs v ++ [lp]))) (b := bs r) (by simp) (by simp [length_bs, hi, hv])
end

section
variable {m0 m : Mem} {F : List Nat} {w0 w : World} {Es : List Ent} {p : Nat} {t : Tr}

theorem TreeM.rdN (h : TreeM m p t) (st : St m0 m F w0 w Es) : Reads Try.prog w 3 ⟨p, 0, none⟩ (.int .i64 t.n) := by
  obtain ⟨i, v, lp, rp, hi, hv, hm⟩ := h.hd
  exact st.readm hm TF.t3 getV_n
theorem TreeM.rdR (h : TreeM m p t) (st : St m0 m F w0 w Es) : Reads Try.prog w 24 ⟨p, 0 + 67, none⟩ (arr t.root) := by
  obtain ⟨i, v, lp, rp, hi, hv, hm⟩ := h.hd
  exact st.readm hm TF.t24 (getV_r hi hv (length_root t))
theorem TreeM.rdI {i v : By} (h : TreeM m p (.l i v)) (st : St m0 m F w0 w Es) : Reads Try.prog w 24 ⟨p, 0 + 1, none⟩ (arr i) :=
  st.readm h.leaf.2.2 TF.t24 (getV_i h.leaf.1)
theorem TreeM.rdV {i v : By} (h : TreeM m p (.l i v)) (st : St m0 m F w0 w Es) : Reads Try.prog w 24 ⟨p, 0 + 33, none⟩ (arr v) :=
  st.readm h.leaf.2.2 TF.t24 (getV_v h.leaf.1 h.leaf.2.1)
theorem rdLp {pa pb k : Nat} {x : By} (h : m p = some (.cells (trC k z32 z32 (ptrP pa) (ptrP pb) x) 56 (0, 0))) (st : St m0 m F w0 w Es) : Reads Try.prog w 27 ⟨p, 0 + 65, none⟩ (.pointer (some ⟨pa, 0, none⟩)) :=
  st.readm h TF.t27 (getV_lp rfl rfl)
theorem rdRp {pa pb k : Nat} {x : By} (h : m p = some (.cells (trC k z32 z32 (ptrP pa) (ptrP pb) x) 56 (0, 0))) (st : St m0 m F w0 w Es) : Reads Try.prog w 27 ⟨p, 0 + 66, none⟩ (.pointer (some ⟨pb, 0, none⟩)) :=
  st.readm h TF.t27 (getV_rp rfl rfl)
end

theorem fill_leaf {i v r : By} (hi : i.length = 32) (hv : v.length = 32) (hr : r.length = 32) : FillR (#[(0, 1), (1, 32), (33, 32), (65, 1), (66, 1), (67, 32)][·]?) (Value.agg ([Value.int .i64 0] ++ List.replicate 32 (Value.int .u8 0) ++ List.replicate 32 (Value.int .u8 0) ++ [Value.pointer none] ++ [Value.pointer none] ++ List.replicate 32 (Value.int .u8 0)).toArray).cells
    [(0, .int .i64 1), (1, arr i), (2, arr v), (5, arr r)] (trC 1 i v nilP nilP r) := by
  refine fill_one [] [.int .i64 0] (bs z32 ++ (bs z32 ++ (nilP :: nilP :: bs z32))) rfl rfl rfl ?_
  refine fill_one [.int .i64 1] (bs z32) (bs z32 ++ (nilP :: nilP :: bs z32)) rfl rfl (by rw [size_arr, hi]; rfl) ?_
  refine fill_one (.int .i64 1 :: bs i) (bs z32) (nilP :: nilP :: bs z32) (by simp [arr, Value.cells]) (by simp [length_bs, hi, z32]) (by rw [size_arr, hv]; rfl) ?_
  refine fill_one (.int .i64 1 :: (bs i ++ (bs v ++ [nilP, nilP]))) (bs z32) [] (by simp [arr, Value.cells]) (by simp [length_bs, hi, hv, z32]) (by rw [size_arr, hr]; rfl) ?_
  simp [FillR, trC, arr, Value.cells]

theorem fill_fork {n pa pb : Nat} {r : By} (hr : r.length = 32) : FillR (#[(0, 1), (1, 32), (33, 32), (65, 1), (66, 1), (67, 32)][·]?) (Value.agg ([Value.int .i64 0] ++ List.replicate 32 (Value.int .u8 0) ++ List.replicate 32 (Value.int .u8 0) ++ [Value.pointer none] ++ [Value.pointer none] ++ List.replicate 32 (Value.int .u8 0)).toArray).cells
    [(0, .int .i64 n), (3, ptrP pa), (4, ptrP pb), (5, arr r)] (trC n z32 z32 (ptrP pa) (ptrP pb) r) := by
  refine fill_one [] [.int .i64 0] (bs z32 ++ (bs z32 ++ (nilP :: nilP :: bs z32))) rfl rfl rfl ?_
  refine fill_one (.int .i64 n :: (bs z32 ++ bs z32)) [nilP] (nilP :: bs z32) rfl rfl rfl ?_
  refine fill_one (.int .i64 n :: (bs z32 ++ (bs z32 ++ [ptrP pa]))) [nilP] (bs z32) rfl rfl rfl ?_
  refine fill_one (.int .i64 n :: (bs z32 ++ (bs z32 ++ [ptrP pa, ptrP pb]))) (bs z32) [] rfl rfl (by rw [size_arr, hr]; rfl) ?_
  simp [FillR, trC, arr, Value.cells]

section
variable {m : Mem} {wI : World}

theorem c_tlen {p : Nat} {t : Tr} (him : Im m wI) (h : TreeM m p t) : Ret Try.prog 15 #[ptrP p] wI fun v w' => Tch wI w' [] [] ∧ v = .int .i64 t.n := by
  have st := St.start him
  refine ret_of Try.call15 Try.func15 rfl Try.ntmps15 Try.results15 rfl ?_
  refine wc_seq ?_
  refine wc_region ?_
  refine wl_val (v_assign' (by conv => (lhs; whnf))) rfl ?_
  refine wl_nil ?_
  refine then_go ?_
  refine wc_seq ?_
  refine wc_region ?_
  refine wl_val (v_move' (by conv => (lhs; whnf))) rfl ?_
  refine wl_val (v_nil rfl) rfl ?_
  refine wl_val (v_fa TF.f56_0 rfl) rfl ?_
  refine wl_val (v_load rfl (h.rdN st)) rfl ?_
  refine wl_val (v_assign' (by conv => (lhs; whnf))) rfl ?_
  refine wl_nil ?_
  refine then_go ?_
  refine wc_ret ?_
  exact ret1 rfl ⟨st.touch, rfl⟩

theorem c_troot {p : Nat} {t : Tr} (him : Im m wI) (h : TreeM m p t) : Ret Try.prog 13 #[ptrP p] wI fun v w' => Tch wI w' [] [] ∧ v = arr t.root := by
  have st := St.start him
  refine ret_of Try.call13 Try.func13 rfl Try.ntmps13 Try.results13 rfl ?_
  refine wc_seq ?_
  refine wc_region ?_
  refine wl_alloc TF.z24 st rfl ?_
  intro b2 w st
  refine wl_nil ?_
  refine then_go ?_
  refine wc_seq ?_
  refine wc_region ?_
  refine wl_val (v_move' (by conv => (lhs; whnf))) rfl ?_
  refine wl_val (v_nil rfl) rfl ?_
  refine wl_val (v_fa TF.f56_5 rfl) rfl ?_
  refine wl_val (v_load rfl (h.rdR st)) rfl ?_
  refine wl_storeW (cs := (bs t.root).toArray) 0 st rfl TF.t24 rfl rfl (by simp [length_bs, length_root]) rfl (fun u hu => one_bs _ u (by simpa using hu)) ?_
  intro w st
  refine wl_nil ?_
  refine then_go ?_
  refine wc_ret ?_
  exact ret1c rfl (st.reads 0 rfl TF.t24 (getV_all (by simp [length_bs, length_root]))) ⟨(st.keepOnly (l := []) (List.nil_sublist _)).touch, rfl⟩

theorem c_tempty (him : Im m wI) : Ret Try.prog 23 #[] wI fun v w' => Out m wI w' fun m' => ∃ p, v = ptrP p ∧ TreeM m' p .e := by
  have st := St.start him
  refine ret_of Try.call23 Try.func23 rfl Try.ntmps23 Try.results23 rfl ?_
  refine wc_seq ?_
  refine wc_region ?_
  refine wl_val (v_assign' (by conv => (lhs; whnf))) rfl ?_
  refine wl_nil ?_
  refine then_go ?_
  refine wc_seq ?_
  refine wc_region ?_
  refine wl_call rfl (c_emptyb st.im) rfl ?_
  rintro v1 w ⟨t, m1, hg1, hi1, hs⟩
  have st := st.grown hg1 t hi1
  refine wl_call rfl (c_tagsof st.im hs (by simp)) rfl ?_
  rintro v2 w ⟨t, rfl⟩
  have st := st.pure t
  refine wl_val (v_build (c' := trC 0 z32 z32 nilP nilP (Tr.root .e)) [(5, arr (sum [69]))] TF.z56 TF.p56 rfl (fill_one (Value.int .i64 0 :: (bs z32 ++ (bs z32 ++ [nilP, nilP]))) (bs z32) [] rfl rfl (by rw [size_arr, length_sum, length_bs]; rfl) (by simp [FillR, trC, arr, Value.cells, Tr.root]))) rfl ?_
  refine wl_box (v := .agg (trC 0 z32 z32 nilP nilP (Tr.root .e))) rfl st rfl ?_
  intro b w st
  obtain ⟨m2, hg2, hm2, st⟩ := st.freeze (i := 0) rfl (by simp)
  refine wl_val (v_assign' (by conv => (lhs; whnf))) rfl ?_
  refine wl_nil ?_
  refine then_go ?_
  refine wc_ret ?_
  exact ret1 rfl (st.out ⟨b, rfl, .mkE hm2⟩)

theorem c_tleaf {i v : By} (him : Im m wI) (hi : i.length = 32) (hv : v.length = 32) : Ret Try.prog 32 #[arr i, arr v] wI fun v' w' => Out m wI w' fun m' => ∃ p, v' = ptrP p ∧ TreeM m' p (.l i v) := by
  have st := St.start him
  refine ret_of Try.call32 Try.func32 rfl Try.ntmps32 Try.results32 rfl ?_
  refine wc_seq ?_
  refine wc_region ?_
  refine wl_box (v := arr i) rfl st rfl ?_
  intro b2 w st
  refine wl_box (v := arr v) rfl st rfl ?_
  intro b3 w st
  refine wl_val (v_assign' (by conv => (lhs; whnf))) rfl ?_
  refine wl_nil ?_
  refine then_go ?_
  refine wc_seq ?_
  refine wc_draw TF.mixed ?_
  have st := st.pure (touch_drew _)
  refine fl_ld 0 rfl (v_load rfl (st.reads 1 rfl TF.t24 (getV_all (by rw [size_arr, hi])))) (by kernel_rfl) ?_
  refine fl_ld 1 rfl (v_load rfl (st.reads 0 rfl TF.t24 (getV_all (by rw [size_arr, hv])))) (by kernel_rfl) ?_
  refine fl_ld 2 rfl (v_load rfl (st.reads 1 rfl TF.t24 (getV_all (by rw [size_arr, hi])))) (by kernel_rfl) ?_
  refine fl_ld 3 rfl (v_load rfl (st.reads 0 rfl TF.t24 (getV_all (by rw [size_arr, hv])))) (by kernel_rfl) ?_
  refine fl_eff1 4 [] [1, 0] (by kernel_rfl) ⟨obl_ld rfl rfl rfl (v_load rfl (st.reads 0 rfl TF.t24 (getV_all (by rw [size_arr, hv])))), obl_ld rfl rfl rfl (v_load rfl (st.reads 1 rfl TF.t24 (getV_all (by rw [size_arr, hi])))), obl_ld rfl rfl rfl (v_load rfl (st.reads 0 rfl TF.t24 (getV_all (by rw [size_arr, hv])))), obl_ld rfl rfl rfl (v_load rfl (st.reads 1 rfl TF.t24 (getV_all (by rw [size_arr, hi])))), trivial⟩ rfl ?_
  refine wl_call rfl (c_leafb st.im hi hv) rfl ?_
  rintro v9 w ⟨t, m1, hg1, hi1, hs⟩
  have st := st.grown hg1 t hi1
  refine wl_nil ⟨rfl, ?_⟩
  refine fl_eff1 5 [] [1, 0] (by kernel_rfl) ⟨obl_ld rfl rfl rfl (v_load rfl (st.reads 0 rfl TF.t24 (getV_all (by rw [size_arr, hv])))), obl_ld rfl rfl rfl (v_load rfl (st.reads 1 rfl TF.t24 (getV_all (by rw [size_arr, hi])))), trivial⟩ rfl ?_
  refine wl_call rfl (c_tagsof st.im hs (by simp [hi, hv])) rfl ?_
  rintro v10 w ⟨t, rfl⟩
  have st := st.pure t
  refine wl_nil ⟨rfl, ?_⟩
  refine fl_val 6 rfl (fun _ => (v_build (c' := trC 1 i v nilP nilP (Tr.root (.l i v))) [(0, .int .i64 1), (1, arr i), (2, arr v), (5, arr (sum (76 :: (i ++ v))))] TF.z56 TF.p56 rfl (fill_leaf hi hv (length_sum _)))) rfl (by kernel_rfl) ?_
  refine fl_eff1 7 [] [1, 0] (by kernel_rfl) ⟨obl_ld rfl rfl rfl (v_load rfl (st.reads 0 rfl TF.t24 (getV_all (by rw [size_arr, hv])))), obl_ld rfl rfl rfl (v_load rfl (st.reads 1 rfl TF.t24 (getV_all (by rw [size_arr, hi])))), trivial⟩ rfl ?_
  refine wl_box (v := .agg (trC 1 i v nilP nilP (Tr.root (.l i v)))) rfl st rfl ?_
  intro b w st
  obtain ⟨m2, hg2, hm2, st⟩ := st.freeze (i := 0) rfl (by simp)
  refine wl_nil ⟨rfl, ?_⟩
  refine fl_eff1 8 [] [] (by kernel_rfl) ⟨obl_ld rfl rfl rfl (v_load rfl (st.reads 0 rfl TF.t24 (getV_all (by rw [size_arr, hv])))), obl_ld rfl rfl rfl (v_load rfl (st.reads 1 rfl TF.t24 (getV_all (by rw [size_arr, hi])))), trivial⟩ rfl ?_
  refine wl_val (v_assign' (by conv => (lhs; whnf))) rfl ?_
  refine wl_nil ⟨rfl, ?_⟩
  refine fl_nil (by kernel_rfl) trivial ?_
  refine then_go ?_
  refine wc_ret ?_
  exact ret1 rfl (st.out ⟨b, rfl, .mkL hi hv hm2⟩)

theorem c_fork {pa pb : Nat} {a b : Tr} (him : Im m wI) (ha : TreeM m pa a) (hb : TreeM m pb b) (hn : a.n + b.n < 4611686018427387904) : Ret Try.prog 45 #[ptrP pa, ptrP pb] wI fun v' w' => Out m wI w' fun m' => ∃ p, v' = ptrP p ∧ TreeM m' p (.f a b) := by
  have st := St.start him
  refine ret_of Try.call45 Try.func45 rfl Try.ntmps45 Try.results45 rfl ?_
  refine wc_seq ?_
  refine wc_region ?_
  refine wl_val (v_assign' (by conv => (lhs; whnf))) rfl ?_
  refine wl_nil ?_
  refine then_go ?_
  refine wc_seq ?_
  refine wc_draw TF.mixed ?_
  have st := st.pure (touch_drew _)
  refine fl_val 0 rfl (fun _ => (v_move' (by conv => (lhs; whnf)))) rfl (by kernel_rfl) ?_
  refine fl_val 1 rfl (fun _ => (v_nil rfl)) rfl (by kernel_rfl) ?_
  refine fl_val 2 rfl (fun _ => (v_fa TF.f56_0 rfl)) rfl (by kernel_rfl) ?_
  refine fl_ld 3 rfl (v_load rfl (ha.rdN st)) (by kernel_rfl) ?_
  refine fl_val 4 rfl (fun _ => (v_move' (by conv => (lhs; whnf)))) rfl (by kernel_rfl) ?_
  refine fl_val 5 rfl (fun _ => (v_nil rfl)) rfl (by kernel_rfl) ?_
  refine fl_val 6 rfl (fun _ => (v_fa TF.f56_0 rfl)) rfl (by kernel_rfl) ?_
  refine fl_ld 7 rfl (v_load rfl (hb.rdN st)) (by kernel_rfl) ?_
  refine fl_val 8 rfl (fun _ => (v_add' rfl rfl rfl (by first | omega | (dsimp only at *; omega)) (by first | omega | (dsimp only at *; omega)))) rfl (by kernel_rfl) ?_
  refine fl_val 9 rfl (fun _ => (v_move' (by conv => (lhs; whnf)))) rfl (by kernel_rfl) ?_
  refine fl_val 10 rfl (fun _ => (v_move' (by conv => (lhs; whnf)))) rfl (by kernel_rfl) ?_
  refine fl_val 11 rfl (fun _ => (v_move' (by conv => (lhs; whnf)))) rfl (by kernel_rfl) ?_
  refine fl_val 12 rfl (fun _ => (v_nil rfl)) rfl (by kernel_rfl) ?_
  refine fl_val 13 rfl (fun _ => (v_fa TF.f56_5 rfl)) rfl (by kernel_rfl) ?_
  refine fl_ld 14 rfl (v_load rfl (ha.rdR st)) (by kernel_rfl) ?_
  refine fl_val 15 rfl (fun _ => (v_move' (by conv => (lhs; whnf)))) rfl (by kernel_rfl) ?_
  refine fl_val 16 rfl (fun _ => (v_nil rfl)) rfl (by kernel_rfl) ?_
  refine fl_val 17 rfl (fun _ => (v_fa TF.f56_5 rfl)) rfl (by kernel_rfl) ?_
  refine fl_ld 18 rfl (v_load rfl (hb.rdR st)) (by kernel_rfl) ?_
  refine fl_eff1 19 [17, 16, 15, 13, 12, 11, 10, 9, 8, 6, 5, 4, 2, 1, 0] [7, 3] (by kernel_rfl) ⟨obl_ld rfl rfl rfl (v_load rfl (hb.rdR st)), obl_ld rfl rfl rfl (v_load rfl (ha.rdR st)), obl_ld rfl rfl rfl (v_load rfl (hb.rdN st)), obl_ld rfl rfl rfl (v_load rfl (ha.rdN st)), trivial⟩ rfl ?_
  refine wl_call rfl (c_nodeb st.im (length_root a) (length_root b)) rfl ?_
  rintro v24 w ⟨t, m1, hg1, hi1, hs⟩
  have st := st.grown hg1 t hi1
  have ha := ha.mono hg1.le
  have hb := hb.mono hg1.le
  refine wl_nil ⟨rfl, ?_⟩
  refine fl_eff1 20 [17, 16, 15, 13, 12, 11, 10, 9, 8, 6, 5, 4, 2, 1, 0] [7, 3] (by kernel_rfl) ⟨obl_ld rfl rfl rfl (v_load rfl (hb.rdN st)), obl_ld rfl rfl rfl (v_load rfl (ha.rdN st)), trivial⟩ rfl ?_
  refine wl_call rfl (c_tagsof st.im hs (by simp [length_root])) rfl ?_
  rintro v25 w ⟨t, rfl⟩
  have st := st.pure t
  refine wl_nil ⟨rfl, ?_⟩
  refine fl_val 21 rfl (fun _ => (v_build (c' := trC (Tr.n (.f a b)) z32 z32 (ptrP pa) (ptrP pb) (Tr.root (.f a b))) [(0, .int .i64 (Tr.n (.f a b) : Nat)), (3, ptrP pa), (4, ptrP pb), (5, arr (sum (78 :: (a.root ++ b.root))))] TF.z56 TF.p56 rfl (fill_fork (length_sum _)))) rfl (by kernel_rfl) ?_
  refine fl_eff1 22 [17, 16, 15, 13, 12, 11, 10, 9, 8, 6, 5, 4, 2, 1, 0] [7, 3] (by kernel_rfl) ⟨obl_ld rfl rfl rfl (v_load rfl (hb.rdN st)), obl_ld rfl rfl rfl (v_load rfl (ha.rdN st)), trivial⟩ rfl ?_
  refine wl_box (v := .agg (trC (Tr.n (.f a b)) z32 z32 (ptrP pa) (ptrP pb) (Tr.root (.f a b)))) rfl st rfl ?_
  intro b' w st
  obtain ⟨m2, hg2, hm2, st⟩ := st.freeze (i := 0) rfl (by simp)
  have ha := ha.mono hg2.le
  have hb := hb.mono hg2.le
  refine wl_nil ⟨rfl, ?_⟩
  refine fl_eff1 23 [] [] (by kernel_rfl) ⟨obl_ld rfl rfl rfl (v_load rfl (hb.rdN st)), obl_ld rfl rfl rfl (v_load rfl (ha.rdN st)), trivial⟩ rfl ?_
  refine wl_val (v_assign' (by conv => (lhs; whnf))) rfl ?_
  refine wl_nil ⟨rfl, ?_⟩
  refine fl_nil (by kernel_rfl) trivial ?_
  refine then_go ?_
  refine wc_ret ?_
  exact ret1 rfl (st.out ⟨b', rfl, .mkF ha hb hm2⟩)
end
end Go.Proofs.Ytkbmhhbclbgdpaa
