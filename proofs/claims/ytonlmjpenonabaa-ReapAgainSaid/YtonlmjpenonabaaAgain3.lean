/-
  Several texts as one: Ub Uc Ud V Uw Ze Uz Uy Zf Zg Zh Zi Ue Pb Uf Ug Uh Ui Uj Uk Up Uq Ur Us Ut Uu Uv Ux Ea Eb Ec Ed Eg.
-/
import Derived.ProofKit
import Derived.Deep.Slices
import Derived.OpenShut
import Derived.WideShapes
import Derived.ChangeShapes
import Derived.Maps.Keyed
import Derived.DeepKeys4
import Derived.Maps.RangeRun
import Derived.Test.YtonlmjpenonabaaAgain2

namespace Go.Proofs.Ytonlmjpenonabaa
open Go Go.RowKit K SH PT
theorem comF_le (a b : By) : ∀ f k, comF a b f k ≤ f + k
 | 0, k => by simp [comF]
 | f + 1, k => by
  rw [comF]
  split
  ·have := comF_le a b f (k + 1); omega
  ·omega
theorem common_le (a b : By) : common a b ≤ 256 := comF_le a b 256 0
namespace Tr
def fork2 (i : By) (x y : Tr) (k : Int) : Tr := if bitI i k = true then .f y x else .f x y
def wrap (i : By) (d : Nat) (t : Tr) : Tr := if bitI i d = true then .f .e t else .f t .e
def joinW (i : By) (d : Nat) : Nat → Tr → Tr
 | 0, t => t
 | k + 1, t => joinW i d k (wrap i (d + k) t)
def join (i v j u : By) (d : Nat) : Tr := joinW i d (common i j - d) (fork2 i (.l i v) (.l j u) (common i j))
def put (j u : By) : Tr → Nat → Tr
 | .e, _ => .l j u
 | .l i v, d => if i = j then .l j u else join i v j u d
 | .f a b, d => if bitI j d = true then .f a (put j u b (d + 1)) else .f (put j u a (d + 1)) b
inductive ok : Tr → Prop
 | mkE : ok .e
 | mkL {i v : By} : ok (.l i v)
 | mkF {a b : Tr} : 2 ≤ a.n + b.n → ok a → ok b → ok (.f a b)
theorem ok.fork {a b : Tr} (h : (Tr.f a b).ok) : 2 ≤ a.n + b.n ∧ a.ok ∧ b.ok := by
 cases h with
 | mkF h1 h2 h3 => exact ⟨h1, h2, h3⟩
theorem n_fork2 {i : By} {x y : Tr} {k : Int} : (fork2 i x y k).n = x.n + y.n := by unfold fork2; split <;> simp [n, Nat.add_comm]
theorem n_wrap {i : By} {d : Nat} {t : Tr} : (wrap i d t).n = t.n := by unfold wrap; split <;> simp [n]
theorem n_joinW {i : By} {d : Nat} : ∀ {k : Nat} {t : Tr}, (joinW i d k t).n = t.n
 | 0, _ => rfl
 | k + 1, t => by rw [joinW, n_joinW, n_wrap]
theorem n_join {i v j u : By} {d : Nat} : (join i v j u d).n = 2 := by rw [join, n_joinW, n_fork2]; rfl
theorem n_put {j u : By} : ∀ {t : Tr} {d : Nat}, (put j u t d).n ≤ t.n + 1
 | .e, _ => by simp [put, n]
 | .l _ _, _ => by rw [put]; split <;> simp [n, n_join]
 | .f a b, d => by
  rw [put]
  have h1 := n_put (j := j) (u := u) (t := a) (d := d + 1)
  have h2 := n_put (j := j) (u := u) (t := b) (d := d + 1)
  split <;> simp only [n] <;> omega
end Tr
section
variable {m : Mem} {wI : World}
theorem c_fork2 {pa pb : Nat} {i v : By} {b : Tr} {k : Int} (him : Im m wI) (ha : TreeM m pa (.l i v)) (hb : TreeM m pb b) (hn : b.n < 4611686018427387) : Ret Try.prog 85 #[ptrP pa, ptrP pb, .int .i64 k] wI fun v' w' => Out m wI w' fun m' => ∃ p, v' = ptrP p ∧ TreeM m' p (Tr.fork2 i (.l i v) b k) := by
 have st := St.start him
 refine ret_of Try.call85 Try.func85 rfl Try.ntmps85 Try.results85 rfl ?_
 refine wc_seq ?_
 refine wc_region ?_
 refine wl_val (v_assign' (by conv => (lhs; whnf))) rfl ?_
 refine wl_nil ?_
 refine then_go ?_
 refine wc_seq ?_
 refine wc_seq ?_
 refine wc_region ?_
 refine wl_val (v_move' (by conv => (lhs; whnf))) rfl ?_
 refine wl_val (v_nil rfl) rfl ?_
 refine wl_val (v_fa TF.f97_1 rfl) rfl ?_
 refine wl_val (v_load rfl (ha.rdI st)) rfl ?_
 refine wl_val (v_move' (by conv => (lhs; whnf))) rfl ?_
 refine wl_call rfl (c_bit st.im ha.leaf.1) rfl ?_
 rintro v12 w ⟨t, rfl⟩
 have st := st.pure t
 refine wl_nil ?_
 refine then_go ?_
 refine wc_cond rfl (fun h12 => ?_) (fun h12 => ?_)
 ·refine wc_seq ?_
  refine wc_region ?_
  refine wl_val (v_move' (by conv => (lhs; whnf))) rfl ?_
  refine wl_val (v_move' (by conv => (lhs; whnf))) rfl ?_
  refine wl_call rfl (c_fork st.im hb ha (by simp only [Tr.n]; omega)) rfl ?_
  rintro v15 w ⟨t, m1, hg1, hi1, p, rfl, hp⟩
  have st := st.grown hg1 t hi1
  refine wl_val (v_assign' (by conv => (lhs; whnf))) rfl ?_
  refine wl_nil ?_
  refine then_go ?_
  refine wc_ret (then_ret ?_)
  exact ret1 rfl (st.out ⟨p, rfl, by rw [Tr.fork2, if_pos h12]; exact hp⟩)
 ·refine wc_skip ?_
  refine then_go ?_
  refine wc_seq ?_
  refine wc_region ?_
  refine wl_val (v_move' (by conv => (lhs; whnf))) rfl ?_
  refine wl_val (v_move' (by conv => (lhs; whnf))) rfl ?_
  refine wl_call rfl (c_fork st.im ha hb (by simp only [Tr.n]; omega)) rfl ?_
  rintro v15 w ⟨t, m1, hg1, hi1, p, rfl, hp⟩
  have st := st.grown hg1 t hi1
  refine wl_val (v_assign' (by conv => (lhs; whnf))) rfl ?_
  refine wl_nil ?_
  refine then_go ?_
  refine wc_ret ?_
  exact ret1 rfl (st.out ⟨p, rfl, by rw [Tr.fork2, if_neg (by rw [h12]; simp)]; exact hp⟩)
theorem c_tjoin {pa pb : Nat} {i v j u : By} {d : Nat} (him : Im m wI) (ha : TreeM m pa (.l i v)) (hb : TreeM m pb (.l j u)) (hd : d < 4611686018427387904) : Ret Try.prog 65 #[ptrP pa, ptrP pb, .int .i64 d] wI fun v' w' => Out m wI w' fun m' => ∃ p, v' = ptrP p ∧ TreeM m' p (Tr.join i v j u d) := by
 have st := St.start him
 have hc := common_le i j
 obtain ⟨c, hcj⟩ : ∃ c, c = common i j := ⟨_, rfl⟩
 rw [← hcj] at hc
 have hj0 : Tr.joinW i d (c - d) (Tr.fork2 i (.l i v) (.l j u) (c : Int)) = Tr.join i v j u d := by unfold Tr.join; rw [hcj]
 have hn0 : (Tr.fork2 i (.l i v) (.l j u) (c : Int)).n = 2 := by rw [Tr.n_fork2]; rfl
 refine ret_of Try.call65 Try.func65 rfl Try.ntmps65 Try.results65 rfl ?_
 refine wc_seq ?_
 refine wc_region ?_
 refine wl_val (v_assign' (by conv => (lhs; whnf))) rfl ?_
 refine wl_nil ?_
 refine then_go ?_
 refine wc_seq ?_
 refine wc_draw TF.mixed ?_
 have st := st.pure (touch_drew _)
 refine fl_val 0 rfl (fun _ => (v_move' (by conv => (lhs; whnf)))) rfl (by kernel_rfl) ?_
 refine fl_val 1 rfl (fun _ => (v_move' (by conv => (lhs; whnf)))) rfl (by kernel_rfl) ?_
 refine fl_val 2 rfl (fun _ => (v_move' (by conv => (lhs; whnf)))) rfl (by kernel_rfl) ?_
 refine fl_val 3 rfl (fun _ => (v_nil rfl)) rfl (by kernel_rfl) ?_
 refine fl_val 4 rfl (fun _ => (v_fa TF.f97_1 rfl)) rfl (by kernel_rfl) ?_
 refine fl_ld 5 rfl (v_load rfl (ha.rdI st)) (by kernel_rfl) ?_
 refine fl_val 6 rfl (fun _ => (v_move' (by conv => (lhs; whnf)))) rfl (by kernel_rfl) ?_
 refine fl_val 7 rfl (fun _ => (v_nil rfl)) rfl (by kernel_rfl) ?_
 refine fl_val 8 rfl (fun _ => (v_fa TF.f97_1 rfl)) rfl (by kernel_rfl) ?_
 refine fl_ld 9 rfl (v_load rfl (hb.rdI st)) (by kernel_rfl) ?_
 refine fl_eff1 10 [8, 7, 6, 4, 3, 2, 1, 0] [] (by kernel_rfl) ⟨obl_ld rfl rfl rfl (v_load rfl (hb.rdI st)), obl_ld rfl rfl rfl (v_load rfl (ha.rdI st)), trivial⟩ rfl ?_
 refine wl_call rfl (c_common st.im ha.leaf.1 hb.leaf.1) rfl ?_
 rintro v19 w ⟨t, rfl⟩
 rw [← hcj]
 have st := st.pure t
 refine wl_nil ⟨rfl, ?_⟩
 refine fl_eff1 11 [8, 7, 6, 4, 3, 2] [] (by kernel_rfl) trivial rfl ?_
 refine wl_call rfl (c_fork2 st.im ha hb (by simp [Tr.n])) rfl ?_
 rintro v20 w ⟨t, m1, hg1, hi1, p1, rfl, hp1⟩
 have st := st.grown hg1 t hi1
 have ha := ha.mono hg1.le
 have hb := hb.mono hg1.le
 refine wl_nil ⟨rfl, ?_⟩
 refine fl_eff1 12 [] [] (by kernel_rfl) trivial rfl ?_
 refine wl_val (v_assign' (by conv => (lhs; whnf))) rfl ?_
 refine wl_nil ⟨rfl, ?_⟩
 refine fl_nil (by kernel_rfl) trivial ?_
 refine then_go ?_
 refine wc_seq ?_
 refine wc_seq ?_
 refine wc_draw TF.mixed ?_
 have st := st.pure (touch_drew _)
 refine fl_val 0 rfl (fun _ => (v_move' (by conv => (lhs; whnf)))) rfl (by kernel_rfl) ?_
 refine fl_val 1 rfl (fun _ => (v_nil rfl)) rfl (by kernel_rfl) ?_
 refine fl_val 2 rfl (fun _ => (v_fa TF.f97_1 rfl)) rfl (by kernel_rfl) ?_
 refine fl_ld 3 rfl (v_load rfl (ha.rdI st)) (by kernel_rfl) ?_
 refine fl_val 4 rfl (fun _ => (v_move' (by conv => (lhs; whnf)))) rfl (by kernel_rfl) ?_
 refine fl_val 5 rfl (fun _ => (v_nil rfl)) rfl (by kernel_rfl) ?_
 refine fl_val 6 rfl (fun _ => (v_fa TF.f97_1 rfl)) rfl (by kernel_rfl) ?_
 refine fl_ld 7 rfl (v_load rfl (hb.rdI st)) (by kernel_rfl) ?_
 refine fl_eff1 8 [6, 5, 4, 2, 1, 0] [] (by kernel_rfl) ⟨obl_ld rfl rfl rfl (v_load rfl (hb.rdI st)), obl_ld rfl rfl rfl (v_load rfl (ha.rdI st)), trivial⟩ rfl ?_
 refine wl_call rfl (c_common st.im ha.leaf.1 hb.leaf.1) rfl ?_
 rintro v19 w ⟨t, rfl⟩
 rw [← hcj]
 have st := st.pure t
 refine wl_nil ⟨rfl, ?_⟩
 refine fl_val 9 rfl (fun _ => (v_sub' rfl rfl rfl (by first | omega | (dsimp only at *; omega)) (by first | omega | (dsimp only at *; omega)))) rfl (by kernel_rfl) ?_
 refine fl_eff1 10 [] [] (by kernel_rfl) trivial rfl ?_
 refine wl_val (v_assign' (by conv => (lhs; whnf))) rfl ?_
 refine wl_nil ⟨rfl, ?_⟩
 refine fl_nil (by kernel_rfl) trivial ?_
 refine then_go ?_
 refine wc_block ?_
 refine wc_loop (S := Nat) (fun q r w' => ∃ (m2 : Mem) (k : Nat) (z : Int) (t : Tr) (p : Nat), q = k ∧ r 0 = ptrP pa ∧ r 2 = .int .i64 d ∧ r 7 = ptrP p ∧ r 8 = .int .i64 z ∧ (z = d + k - 1 ∨ k = 0 ∧ z < d ∧ -1 ≤ z) ∧ k ≤ 256 ∧ t.n = 2 ∧ Tr.joinW i d k t = Tr.join i v j u d ∧ TreeM m2 pa (.l i v) ∧ TreeM m2 p t ∧ St m m2 [] wI w' []) id (c - d) ⟨m1, c - d, (c : Int) - 1, Tr.fork2 i (.l i v) (.l j u) (c : Int), p1, rfl, rfl, rfl, rfl, rfl, by omega, by omega, hn0, hj0, ha, hp1, st⟩ ?_
 rintro q r w2 ⟨m2, k, z, t, p, hqk, h0, h2, h7, h8, hz, hk, htn, htj, ha, hp, st⟩
 refine wc_o 0 h0 (wc_o 2 h2 (wc_o 7 h7 (wc_o 8 h8 ?_)))
 refine wc_seq ?_
 refine wc_seq ?_
 refine wc_region ?_
 refine wl_val (v_move' (by conv => (lhs; whnf))) rfl ?_
 refine wl_val (v_move' (by conv => (lhs; whnf))) rfl ?_
 refine wl_val (v_geq rfl rfl) rfl ?_
 refine wl_nil ?_
 refine then_go ?_
 refine wc_if rfl (fun h33 => ?_) (fun h33 => ?_)
 ·refine wc_skip ?_
  refine then_go ?_
  refine wc_seq ?_
  refine wc_block ?_
  refine wc_seq ?_
  obtain ⟨k', rfl⟩ : ∃ k', k = k' + 1 := ⟨k - 1, by omega⟩
  have hz' : z = ((d + k' : Nat) : Int) := by omega
  rw [Tr.joinW] at htj
  refine wc_region ?_
  refine wl_val (v_move' (by conv => (lhs; whnf))) rfl ?_
  refine wl_val (v_nil rfl) rfl ?_
  refine wl_val (v_fa TF.f97_1 rfl) rfl ?_
  refine wl_val (v_load rfl (ha.rdI st)) rfl ?_
  refine wl_val (v_move' (by conv => (lhs; whnf))) rfl ?_
  refine wl_call rfl (c_bit st.im ha.leaf.1) rfl ?_
  rintro v41 w ⟨t41, rfl⟩
  have st := st.pure t41
  refine wl_nil ?_
  refine then_go ?_
  refine wc_cond rfl (fun h41 => ?_) (fun h41 => ?_)
  ·refine wc_region ?_
   refine wl_call rfl (c_tempty st.im) rfl ?_
   rintro v42 w ⟨t42, m3, hg3, hi3, p3, rfl, hp3⟩
   have st := st.grown hg3 t42 hi3
   have ha := ha.mono hg3.le
   have hp := hp.mono hg3.le
   refine wl_val (v_move' (by conv => (lhs; whnf))) rfl ?_
   refine wl_call rfl (c_fork st.im hp3 hp (by simp only [Tr.n]; omega)) rfl ?_
   rintro v44 w ⟨t44, m4, hg4, hi4, p4, rfl, hp4⟩
   have st := st.grown hg4 t44 hi4
   have ha := ha.mono hg4.le
   rw [Tr.wrap, if_pos (by rw [← hz']; exact h41)] at htj
   refine wl_val (v_assign' (by conv => (lhs; whnf))) rfl ?_
   refine wl_nil ?_
   refine block_go (then_go ?_)
   refine wc_region ?_
   refine wl_val (v_move' (by conv => (lhs; whnf))) rfl ?_
   refine wl_val (v_sub' rfl rfl rfl (by first | omega | (dsimp only at *; omega)) (by first | omega | (dsimp only at *; omega))) rfl ?_
   refine wl_val (v_assign' (by conv => (lhs; whnf))) rfl ?_
   refine wl_nil ?_
   refine then_go ?_
   exact ⟨k', by simp; omega, m4, k', _, _, p4, rfl, rfl, rfl, rfl, rfl, by omega, by omega, by simp only [Tr.n]; omega, htj, ha, hp4, st⟩
  ·refine wc_region ?_
   refine wl_val (v_move' (by conv => (lhs; whnf))) rfl ?_
   refine wl_call rfl (c_tempty st.im) rfl ?_
   rintro v42 w ⟨t42, m3, hg3, hi3, p3, rfl, hp3⟩
   have st := st.grown hg3 t42 hi3
   have ha := ha.mono hg3.le
   have hp := hp.mono hg3.le
   refine wl_call rfl (c_fork st.im hp hp3 (by simp only [Tr.n]; omega)) rfl ?_
   rintro v44 w ⟨t44, m4, hg4, hi4, p4, rfl, hp4⟩
   have st := st.grown hg4 t44 hi4
   have ha := ha.mono hg4.le
   rw [Tr.wrap, if_neg (by rw [← hz', h41]; simp)] at htj
   refine wl_val (v_assign' (by conv => (lhs; whnf))) rfl ?_
   refine wl_nil ?_
   refine block_go (then_go ?_)
   refine wc_region ?_
   refine wl_val (v_move' (by conv => (lhs; whnf))) rfl ?_
   refine wl_val (v_sub' rfl rfl rfl (by first | omega | (dsimp only at *; omega)) (by first | omega | (dsimp only at *; omega))) rfl ?_
   refine wl_val (v_assign' (by conv => (lhs; whnf))) rfl ?_
   refine wl_nil ?_
   refine then_go ?_
   exact ⟨k', by simp; omega, m4, k', _, _, p4, rfl, rfl, rfl, rfl, rfl, by omega, by omega, by simp only [Tr.n]; omega, htj, ha, hp4, st⟩
 ·refine wc_exit (then_exit (then_exit (block_hit ?_)))
  refine then_go ?_
  refine wc_seq ?_
  refine wc_region ?_
  refine wl_val (v_move' (by conv => (lhs; whnf))) rfl ?_
  refine wl_val (v_assign' (by conv => (lhs; whnf))) rfl ?_
  refine wl_nil ?_
  refine then_go ?_
  refine wc_ret ?_
  have hk0 : k = 0 := by omega
  subst hk0
  exact ret1 rfl (st.out ⟨p, rfl, by rw [← htj]; exact hp⟩)
end
end Go.Proofs.Ytonlmjpenonabaa

namespace Go.Proofs.Ytonlmjpenonabaa
open Go Go.RowKit K SH PT
section
variable {j u : By} {px : Nat}
theorem c_put : ∀ {t : Tr} {p d : Nat} {m : Mem} {wI : World}, Im m wI → TreeM m p t → TreeM m px (.l j u) → t.ok → t.n < 4611686018427386 → d + t.ht < 4611686018427386 →
  Ret Try.prog 40 #[ptrP p, ptrP px, .int .i64 d] wI fun v' w' => Out m wI w' fun m' => ∃ q, v' = ptrP q ∧ TreeM m' q (Tr.put j u t d) := by
 intro t
 induction t with
 | e =>
  intro p d m wI him h hx _ hn hd
  have st := St.start him
  refine ret_of Try.call40 Try.func40 rfl Try.ntmps40 Try.results40 rfl ?_
  refine wc_seq ?_
  refine wc_region ?_
  refine wl_val (v_assign' (by conv => (lhs; whnf))) rfl ?_
  refine wl_nil ?_
  refine then_go ?_
  refine wc_seq ?_
  refine wc_block ?_
  refine wc_seq ?_
  refine wc_draw TF.mixed ?_
  have st := st.pure (touch_drew _)
  refine fl_val 0 rfl (fun _ => (v_move' (by conv => (lhs; whnf)))) rfl (by kernel_rfl) ?_
  refine fl_val 1 rfl (fun _ => (v_nil rfl)) rfl (by kernel_rfl) ?_
  refine fl_val 2 rfl (fun _ => (v_fa TF.f97_0 rfl)) rfl (by kernel_rfl) ?_
  refine fl_ld 3 rfl (v_load rfl (h.rdN st)) (by kernel_rfl) ?_
  refine fl_val 4 rfl (fun _ => (v_eqlT (a := ((Tr.n .e : Nat) : Int)) rfl rfl rfl)) rfl (by kernel_rfl) ?_
  refine fl_val 5 rfl (fun _ => (v_move' (by conv => (lhs; whnf)))) rfl (by kernel_rfl) ?_
  refine fl_off 6 rfl rfl rfl rfl rfl rfl (by kernel_rfl) ?_
  refine fl_off 7 rfl rfl rfl rfl rfl rfl (by kernel_rfl) ?_
  refine fl_off 8 rfl rfl rfl rfl rfl rfl (by kernel_rfl) ?_
  refine fl_offd 9 rfl rfl rfl rfl rfl rfl (by kernel_rfl) ?_
  refine fl_off 10 rfl rfl rfl rfl rfl rfl (by kernel_rfl) ?_
  refine fl_off 11 rfl rfl rfl rfl rfl rfl (by kernel_rfl) ?_
  refine fl_u 12 rfl rfl rfl rfl rfl (by kernel_rfl) ?_
  refine fl_u 13 rfl rfl rfl rfl rfl (by kernel_rfl) ?_
  refine fl_u 14 rfl rfl rfl rfl rfl (by kernel_rfl) ?_
  refine fl_ud 15 rfl rfl rfl rfl rfl (by kernel_rfl) ?_
  refine fl_u 16 rfl rfl rfl rfl rfl (by kernel_rfl) ?_
  refine fl_u 17 rfl rfl rfl rfl rfl (by kernel_rfl) ?_
  refine fl_u 18 rfl rfl rfl rfl rfl (by kernel_rfl) ?_
  refine fl_ud 19 rfl rfl rfl rfl rfl (by kernel_rfl) ?_
  refine fl_u 20 rfl rfl rfl rfl rfl (by kernel_rfl) ?_
  refine fl_off 21 rfl rfl rfl rfl rfl rfl (by kernel_rfl) ?_
  refine fl_val 22 rfl (fun _ => (v_pick rfl)) rfl (by kernel_rfl) ?_
  refine fl_eff1 23 [21, 20, 18, 17, 16, 14, 13, 12, 10, 8, 7, 6, 5, 4, 2, 1, 0] [19, 15, 9, 3] (by kernel_rfl) ⟨obl_u rfl rfl rfl rfl rfl, obl_u rfl rfl rfl rfl rfl, obl_off rfl rfl rfl rfl rfl rfl, obl_ld rfl rfl rfl (v_load rfl (h.rdN st)), trivial⟩ rfl ?_
  refine wl_val (v_assign' (by conv => (lhs; whnf))) rfl ?_
  refine wl_nil ⟨rfl, ?_⟩
  refine fl_nil (by kernel_rfl) ⟨obl_u rfl rfl rfl rfl rfl, obl_u rfl rfl rfl rfl rfl, obl_off rfl rfl rfl rfl rfl rfl, obl_ld rfl rfl rfl (v_load rfl (h.rdN st)), trivial⟩ ?_
  refine then_go ?_
  refine wc_true rfl ?_
  refine wc_seq ?_
  refine wc_region ?_
  refine wl_val (v_move' (by conv => (lhs; whnf))) rfl ?_
  refine wl_val (v_assign' (by conv => (lhs; whnf))) rfl ?_
  refine wl_nil ?_
  refine then_go ?_
  refine wc_ret (block_ret (then_ret ?_))
  exact ret1 rfl (st.out ⟨px, rfl, hx⟩)
 | l i v =>
  intro p d m wI him h hx _ hn hd
  have st := St.start him
  refine ret_of Try.call40 Try.func40 rfl Try.ntmps40 Try.results40 rfl ?_
  refine wc_seq ?_
  refine wc_region ?_
  refine wl_val (v_assign' (by conv => (lhs; whnf))) rfl ?_
  refine wl_nil ?_
  refine then_go ?_
  refine wc_seq ?_
  refine wc_block ?_
  refine wc_seq ?_
  refine wc_draw TF.mixed ?_
  have st := st.pure (touch_drew _)
  refine fl_val 0 rfl (fun _ => (v_move' (by conv => (lhs; whnf)))) rfl (by kernel_rfl) ?_
  refine fl_val 1 rfl (fun _ => (v_nil rfl)) rfl (by kernel_rfl) ?_
  refine fl_val 2 rfl (fun _ => (v_fa TF.f97_0 rfl)) rfl (by kernel_rfl) ?_
  refine fl_ld 3 rfl (v_load rfl (h.rdN st)) (by kernel_rfl) ?_
  refine fl_val 4 rfl (fun _ => (v_eqlF (a := ((Tr.n (.l i v) : Nat) : Int)) (by simp [Tr.n]) rfl rfl)) rfl (by kernel_rfl) ?_
  refine fl_val 5 rfl (fun _ => (v_move' (by conv => (lhs; whnf)))) rfl (by kernel_rfl) ?_
  refine fl_on 6 rfl rfl rfl rfl (fun _ => (v_move' (by conv => (lhs; whnf)))) rfl (by kernel_rfl) ?_
  refine fl_on 7 rfl rfl rfl rfl (fun _ => (v_nil rfl)) rfl (by kernel_rfl) ?_
  refine fl_on 8 rfl rfl rfl rfl (fun _ => (v_fa TF.f97_0 rfl)) rfl (by kernel_rfl) ?_
  refine fl_ond 9 rfl rfl rfl rfl (v_load rfl (h.rdN st)) rfl (by kernel_rfl) ?_
  refine fl_on 10 rfl rfl rfl rfl (fun _ => (v_eqlT (a := ((Tr.n (.l i v) : Nat) : Int)) rfl rfl rfl)) rfl (by kernel_rfl) ?_
  refine fl_on 11 rfl rfl rfl rfl (fun _ => (v_move' (by conv => (lhs; whnf)))) rfl (by kernel_rfl) ?_
  refine fl_on 12 rfl rfl rfl rfl (fun _ => (v_move' (by conv => (lhs; whnf)))) rfl (by kernel_rfl) ?_
  refine fl_on 13 rfl rfl rfl rfl (fun _ => (v_nil rfl)) rfl (by kernel_rfl) ?_
  refine fl_on 14 rfl rfl rfl rfl (fun _ => (v_fa TF.f97_1 rfl)) rfl (by kernel_rfl) ?_
  refine fl_ond 15 rfl rfl rfl rfl (v_load rfl (h.rdI st)) rfl (by kernel_rfl) ?_
  refine fl_on 16 rfl rfl rfl rfl (fun _ => (v_move' (by conv => (lhs; whnf)))) rfl (by kernel_rfl) ?_
  refine fl_on 17 rfl rfl rfl rfl (fun _ => (v_nil rfl)) rfl (by kernel_rfl) ?_
  refine fl_on 18 rfl rfl rfl rfl (fun _ => (v_fa TF.f97_1 rfl)) rfl (by kernel_rfl) ?_
  refine fl_ond 19 rfl rfl rfl rfl (v_load rfl (hx.rdI st)) rfl (by kernel_rfl) ?_
  refine fl_on 20 rfl rfl rfl rfl (fun _ => (v_eq_arr Try.underlying28 TF.t5 Try.underlying5 TF.e28 rfl rfl h.leaf.1 hx.leaf.1)) rfl (by kernel_rfl) ?_
  refine fl_on 21 rfl rfl rfl rfl (fun _ => (v_pick rfl)) rfl (by kernel_rfl) ?_
  refine fl_val 22 rfl (fun _ => (v_pick rfl)) rfl (by kernel_rfl) ?_
  refine fl_eff1 23 [21, 20, 18, 17, 16, 14, 13, 12, 10, 8, 7, 6, 5, 4, 2, 1, 0] [19, 15, 9, 3] (by kernel_rfl) ⟨obl_on rfl rfl rfl rfl rfl (v_load rfl (hx.rdI st)), obl_on rfl rfl rfl rfl rfl (v_load rfl (h.rdI st)), obl_on rfl rfl rfl rfl rfl (v_load rfl (h.rdN st)), obl_ld rfl rfl rfl (v_load rfl (h.rdN st)), trivial⟩ rfl ?_
  refine wl_val (v_assign' (by conv => (lhs; whnf))) rfl ?_
  refine wl_nil ⟨rfl, ?_⟩
  refine fl_nil (by kernel_rfl) ⟨obl_on rfl rfl rfl rfl rfl (v_load rfl (hx.rdI st)), obl_on rfl rfl rfl rfl rfl (v_load rfl (h.rdI st)), obl_on rfl rfl rfl rfl rfl (v_load rfl (h.rdN st)), obl_ld rfl rfl rfl (v_load rfl (h.rdN st)), trivial⟩ ?_
  refine then_go ?_
  refine wc_if rfl (fun h7 => ?_) (fun h7 => ?_)
  ·refine wc_seq ?_
   refine wc_region ?_
   refine wl_val (v_move' (by conv => (lhs; whnf))) rfl ?_
   refine wl_val (v_assign' (by conv => (lhs; whnf))) rfl ?_
   refine wl_nil ?_
   refine then_go ?_
   refine wc_ret (block_ret (then_ret ?_))
   exact ret1 rfl (st.out ⟨px, rfl, by rw [Tr.put, if_pos h7]; exact hx⟩)
  ·refine wc_seq ?_
   refine wc_region ?_
   refine wl_val (v_move' (by conv => (lhs; whnf))) rfl ?_
   refine wl_val (v_nil rfl) rfl ?_
   refine wl_val (v_fa TF.f97_0 rfl) rfl ?_
   refine wl_val (v_load rfl (h.rdN st)) rfl ?_
   refine wl_val (v_eqlT (a := ((Tr.n (.l i v) : Nat) : Int)) rfl rfl rfl) rfl ?_
   refine wl_val (v_assign' (by conv => (lhs; whnf))) rfl ?_
   refine wl_nil ?_
   refine then_go ?_
   refine wc_true rfl ?_
   refine wc_seq ?_
   refine wc_region ?_
   refine wl_val (v_move' (by conv => (lhs; whnf))) rfl ?_
   refine wl_val (v_move' (by conv => (lhs; whnf))) rfl ?_
   refine wl_val (v_move' (by conv => (lhs; whnf))) rfl ?_
   refine wl_call rfl (c_tjoin st.im h hx (by omega)) rfl ?_
   rintro v41 w ⟨t, m1, hg1, hi1, q, rfl, hq⟩
   have st := st.grown hg1 t hi1
   refine wl_val (v_assign' (by conv => (lhs; whnf))) rfl ?_
   refine wl_nil ?_
   refine then_go ?_
   refine wc_ret (block_ret (then_ret ?_))
   exact ret1 rfl (st.out ⟨q, rfl, by rw [Tr.put, if_neg h7]; exact hq⟩)
 | f a b iha ihb =>
  intro p d m wI him h hx hok hn hd
  have st := St.start him
  obtain ⟨h2, hoa, hob⟩ := hok.fork
  obtain ⟨pa, pb, ha, hb, hm⟩ := h.fork
  have hna : a.n < 4611686018427386 := by simp only [Tr.n] at hn; omega
  have hnb : b.n < 4611686018427386 := by simp only [Tr.n] at hn; omega
  have hha : d + 1 + a.ht < 4611686018427386 := by simp only [Tr.ht] at hd; omega
  have hhb : d + 1 + b.ht < 4611686018427386 := by simp only [Tr.ht] at hd; omega
  have hpa := Tr.n_put (j := j) (u := u) (t := a) (d := d + 1)
  have hpb := Tr.n_put (j := j) (u := u) (t := b) (d := d + 1)
  refine ret_of Try.call40 Try.func40 rfl Try.ntmps40 Try.results40 rfl ?_
  refine wc_seq ?_
  refine wc_region ?_
  refine wl_val (v_assign' (by conv => (lhs; whnf))) rfl ?_
  refine wl_nil ?_
  refine then_go ?_
  refine wc_seq ?_
  refine wc_block ?_
  refine wc_seq ?_
  refine wc_draw TF.mixed ?_
  have st := st.pure (touch_drew _)
  refine fl_val 0 rfl (fun _ => (v_move' (by conv => (lhs; whnf)))) rfl (by kernel_rfl) ?_
  refine fl_val 1 rfl (fun _ => (v_nil rfl)) rfl (by kernel_rfl) ?_
  refine fl_val 2 rfl (fun _ => (v_fa TF.f97_0 rfl)) rfl (by kernel_rfl) ?_
  refine fl_ld 3 rfl (v_load rfl (h.rdN st)) (by kernel_rfl) ?_
  refine fl_val 4 rfl (fun _ => (v_eqlF (a := ((Tr.n (.f a b) : Nat) : Int)) (by simp only [Tr.n]; omega) rfl rfl)) rfl (by kernel_rfl) ?_
  refine fl_val 5 rfl (fun _ => (v_move' (by conv => (lhs; whnf)))) rfl (by kernel_rfl) ?_
  refine fl_on 6 rfl rfl rfl rfl (fun _ => (v_move' (by conv => (lhs; whnf)))) rfl (by kernel_rfl) ?_
  refine fl_on 7 rfl rfl rfl rfl (fun _ => (v_nil rfl)) rfl (by kernel_rfl) ?_
  refine fl_on 8 rfl rfl rfl rfl (fun _ => (v_fa TF.f97_0 rfl)) rfl (by kernel_rfl) ?_
  refine fl_ond 9 rfl rfl rfl rfl (v_load rfl (h.rdN st)) rfl (by kernel_rfl) ?_
  refine fl_on 10 rfl rfl rfl rfl (fun _ => (v_eqlF (a := ((Tr.n (.f a b) : Nat) : Int)) (by simp only [Tr.n]; omega) rfl rfl)) rfl (by kernel_rfl) ?_
  refine fl_on 11 rfl rfl rfl rfl (fun _ => (v_move' (by conv => (lhs; whnf)))) rfl (by kernel_rfl) ?_
  refine fl_off 12 rfl rfl rfl rfl rfl rfl (by kernel_rfl) ?_
  refine fl_off 13 rfl rfl rfl rfl rfl rfl (by kernel_rfl) ?_
  refine fl_off 14 rfl rfl rfl rfl rfl rfl (by kernel_rfl) ?_
  refine fl_offd 15 rfl rfl rfl rfl rfl rfl (by kernel_rfl) ?_
  refine fl_off 16 rfl rfl rfl rfl rfl rfl (by kernel_rfl) ?_
  refine fl_off 17 rfl rfl rfl rfl rfl rfl (by kernel_rfl) ?_
  refine fl_off 18 rfl rfl rfl rfl rfl rfl (by kernel_rfl) ?_
  refine fl_offd 19 rfl rfl rfl rfl rfl rfl (by kernel_rfl) ?_
  refine fl_off 20 rfl rfl rfl rfl rfl rfl (by kernel_rfl) ?_
  refine fl_on 21 rfl rfl rfl rfl (fun _ => (v_pick rfl)) rfl (by kernel_rfl) ?_
  refine fl_val 22 rfl (fun _ => (v_pick rfl)) rfl (by kernel_rfl) ?_
  refine fl_eff1 23 [21, 20, 18, 17, 16, 14, 13, 12, 10, 8, 7, 6, 5, 4, 2, 1, 0] [19, 15, 9, 3] (by kernel_rfl) ⟨obl_off rfl rfl rfl rfl rfl rfl, obl_off rfl rfl rfl rfl rfl rfl, obl_on rfl rfl rfl rfl rfl (v_load rfl (h.rdN st)), obl_ld rfl rfl rfl (v_load rfl (h.rdN st)), trivial⟩ rfl ?_
  refine wl_val (v_assign' (by conv => (lhs; whnf))) rfl ?_
  refine wl_nil ⟨rfl, ?_⟩
  refine fl_nil (by kernel_rfl) ⟨obl_off rfl rfl rfl rfl rfl rfl, obl_off rfl rfl rfl rfl rfl rfl, obl_on rfl rfl rfl rfl rfl (v_load rfl (h.rdN st)), obl_ld rfl rfl rfl (v_load rfl (h.rdN st)), trivial⟩ ?_
  refine then_go ?_
  refine wc_false rfl ?_
  refine wc_seq ?_
  refine wc_region ?_
  refine wl_val (v_move' (by conv => (lhs; whnf))) rfl ?_
  refine wl_val (v_nil rfl) rfl ?_
  refine wl_val (v_fa TF.f97_0 rfl) rfl ?_
  refine wl_val (v_load rfl (h.rdN st)) rfl ?_
  refine wl_val (v_eqlF (a := ((Tr.n (.f a b) : Nat) : Int)) (by simp only [Tr.n]; omega) rfl rfl) rfl ?_
  refine wl_val (v_assign' (by conv => (lhs; whnf))) rfl ?_
  refine wl_nil ?_
  refine then_go ?_
  refine wc_false rfl ?_
  refine wc_seq ?_
  refine wc_region ?_
  refine wl_val (v_move' (by conv => (lhs; whnf))) rfl ?_
  refine wl_val (v_nil rfl) rfl ?_
  refine wl_val (v_fa TF.f97_1 rfl) rfl ?_
  refine wl_val (v_load rfl (hx.rdI st)) rfl ?_
  refine wl_val (v_move' (by conv => (lhs; whnf))) rfl ?_
  refine wl_call rfl (c_bit st.im hx.leaf.1) rfl ?_
  rintro v48 w ⟨t48, rfl⟩
  have st := st.pure t48
  refine wl_val (v_assign' (by conv => (lhs; whnf))) rfl ?_
  refine wl_nil ?_
  refine then_go ?_
  refine wc_cond rfl (fun h42 => ?_) (fun h42 => ?_)
  ·refine wc_seq ?_
   refine wc_draw TF.mixed ?_
   have st := st.pure (touch_drew _)
   refine fl_val 0 rfl (fun _ => (v_move' (by conv => (lhs; whnf)))) rfl (by kernel_rfl) ?_
   refine fl_val 1 rfl (fun _ => (v_nil rfl)) rfl (by kernel_rfl) ?_
   refine fl_val 2 rfl (fun _ => (v_fa TF.f97_3 rfl)) rfl (by kernel_rfl) ?_
   refine fl_ld 3 rfl (v_load rfl (rdLp hm st)) (by kernel_rfl) ?_
   refine fl_val 4 rfl (fun _ => (v_move' (by conv => (lhs; whnf)))) rfl (by kernel_rfl) ?_
   refine fl_val 5 rfl (fun _ => (v_nil rfl)) rfl (by kernel_rfl) ?_
   refine fl_val 6 rfl (fun _ => (v_fa TF.f97_4 rfl)) rfl (by kernel_rfl) ?_
   refine fl_ld 7 rfl (v_load rfl (rdRp hm st)) (by kernel_rfl) ?_
   refine fl_val 8 rfl (fun _ => (v_move' (by conv => (lhs; whnf)))) rfl (by kernel_rfl) ?_
   refine fl_val 9 rfl (fun _ => (v_move' (by conv => (lhs; whnf)))) rfl (by kernel_rfl) ?_
   refine fl_val 10 rfl (fun _ => (v_add' rfl rfl rfl (by first | omega | (dsimp only at *; omega)) (by first | omega | (dsimp only at *; omega)))) rfl (by kernel_rfl) ?_
   refine fl_eff1 11 [9, 6, 5, 4, 2, 1, 0] [3] (by kernel_rfl) ⟨obl_ld rfl rfl rfl (v_load rfl (rdRp hm st)), obl_ld rfl rfl rfl (v_load rfl (rdLp hm st)), trivial⟩ rfl ?_
   refine wl_call rfl (ihb (d := d + 1) st.im hb hx hob hnb hhb) rfl ?_
   rintro v60 w ⟨t60, m1, hg1, hi1, q, rfl, hq⟩
   have st := st.grown hg1 t60 hi1
   have hm := hg1.le _ _ hm
   have ha := ha.mono hg1.le
   refine wl_nil ⟨rfl, ?_⟩
   refine fl_eff1 12 [9, 6, 5, 4, 2, 1, 0] [] (by kernel_rfl) ⟨obl_ld rfl rfl rfl (v_load rfl (rdLp hm st)), trivial⟩ rfl ?_
   refine wl_call rfl (c_fork st.im ha hq (by simp only [Tr.n] at hn; omega)) rfl ?_
   rintro v61 w ⟨t61, m2, hg2, hi2, q2, rfl, hq2⟩
   have st := st.grown hg2 t61 hi2
   have hm := hg2.le _ _ hm
   refine wl_nil ⟨rfl, ?_⟩
   refine fl_eff1 13 [] [] (by kernel_rfl) trivial rfl ?_
   refine wl_val (v_assign' (by conv => (lhs; whnf))) rfl ?_
   refine wl_nil ⟨rfl, ?_⟩
   refine fl_nil (by kernel_rfl) trivial ?_
   refine then_go ?_
   refine wc_ret (block_ret (then_ret ?_))
   exact ret1 rfl (st.out ⟨q2, rfl, by rw [Tr.put, if_pos h42]; exact hq2⟩)
  ·refine wc_skip ?_
   refine block_go (then_go ?_)
   refine wc_seq ?_
   refine wc_draw TF.mixed ?_
   have st := st.pure (touch_drew _)
   refine fl_val 0 rfl (fun _ => (v_move' (by conv => (lhs; whnf)))) rfl (by kernel_rfl) ?_
   refine fl_val 1 rfl (fun _ => (v_nil rfl)) rfl (by kernel_rfl) ?_
   refine fl_val 2 rfl (fun _ => (v_fa TF.f97_3 rfl)) rfl (by kernel_rfl) ?_
   refine fl_ld 3 rfl (v_load rfl (rdLp hm st)) (by kernel_rfl) ?_
   refine fl_val 4 rfl (fun _ => (v_move' (by conv => (lhs; whnf)))) rfl (by kernel_rfl) ?_
   refine fl_val 5 rfl (fun _ => (v_move' (by conv => (lhs; whnf)))) rfl (by kernel_rfl) ?_
   refine fl_val 6 rfl (fun _ => (v_add' rfl rfl rfl (by first | omega | (dsimp only at *; omega)) (by first | omega | (dsimp only at *; omega)))) rfl (by kernel_rfl) ?_
   refine fl_val 8 rfl (fun _ => (v_move' (by conv => (lhs; whnf)))) rfl (by kernel_rfl) ?_
   refine fl_val 9 rfl (fun _ => (v_nil rfl)) rfl (by kernel_rfl) ?_
   refine fl_val 10 rfl (fun _ => (v_fa TF.f97_4 rfl)) rfl (by kernel_rfl) ?_
   refine fl_ld 11 rfl (v_load rfl (rdRp hm st)) (by kernel_rfl) ?_
   refine fl_eff1 7 [10, 9, 8, 5, 2, 1, 0] [11] (by kernel_rfl) ⟨obl_ld rfl rfl rfl (v_load rfl (rdRp hm st)), obl_ld rfl rfl rfl (v_load rfl (rdLp hm st)), trivial⟩ rfl ?_
   refine wl_call rfl (iha (d := d + 1) st.im ha hx hoa hna hha) rfl ?_
   rintro v60 w ⟨t60, m1, hg1, hi1, q, rfl, hq⟩
   have st := st.grown hg1 t60 hi1
   have hm := hg1.le _ _ hm
   have hb := hb.mono hg1.le
   refine wl_nil ⟨rfl, ?_⟩
   refine fl_eff1 12 [10, 9, 8, 5, 2, 1, 0] [] (by kernel_rfl) ⟨obl_ld rfl rfl rfl (v_load rfl (rdRp hm st)), trivial⟩ rfl ?_
   refine wl_call rfl (c_fork st.im hq hb (by simp only [Tr.n] at hn; omega)) rfl ?_
   rintro v61 w ⟨t61, m2, hg2, hi2, q2, rfl, hq2⟩
   have st := st.grown hg2 t61 hi2
   have hm := hg2.le _ _ hm
   refine wl_nil ⟨rfl, ?_⟩
   refine fl_eff1 13 [] [] (by kernel_rfl) trivial rfl ?_
   refine wl_val (v_assign' (by conv => (lhs; whnf))) rfl ?_
   refine wl_nil ⟨rfl, ?_⟩
   refine fl_nil (by kernel_rfl) trivial ?_
   refine then_go ?_
   refine wc_ret ?_
   exact ret1 rfl (st.out ⟨q2, rfl, by rw [Tr.put, if_neg (by rw [h42]; simp)]; exact hq2⟩)
theorem c_tput {t : Tr} {p : Nat} {m : Mem} {wI : World} (him : Im m wI) (h : TreeM m p t) (hj : j.length = 32) (hu : u.length = 32) (hok : t.ok) (hn : t.n < 4611686018427386) (hh : t.ht < 4611686018427386) :
  Ret Try.prog 22 #[ptrP p, arr j, arr u] wI fun v' w' => Out m wI w' fun m' => ∃ q, v' = ptrP q ∧ TreeM m' q (Tr.put j u t 0) := by
 have st := St.start him
 refine ret_of Try.call22 Try.func22 rfl Try.ntmps22 Try.results22 rfl ?_
 refine wc_seq ?_
 refine wc_region ?_
 refine wl_box (v := arr j) rfl st rfl ?_
 intro b4 w st
 refine wl_box (v := arr u) rfl st rfl ?_
 intro b5 w st
 refine wl_val (v_assign' (by conv => (lhs; whnf))) rfl ?_
 refine wl_nil ?_
 refine then_go ?_
 refine wc_seq ?_
 refine wc_region ?_
 refine wl_val (v_move' (by conv => (lhs; whnf))) rfl ?_
 refine wl_val (v_load rfl (st.reads 1 rfl TF.t28 (getV_all (by rw [size_arr, hj])))) rfl ?_
 refine wl_val (v_load rfl (st.reads 0 rfl TF.t28 (getV_all (by rw [size_arr, hu])))) rfl ?_
 refine wl_call rfl (c_tleaf st.im hj hu) rfl ?_
 rintro v10 w ⟨t10, m1, hg1, hi1, q, rfl, hq⟩
 have st := st.grown hg1 t10 hi1
 have h := h.mono hg1.le
 refine wl_call rfl (c_put (d := 0) st.im h hq hok hn (by omega)) rfl ?_
 rintro v11 w ⟨t11, m2, hg2, hi2, q2, rfl, hq2⟩
 have st := st.grown hg2 t11 hi2
 refine wl_val (v_assign' (by conv => (lhs; whnf))) rfl ?_
 refine wl_nil ?_
 refine then_go ?_
 refine wc_ret ?_
 exact ret1 rfl ((st.keepOnly (l := []) (List.nil_sublist _)).out ⟨q2, rfl, hq2⟩)
end
end Go.Proofs.Ytonlmjpenonabaa

namespace Go.Proofs.Ytonlmjpenonabaa
open Go Go.RowKit K SH PT
def LvM (m : Mem) (v : Value) (L : List (By × By)) : Prop := ∃ va vv, v = .agg #[va, vv] ∧ DigM m va (L.map (·.1)) ∧ DigM m vv (L.map (·.2))
theorem LvM.mono {m m' : Mem} {v : Value} {L : List (By × By)} (h : LvM m v L) (hm : ∀ k o, m k = some o → m' k = some o) : LvM m' v L := by
 obtain ⟨a, b, h1, h2, h3⟩ := h
 exact ⟨a, b, h1, h2.mono hm, h3.mono hm⟩
theorem LvM.open {m : Mem} {v : Value} {L : List (By × By)} (h : LvM m v L) : ∃ a1 c1 a2 c2, v = .agg #[.slice a1 L.length c1, .slice a2 L.length c2] ∧ DigM m (.slice a1 L.length c1) (L.map (·.1)) ∧ DigM m (.slice a2 L.length c2) (L.map (·.2)) := by
 obtain ⟨va, vv, rfl, h1, h2⟩ := h
 obtain ⟨a1, c1, rfl⟩ := h1.sl
 obtain ⟨a2, c2, rfl⟩ := h2.sl
 rw [List.length_map] at h1 h2 ⊢
 exact ⟨a1, c1, a2, c2, by rw [List.length_map], h1, h2⟩
end Go.Proofs.Ytonlmjpenonabaa

namespace Go.Proofs.Ytonlmjpenonabaa
open Go Go.RowKit Go.ChangeShapes Go.WideShapes Go.Deep
namespace K
section
variable {H : Type} {enc : TypeId × Value → H} {P : Program} {w : World} {sp : Nat → Bool} {held : Bool} {t e : TypeId} {fuel : Nat} {x : DataW H × List MemPlace} {v : Value}
theorem cell_some {a : Addr} {u : Value} (h : w.cell? a = some u) : a.spot = none ∧ ∃ c t fr, w.heap[a.block]? = some (.cells c t fr) ∧ c[a.off]? = some u := by
 unfold World.cell? at h
 split at h
 ·rename_i c t fr hb
  split at h
  ·cases h
  ·rename_i hs
   exact ⟨by simpa using hs, c, t, fr, hb, h⟩
 ·cases h
theorem flat_at {size : Nat} : ∀ (k : Nat) (X : Nat → List Value), (∀ i, i < k → (X i).length = size) → ((List.range k).flatMap X).length = k * size ∧ ∀ i j u, i < k → (X i)[j]? = some u → ((List.range k).flatMap X)[i * size + j]? = some u
 | 0, X, _ => by simp
 | k + 1, X, h => by
  have ih := flat_at k X fun i hi => h i (by omega)
  rw [List.range_succ, List.flatMap_append]
  have e : [k].flatMap X = X k := by simp
  rw [e]
  refine ⟨by rw [List.length_append, ih.1, h k (by omega), Nat.add_mul, Nat.one_mul], fun i j u hi hj => ?_⟩
  rcases Nat.lt_or_ge i k with h1 | h1
  ·have h2 := ih.2 i j u h1 hj
   rw [List.getElem?_append_left]
   ·exact h2
   ·rcases Nat.lt_or_ge (i * size + j) ((List.range k).flatMap X).length with h3 | h3
    ·exact h3
    ·rw [List.getElem?_eq_none h3] at h2; cases h2
  ·have h2 : i = k := by omega
   subst h2
   rw [List.getElem?_append_right (by rw [ih.1]; omega), ih.1, Nat.add_sub_cancel_left]
   exact hj
theorem TyF.cells {T : TypeId} {agg : Bool} {size bytes : Nat} (tf : TyF P T agg size bytes) : P.cellsOf T = size := by
 obtain ⟨i, hi, hs, _⟩ := tf.info
 simp [Program.cellsOf, hi, hs]
theorem trod_SlMD (ht : P.underlying t = some (.slice e)) (hs : 0 < P.cellsOf e) (h : DataW.trod enc P w 0 sp held fuel t [v] = some x) :
  ∃ (k : Nat) (X : Nat → List Value) (D : Nat → DataW H) (rest : List (DataW H)), SlM (heapM w) v (P.cellsOf e) k ((List.range k).flatMap X) ∧ (k : Int) ≤ 9223372036854775807 ∧ (∀ i, i < k → (X i).length = P.cellsOf e ∧ (∃ n pl, DataW.trod enc P w 0 sp held n e (X i) = some (D i, pl))) ∧ (k = 0 ∨ x.1 = .slice ((List.range k).map D) rest) := by
 rcases open_slice ht h with ⟨h0, _⟩ | ⟨a, len, cap, m, n, D, Pl, hv, _, hl, hm, hmm, hxx, hx⟩
 ·rw [List.cons.injEq] at h0
  obtain ⟨rfl, _⟩ := h0
  exact ⟨0, fun _ => [], fun _ => .nil, [], by simpa using SlM.nil, by decide, by simp, .inl rfl⟩
 ·rw [List.cons.injEq] at hv
  obtain ⟨rfl, _⟩ := hv
  have hmlen : len ≤ m := by rw [hmm]; split <;> omega
  obtain ⟨X, hX⟩ := choose_lt (α := List Value) (p := fun i cs => w.cells? 0 (a.add (i * P.cellsOf e)) (P.cellsOf e) = some cs ∧ DataW.trod enc P w 0 sp held n e cs = some (D i, Pl i)) (fun i hi => hx i hi)
  have hlen : ∀ i, i < len → (X i).length = P.cellsOf e := fun i hi => (World.cells?_some (hX i (by omega)).1).2.1
  have hcell : ∀ i j u, i < len → (X i)[j]? = some u → w.cell? (a.add (i * P.cellsOf e + j)) = some u := fun i j u hi hj => by
   have hjs : j < P.cellsOf e := by
    rcases Nat.lt_or_ge j (X i).length with h' | h'
    ·rw [hlen i hi] at h'; exact h'
    ·rw [List.getElem?_eq_none h'] at hj; cases hj
   have := (World.cells?_some (hX i (by omega)).1).2.2 j hjs
   rw [add_add] at this
   rw [this, hj]
  refine ⟨len, X, D, _, ⟨(flat_at len X hlen).1, some a, cap, rfl, hl, by simp, fun j u hj => ?_⟩, by unfold maxLen at hm; omega, fun i hi => ⟨hlen i hi, n, _, (hX i (by omega)).2⟩, .inr (by rw [hxx])⟩
  have hjl : j < len * P.cellsOf e := by
   rw [← (flat_at len X hlen).1]
   rcases Nat.lt_or_ge j ((List.range len).flatMap X).length with h' | h'
   ·exact h'
   ·rw [List.getElem?_eq_none h'] at hj; cases hj
  have h0len : 0 < len := by
   rcases Nat.eq_zero_or_pos len with h0 | h0
   ·subst h0; simp at hjl
   ·exact h0
  have hspot : a.spot = none := by
   have h1 : (X 0)[0]? = some ((X 0)[0]'(by rw [hlen 0 h0len]; exact hs)) := List.getElem?_eq_getElem _
   have := hcell 0 0 _ h0len h1
   rw [Nat.zero_mul, Nat.zero_add, show a.add 0 = a by simp [Addr.add]] at this
   exact (cell_some this).1
  have hdiv : j / P.cellsOf e < len := (Nat.div_lt_iff_lt_mul hs).2 hjl
  have hmod : j % P.cellsOf e < P.cellsOf e := Nat.mod_lt _ hs
  have hu : (X (j / P.cellsOf e))[j % P.cellsOf e]? = some ((X (j / P.cellsOf e))[j % P.cellsOf e]'(by rw [hlen _ hdiv]; exact hmod)) := List.getElem?_eq_getElem _
  have hidx : j / P.cellsOf e * P.cellsOf e + j % P.cellsOf e = j := Nat.div_add_mod' j _
  have h2 := (flat_at len X hlen).2 _ _ _ hdiv hu
  rw [hidx, hj] at h2
  rw [← h2] at hu
  have h3 := hcell _ _ _ hdiv hu
  rw [hidx] at h3
  obtain ⟨_, c, t', fr, hb, hc⟩ := cell_some h3
  refine ⟨a.block, a.off, c, t', fr, ?_, ?_, ?_⟩
  ·cases a; simp_all
  ·have e1 : (a.add j).block = a.block := by unfold Addr.add; split <;> rfl
   rw [e1] at hb
   exact hb
  ·have e1 : (a.add j).off = a.off + j := by unfold Addr.add; split <;> simp_all
   rw [e1] at hc
   exact hc
theorem trod_SlM (ht : P.underlying t = some (.slice e)) (hs : 0 < P.cellsOf e) (h : DataW.trod enc P w 0 sp held fuel t [v] = some x) :
  ∃ (k : Nat) (X : Nat → List Value), SlM (heapM w) v (P.cellsOf e) k ((List.range k).flatMap X) ∧ (k : Int) ≤ 9223372036854775807 ∧ ∀ i, i < k → (X i).length = P.cellsOf e ∧ ∃ n y, DataW.trod enc P w 0 sp held n e (X i) = some y := by
 obtain ⟨k, X, D, _, h1, h2, h3, _⟩ := trod_SlMD ht hs h
 exact ⟨k, X, h1, h2, fun i hi => ⟨(h3 i hi).1, by obtain ⟨_, n, pl, h⟩ := h3 i hi; exact ⟨n, _, h⟩⟩⟩
theorem post_true {f : Func} {s : ChangeSpec} {W W' : World} {args : Array Value} {ds gs : List (DataW H)} {before : List MemPlace} {b : TypeId} (hl : laidOutB P = true) (hpar : f.params.toList.all (fun t => P.readableRec t && decide (t < P.types.size)) = true) (hvars : s.vars = [])
  (hW : DataW.Whole enc P f.params.toList s.vars false W args.toList ds gs before) (t : Tch W W' [] []) (hfn : s.fn H ds = { results := [.lit (.bool true)], args := ds }) (hres : f.resultTypes = #[b]) (hb : P.underlying b = some .bool) :
  s.post enc P f false true false false W args (.bool true) W' := by
 have hlt := fun p hp => hW.lt p hp
 have hW0 := hW
 obtain ⟨p, q, hA, hV, rfl, hfz, _⟩ := hW
 have hq : q = [] ∧ gs = [] := by
  rw [hvars] at hV
  cases gs with
  | nil => exact ⟨hV, rfl⟩
  | cons _ _ => exact hV.elim
 obtain ⟨rfl, rfl⟩ := hq
 have stays : ∀ (ts : List TypeId) (vs : List Value) (ds : List (DataW H)) (p : List MemPlace), ts.all (fun t => P.readableRec t && decide (t < P.types.size)) = true → (∀ x ∈ p, x.block < W.heap.size) → DataW.TrodAll enc P W 0 (fun _ => true) true ts vs ds p → DataW.TrodAll enc P W' 0 (fun b => decide (b < W.heap.size)) true ts vs ds p := by
  intro ts
  induction ts with
  | nil => intro vs ds p _ _ h; cases vs <;> cases ds <;> first | exact h | exact h.elim
  | cons t0 ts ih =>
   intro vs ds p hall hp h
   cases vs with
   | nil => exact h.elim
   | cons v0 vs =>
    cases ds with
    | nil => exact h.elim
    | cons d0 ds =>
     obtain ⟨p1, q1, h1, h2, rfl⟩ := h
     simp only [List.all_cons, Bool.and_eq_true, decide_eq_true_eq] at hall
     exact ⟨p1, q1, Below.trod hl hall.1.1 hall.1.2 h1 t.below (fun x hx => hp x (List.mem_append_left _ hx)), ih vs ds q1 (by simpa using hall.2) (fun x hx => hp x (List.mem_append_right _ hx)) h2, rfl⟩
 refine ⟨ds, [], p ++ [], [], p, [], hW0, ?_, ?_, ?_, ?_, fun h => by cases h⟩
 all_goals try rw [List.append_nil ds]
 ·rw [hfn, hres]
  refine ⟨[], [], ⟨1, ?_⟩, rfl, rfl⟩
  simp [DataW.trod, Value.cells, hb, Value.resultList]
 ·rw [hfn]
  exact stays _ _ _ _ hpar (fun x hx => hlt x (by simpa using hx)) hA
 ·rw [hvars, hfn]
  rfl
 ·refine ⟨t.os, t.output, fun i hi => ?_⟩
  have := (World.keptBut_refl W (fun p_1 => p_1 ∈ p ++ [] ∧ (p_1 ∈ ([] : List MemPlace) ∨ p_1 ∈ p ∨ p_1 ∈ ([] : List MemPlace)))).2.2 i hi
  rw [t.block i hi (by simp)]
  exact this
end
end K
end Go.Proofs.Ytonlmjpenonabaa

namespace Go.Proofs.Ytonlmjpenonabaa
open Go Go.RowKit Go.ChangeShapes Go.WideShapes K
theorem all_u8 : ∀ {cs : List Value}, (∀ i, i < cs.length → ∃ b : UInt8, cs[i]? = some (u8 b)) → ∃ l : List UInt8, cs = bs l
 | [], _ => ⟨[], rfl⟩
 | c :: cs, h => by
  obtain ⟨b, hb⟩ := h 0 (by simp)
  obtain ⟨l, hl⟩ := all_u8 (cs := cs) fun i hi => by
   have := h (i + 1) (by simp; exact hi)
   simpa using this
  refine ⟨b :: l, ?_⟩
  simp only [List.getElem?_cons_zero, Option.some.injEq] at hb
  rw [hb, hl]
  rfl
section
variable {H : Type} {enc : TypeId × Value → H} {w : World} {sp : Nat → Bool} {held : Bool} {fuel : Nat} {x : DataW H × List MemPlace} {v : Value}
theorem trod_dig {cs : List Value} (h : DataW.trod enc Try.prog w 0 sp held fuel 28 cs = some x) : ∃ l : List UInt8, cs = bs l ∧ l.length = 32 := by
 obtain ⟨xs, m, _, _, hl, hxl, hf⟩ := DataW.trod_array Try.underlying28 h
 rw [TF.t28.cells] at hl
 rw [TF.t5.cells] at hf
 obtain ⟨l, rfl⟩ := all_u8 (cs := cs) fun i hi => by
  have hi' : i < cs.length := hi
  have e := hf i (by omega)
  rw [List.getElem?_eq_getElem (by omega)] at e
  have ec : (cs.drop (i * 1)).take 1 = [cs[i]] := by rw [Nat.mul_one, List.drop_eq_getElem_cons hi]; rfl
  rw [ec] at e
  obtain ⟨a, q, _, wf⟩ := DataW.trod_int Try.underlying5 e
  rw [List.cons.injEq] at q
  simp only [Lit.wf, Bool.and_eq_true, decide_eq_true_eq] at wf
  have h1 : 0 ≤ a := wf.1
  have h2 : a ≤ 255 := wf.2
  refine ⟨UInt8.ofNat a.toNat, ?_⟩
  rw [List.getElem?_eq_getElem hi, q.1]
  simp only [u8, Option.some.injEq, Value.int.injEq, true_and]
  rw [UInt8.toNat_ofNat']
  omega
 exact ⟨l, rfl, by rw [length_bs] at hl; exact hl⟩
theorem open_digs (h : DataW.trod enc Try.prog w 0 sp held fuel 22 [v] = some x) : ∃ L : List (List UInt8), DigM (heapM w) v L ∧ L.length ≤ 9223372036854775807 := by
 obtain ⟨k, X, hS, hk, hX⟩ := trod_SlM Try.underlying22 (by rw [TF.t28.cells]; decide) h
 rw [TF.t28.cells] at hS hX
 have all : ∀ k', k' ≤ k → ∃ L : List (List UInt8), L.length = k' ∧ (List.range k').flatMap X = digs L ∧ D32 L := by
  intro k'
  induction k' with
  | zero => intro _; exact ⟨[], rfl, rfl, by simp [D32]⟩
  | succ k' ih =>
   intro hk'
   obtain ⟨L, h1, h2, h3⟩ := ih (by omega)
   obtain ⟨_, n, y, hy⟩ := hX k' (by omega)
   obtain ⟨l, hl, h32⟩ := trod_dig hy
   refine ⟨L ++ [l], by simp [h1], ?_, h3.app (D32.one h32)⟩
   rw [List.range_succ, List.flatMap_append, h2, digs_app, digs_one]
   simp [hl]
 obtain ⟨L, h1, h2, h3⟩ := all k (Nat.le_refl _)
 rw [h2] at hS
 subst h1
 exact ⟨L, ⟨h3, hS⟩, by omega⟩
end
end Go.Proofs.Ytonlmjpenonabaa

namespace Go.Proofs.Ytonlmjpenonabaa
open Go Go.RowKit K
section lists
variable {α : Type} {c : α → List Value} {size : Nat}
structure LsM (m : Mem) (v : Value) (c : α → List Value) (size : Nat) (L : List α) : Prop where
 row : SlM m v size L.length (L.flatMap c)
 len : ∀ x ∈ L, (c x).length = size
theorem cellsAt_flat : ∀ {L : List α}, (∀ x ∈ L, (c x).length = size) → ∀ {i : Nat} (hi : i < L.length), cellsAt (L.flatMap c) size i = c L[i]
 | [], _, _, hi => by simp at hi
 | x :: L, h, 0, _ => by
  have h1 := h x (by simp)
  simp only [cellsAt, List.flatMap_cons, Nat.zero_mul, List.drop_zero, List.getElem_cons_zero]
  rw [List.take_left' h1]
 | x :: L, h, i + 1, hi => by
  have h1 := h x (by simp)
  have h2 := cellsAt_flat (L := L) (fun y hy => h y (by simp [hy])) (i := i) (by simp at hi; omega)
  rw [List.getElem_cons_succ, ← h2]
  simp only [cellsAt, List.flatMap_cons]
  rw [show (i + 1) * size = (c x).length + i * size by rw [h1, Nat.succ_mul]; omega, List.drop_append, List.drop_eq_nil_of_le (by omega), List.nil_append, Nat.add_sub_cancel_left]
theorem LsM.mono {m m' : Mem} {v : Value} {L : List α} (h : LsM m v c size L) (hm : ∀ k o, m k = some o → m' k = some o) : LsM m' v c size L := ⟨h.row.mono hm, h.len⟩
theorem LsM.nil {m : Mem} : LsM m (.slice none 0 0) c size [] := ⟨SlM.nil, by simp⟩
theorem LsM.sl {m : Mem} {v : Value} {L : List α} (h : LsM m v c size L) : ∃ a cap, v = .slice a L.length cap := by
 obtain ⟨_, a, cap, rfl, _⟩ := h.row
 exact ⟨a, cap, rfl⟩
theorem LsM.rd {P : Program} {m : Mem} {a : Option Addr} {k cap : Nat} {L : List α} (h : LsM m (.slice a k cap) c size L) {b o i : Nat} (ha : a = some ⟨b, o, none⟩) (hi : i < L.length) (hs : 0 < size) {T : TypeId} {agg : Bool} {sz bytes off : Nat} {v' : Value} (tf : TyF P T agg sz bytes) (hv : getV agg sz (c L[i]).toArray off = some v') {w : World} (him : Im m w) :
  Reads P w T ⟨b, o + i * size + off, none⟩ v' := by
 obtain ⟨b', o', cap', hv', _, hr⟩ := h.row.elem P (i := i) hi hs
 simp only [Value.slice.injEq] at hv'
 rw [ha] at hv'
 obtain ⟨he, _, _⟩ := hv'
 cases he
 exact hr him tf (by rw [cellsAt_flat h.len hi]; exact hv)
theorem LsM.ptr {m : Mem} {a : Option Addr} {k cap : Nat} {L : List α} (h : LsM m (.slice a k cap) c size L) (hi : 0 < L.length) (hs : 0 < size) : ∃ b o, a = some ⟨b, o, none⟩ := by
 obtain ⟨b, o, cap', hv, _, _⟩ := h.row.elem Try.prog (i := 0) hi hs
 simp only [Value.slice.injEq] at hv
 exact ⟨b, o, hv.1⟩
abbrev lsE (E : TypeId) (size : Nat) (c : α → List Value) (v : Value) (L : List α) : Ent := rowE v E size L.length (L.flatMap c)
variable {P : Program} {n : Nat} {ops : Array Oper} {Q : Po} {rest : List Oper} {r : Fr} {w : World} {d : Nat} {ty : TypeId} {pos : String} {after : Array Edge} {m0 m : Mem} {F : List Nat} {w0 : World} {Es : List Ent}
theorem wl_lsOne {T E : TypeId} {bytes : Nat} {z : Value} {x : Operand} (cv : List Value) (hT : P.underlying T = some (.slice E)) (tf : TyF P E true size bytes) (hz : TyZ P E z) (hs : 0 < size) (hs1 : size ≤ 16777216) (hl : cv.length = size) (hx : ev r x = .agg cv.toArray) (st : St m0 m F w0 w Es) (hd : Nat.blt d n = true)
  (k : ∀ b w', St m0 m F w0 w' (K.blk b cv.toArray E :: Es) → WL P n ops Q rest (upd d (.slice (some ⟨b, 0, none⟩) 1 1) r) w') :
  WL P n ops Q (⟨some d, .buildSlice T 1 #[(0, x)], ty, pos, after, none⟩ :: rest) r w := by
 refine wl_buildSlice (c' := cv.toArray) [(0, .agg cv.toArray)] hT tf hz (by omega) (by omega) (by simp [hx]) ⟨0, size, by simp, by simp [Value.cells, hl], by simp [size_madeCells], ?_⟩ st hd k
 exact setSeg_all (by simp [size_madeCells, Value.cells, hl])
theorem wl_lsApp (i : Nat) {T E : TypeId} {agg : Bool} {bytes b cap : Nat} {z v : Value} {s y : Operand} {L : List α} {e : α} (st : St m0 m F w0 w (K.blk b (c e).toArray E :: Es)) (hi : Es[i]? = some (lsE E size c v L)) (hT : P.underlying T = some (.slice E)) (tf : TyF P E agg size bytes) (hz : TyZ P E z) (hzs : z.cells.size = size) (hl : (c e).length = size) (hone : ∀ u ∈ c e, u.oneCell' = true)
  (hs : ev r s = v) (hy : ev r y = .slice (some ⟨b, 0, none⟩) 1 cap) (hb : (L.length + 1) * bytes ≤ 140737488355328) (h63 : L.length + 1 ≤ 9223372036854775807) (hd : Nat.blt d n = true)
  (k : ∀ v' w', St m0 m F w0 w' (Es.set i (lsE E size c v' (L ++ [e]))) → v'.oneCell' = true → WL P n ops Q rest (upd d v' r) w') :
  WL P n ops Q (⟨some d, .call ⟨.builtin .append, #[s, y], #[T, T]⟩, ty, pos, after, none⟩ :: rest) r w := by
 refine wl_append (news := c e) (i + 1) st hi hT hT (.inr ⟨_, rfl⟩) tf hz hzs hs hy (st.srcArr (off := 0) 0 rfl (by rw [hl]; omega) (fun j u hj => by simpa using hj) hone) h63 hb hd ?_
 intro v' w' _ st'
 have e1 : L.flatMap c ++ c e = (L ++ [e]).flatMap c := by simp
 have e2 : L.length + 1 = (L ++ [e]).length := by simp
 have st2 := st'.drop 0
 rw [e1, e2] at st2
 have st3 : St m0 m F w0 w' (Es.set i (lsE E size c v' (L ++ [e]))) := st2
 have hlt : i < Es.length := by
  rcases Nat.lt_or_ge i Es.length with h | h
  ·exact h
  ·rw [List.getElem?_eq_none h] at hi; cases hi
 have hrow : (lsE E size c v' (L ++ [e])).holds w' := st3.at (i := i) (by simp [hlt])
 exact k v' w' st3 (row_one hrow)
theorem K.St.keepLs (st : St m0 m [] w0 w Es) {i : Nat} {E : TypeId} {v : Value} {L : List α} (hi : Es[i]? = some (lsE E size c v L)) (hL : ∀ x ∈ L, (c x).length = size) :
  ∃ m', Grow m m' w0.heap.size ∧ LsM m' v c size L ∧ St m0 m' [] w0 w (Es.eraseIdx i) := by
 obtain ⟨m2, hg2, hm2, st2⟩ := st.freezeR hi (by simp)
 exact ⟨m2, hg2, ⟨row_SlM (m := m2) (st.at hi) hm2, hL⟩, st2⟩
theorem wl_buildSlice0 {T E : TypeId} {agg : Bool} {bytes : Nat} (hT : P.underlying T = some (.slice E)) (tf : TyF P E agg size bytes) (st : St m0 m F w0 w Es) (hd : Nat.blt d n = true)
  (k : ∀ v w', St m0 m F w0 w' (rowE v E size 0 [] :: Es) → WL P n ops Q rest (upd d v r) w') :
  WL P n ops Q (⟨some d, .buildSlice T 0 #[], ty, pos, after, none⟩ :: rest) r w := by
 have hst : St m0 m F w0 (w.alloc (.cells #[] E)) (rowE (.slice (some ⟨w.heap.size, 0, none⟩) 0 0) E size 0 [] :: Es) := by
  have st1 := st.new (E := K.blk w.heap.size #[] E) (touch_alloc w _) (heap_alloc_new w _)
  exact st1.rowShut 0 (b := w.heap.size) (k := 0) (cap := 0) (size := size) (xs := []) rfl (Nat.le_refl _) (by simp) (by omega) (by simp)
 refine wl_val (v := .slice (some ⟨w.heap.size, 0, none⟩) 0 0) (w' := w.alloc (.cells #[] E)) ?_ hd (k _ _ hst)
 intro _ _ _ _
 simp [execOp, Instr.buildSlice, run_underlying hT, tf.sz, newRow, Instr.fill]
 have e : (Array.map (fun _ => (default : Value)) (Array.range 0)) = #[] := by apply Array.ext'; simp
 rw [e]
theorem v_eq_nilS {T E U : TypeId} {x y : Operand} {a : Option Addr} {l k : Nat} (hT : P.underlying T = some (.slice E)) (hx : ev r x = .slice a l k) (hy : ev r y = .slice none 0 0) : Val P (.binOp .eql T x y U) ty r w (.bool a.isNone) w := by
 intro _ _ _ _
 have h : (Op.equal T (.slice a l k) (.slice none 0 0)).run P w = .ok a.isNone w := by
  unfold Op.equal
  rw [show Op.maxDepth = 9999 + 1 from rfl, Op.equalIn]
  simp only [Sem.run_bind, run_underlying hT, Result.andThen_ok]
  cases a <;> rfl
 simp [execOp, eqGuard, binOp, hx, hy, h]
end lists
theorem LsM.rd0 {α : Type} {c : α → List Value} {size : Nat} {P : Program} {m : Mem} {a : Option Addr} {k cap : Nat} {L : List α} (h : LsM m (.slice a k cap) c size L) {b o i : Nat} (ha : a = some ⟨b, o, none⟩) (hi : i < L.length) (hs : 0 < size) {T : TypeId} {agg : Bool} {sz bytes : Nat} {v' : Value} (tf : TyF P T agg sz bytes) (hv : getV agg sz (c L[i]).toArray 0 = some v') {w : World} (him : Im m w) :
  Reads P w T ⟨b, o + i * size, none⟩ v' := h.rd ha hi hs tf hv him
theorem flat_drop {α : Type} {c : α → List Value} {size : Nat} : ∀ {L : List α}, (∀ x ∈ L, (c x).length = size) → ∀ i, (L.drop i).flatMap c = (L.flatMap c).drop (i * size)
 | [], _, i => by simp
 | x :: L, h, 0 => by simp
 | x :: L, h, i + 1 => by
  have h1 := h x (by simp)
  rw [List.drop_succ_cons, flat_drop (L := L) (fun y hy => h y (by simp [hy])) i, List.flatMap_cons, show (i + 1) * size = (c x).length + i * size by rw [h1, Nat.succ_mul]; omega, List.drop_append, List.drop_eq_nil_of_le (show (c x).length ≤ (c x).length + i * size by omega), List.nil_append, Nat.add_sub_cancel_left]
theorem flat_take {α : Type} {c : α → List Value} {size : Nat} : ∀ {L : List α}, (∀ x ∈ L, (c x).length = size) → ∀ i, (L.take i).flatMap c = (L.flatMap c).take (i * size)
 | [], _, i => by simp
 | x :: L, h, 0 => by simp
 | x :: L, h, i + 1 => by
  have h1 := h x (by simp)
  rw [List.take_succ_cons, List.flatMap_cons, flat_take (L := L) (fun y hy => h y (by simp [hy])) i, List.flatMap_cons, show (i + 1) * size = (c x).length + i * size by rw [h1, Nat.succ_mul]; omega, List.take_append, List.take_of_length_le (show (c x).length ≤ (c x).length + i * size by omega), Nat.add_sub_cancel_left]
theorem LsM.sub {α : Type} {c : α → List Value} {size : Nat} {m : Mem} {a : Option Addr} {k cap : Nat} {L : List α} (h : LsM m (.slice a k cap) c size L) (i j : Nat) (hij : i ≤ j) (hj : j ≤ L.length) (hs : 0 < size) :
  LsM m (.slice (sliceOff a cap i size) (j - i) (cap - i)) c size ((L.drop i).take (j - i)) := by
 have hk : k = L.length := by obtain ⟨_, _, _, he, _⟩ := h.row; cases he; rfl
 subst hk
 have hl : ((L.drop i).take (j - i)).length = j - i := by simp; omega
 refine ⟨?_, fun x hx => h.len x (List.mem_of_mem_drop (List.mem_of_mem_take hx))⟩
 have := h.row.sub rfl hij hj hs
 rw [flat_take (fun x hx => h.len x (List.mem_of_mem_drop hx)), flat_drop h.len, hl]
 exact this
theorem K.St.rdp {P : Program} {m0 m : Mem} {F : List Nat} {w0 w : World} {Es : List Ent} {T : TypeId} {agg : Bool} {size bytes b : Nat} {c : Array Value} {t : TypeId} {v : Value} {p : Addr} (st : St m0 m F w0 w Es) (i : Nat) (hi : Es[i]? = some (K.blk b c t)) (hp : p = ⟨b, p.off, Option.none⟩) (tf : TyF P T agg size bytes) (hv : getV agg size c p.off = some v) : Reads P w T p v :=
 hp ▸ st.reads i hi tf hv
section
variable {P : Program} {n : Nat} {ops : Array Oper} {Q : Po} {rest : List Oper} {r : Fr} {w : World} {d : Nat} {ty : TypeId} {pos : String} {after : Array Edge}
theorem wl_valg {op : Op} {v : Value} {j t : Nat} {b want : Bool} (hj : (ops[j]?).bind (·.dst) = some t) (hb : r t = .bool b) (hv : b = want → Val P op ty r w v w) (hd : Nat.blt d n = true) (k : WL P n ops Q rest (upd d (bif b == want then v else undef) r) w) :
  WL P n ops Q (⟨some d, op, ty, pos, after, some (j, want)⟩ :: rest) r w := by
 refine wl_guard hj hb (fun h => ?_) (fun h => ?_) (.inr ⟨d, rfl, hd⟩)
 ·subst h
  refine wl_val (hv rfl) hd ?_
  have : (bif b == b then v else undef) = v := by cases b <;> rfl
  rwa [this] at k
 ·subst h
  have : (bif (!want) == want then v else undef) = undef := by cases want <;> rfl
  rwa [this] at k
theorem gx {x : Operand} {b want : Bool} {v : Value} (e : b = want) (h : ev r x = bif b == want then v else undef) : ev r x = v := by
 subst e
 rw [h]
 cases b <;> rfl
theorem v_pickA {c x y : Operand} {b b2 : Bool} (hc : ev r c = .bool b) (hx : ev r x = bif b == true then .bool b2 else undef) (hy : ev r y = .bool false) : Val P (.pick c x y) ty r w (.bool (b && b2)) w := by
 have h := v_pick (P := P) (w := w) (ty := ty) (x := x) (y := y) hc
 rw [hx, hy] at h
 cases b <;> exact h
theorem v_pickO {c x y : Operand} {b b2 : Bool} (hc : ev r c = .bool b) (hx : ev r x = .bool true) (hy : ev r y = bif b == false then .bool b2 else undef) : Val P (.pick c x y) ty r w (.bool (b || b2)) w := by
 have h := v_pick (P := P) (w := w) (ty := ty) (x := x) (y := y) hc
 rw [hx, hy] at h
 cases b <;> exact h
theorem wl_valD {op : Op} {p q : Bool} (h : Val P op ty r w (.bool p) w) (e : p = q) : Val P op ty r w (.bool q) w := e ▸ h
end
theorem one_app {a b : List Value} (ha : ∀ u ∈ a, u.oneCell' = true) (hb : ∀ u ∈ b, u.oneCell' = true) : ∀ u ∈ a ++ b, u.oneCell' = true := fun u hu => (List.mem_append.1 hu).elim (ha u) (hb u)
theorem SlM.one1 {m : Mem} {v : Value} {size k : Nat} {xs : List Value} (h : SlM m v size k xs) : v.oneCell' = true := by obtain ⟨_, _, _, h, _⟩ := h; rw [h]; rfl
theorem LsM.one1 {α : Type} {c : α → List Value} {size : Nat} {m : Mem} {v : Value} {L : List α} (h : LsM m v c size L) : v.oneCell' = true := SlM.one1 h.row
section
variable {P : Program} {n : Nat} {ops : Array Oper} {Q : Po} {rest : List Oper} {r : Fr} {w : World} {d : Nat} {ty : TypeId} {pos : String} {after : Array Edge} {m0 m : Mem} {F : List Nat} {w0 : World} {Es : List Ent}
theorem v_sls {T E : TypeId} {agg : Bool} {size bytes : Nat} {x : Operand} {lo hi : Option Operand} {a : Option Addr} {len cap : Nat} (l h : Nat) (hT : P.underlying T = some (.slice E)) (tf : TyF P E agg size bytes)
  (hx : ev r x = .slice a len cap) (hlo : BoundIs r lo 0 l) (hhi : BoundIs r hi len h) (h1 : l ≤ h) (h2 : h ≤ cap) : Val P (.slice T x lo hi none) ty r w (.slice (sliceOff a cap l size) (h - l) (cap - l)) w := v_slice_s hT tf hx hlo hhi h1 h2
theorem wl_byteR {T E bytes : Nat} {x : Operand} (c : UInt8) (hT : P.underlying T = some (.slice E)) (tf : TyF P E false 1 bytes) (hz : TyZ P E (.int .u8 0)) (hx : ev r x = u8 c) (st : St m0 m F w0 w Es) (hd : Nat.blt d n = true)
  (k : ∀ b w', St m0 m F w0 w' (rowE (.slice (some ⟨b, 0, none⟩) 1 1) E 1 [c].length (bs [c]) :: Es) → WL P n ops Q rest (upd d (.slice (some ⟨b, 0, none⟩) 1 1) r) w') :
  WL P n ops Q (⟨some d, .buildSlice T 1 #[(0, x)], ty, pos, after, none⟩ :: rest) r w :=
 wl_byte1 c hT tf hz hx st hd fun b w' st' => k b w' (st'.rowShut 0 (k := 1) (cap := 1) (size := 1) (xs := bs [c]) rfl (by decide) rfl (by decide) rfl)
end
section
variable {P : Program} {n : Nat} {ops : Array Oper} {Q : Po} {rest : List Oper} {r : Fr} {w : World} {d : Nat} {ty : TypeId} {pos : String} {after : Array Edge} {m0 m : Mem} {F : List Nat} {w0 : World} {Es : List Ent}
theorem wl_svOne {T E : TypeId} {bytes : Nat} {v : Value} {x : Operand} (hT : P.underlying T = some (.slice E)) (tf : TyF P E false 1 bytes) (hz : TyZ P E (.slice none 0 0)) (ho : v.oneCell' = true) (hx : ev r x = v) (st : St m0 m F w0 w Es) (hd : Nat.blt d n = true)
  (k : ∀ b w', St m0 m F w0 w' (K.blk b #[v] E :: Es) → WL P n ops Q rest (upd d (.slice (some ⟨b, 0, none⟩) 1 1) r) w') :
  WL P n ops Q (⟨some d, .buildSlice T 1 #[(0, x)], ty, pos, after, none⟩ :: rest) r w := by
 refine wl_buildSlice (c' := #[v]) [(0, v)] hT tf hz (by decide) (by decide) (by simp [hx]) ⟨0, 1, rfl, by rw [cells_one ho]; rfl, by simp [size_madeCells], ?_⟩ st hd k
 rw [cells_one ho]
 exact setSeg_all (by simp [size_madeCells])
end
end Go.Proofs.Ytonlmjpenonabaa

namespace Go.Proofs.Ytonlmjpenonabaa
open Go Go.RowKit Go.ChangeShapes Go.WideShapes K
section
variable {H : Type} {enc : TypeId × Value → H} {w : World} {sp : Nat → Bool} {held : Bool} {fuel : Nat} {x : DataW H × List MemPlace} {v : Value}
theorem trod_seg {S f off F size bytes : Nat} {agg : Bool} {cs : List Value} (hf : FdOff Try.prog S f off F) (tf : TyF Try.prog F agg size bytes) (h : DataW.trod enc Try.prog w 0 sp held fuel S cs = some x) :
  ∃ n y, DataW.trod enc Try.prog w 0 sp held n F ((cs.drop off).take size) = some y := by
 obtain ⟨fs, fl, hS, hfl, rfl, rfl, _⟩ := hf
 obtain ⟨xs, n, _, _, _, hxl, hh⟩ := DataW.trod_struct hS h
 have hlt : f < fs.size := by
  rcases Nat.lt_or_ge f fs.size with h' | h'
  ·exact h'
  ·rw [Array.getElem?_eq_none h'] at hfl; cases hfl
 have e := hh f fl hfl
 rw [tf.cells, List.getElem?_eq_getElem (by omega)] at e
 exact ⟨n, _, e⟩
theorem trod_len {S size bytes : Nat} {agg : Bool} {fs : Array Field} {cs : List Value} (hS : Try.prog.underlying S = some (.struct fs)) (tf : TyF Try.prog S agg size bytes) (h : DataW.trod enc Try.prog w 0 sp held fuel S cs = some x) : cs.length = size := by
 obtain ⟨xs, n, _, _, hl, _⟩ := DataW.trod_struct hS h
 rw [tf.cells] at hl
 exact hl
theorem trod_bo {cs : List Value} (h : DataW.trod enc Try.prog w 0 sp held fuel 4 cs = some x) : ∃ b, cs = [.bool b] := by
 obtain ⟨b, q, _⟩ := DataW.trod_bool Try.underlying4 h
 exact ⟨b, q⟩
theorem trod_list {α : Type} {c : α → List Value} {Q : α → Prop} {T E : TypeId} {agg : Bool} {size bytes : Nat} (hT : Try.prog.underlying T = some (.slice E)) (tf : TyF Try.prog E agg size bytes) (hs : 0 < size)
  (one : ∀ {n : Nat} {y : DataW H × List MemPlace} {cs : List Value}, DataW.trod enc Try.prog w 0 sp held n E cs = some y → ∃ a, cs = c a ∧ Q a)
  (h : DataW.trod enc Try.prog w 0 sp held fuel T [v] = some x) : ∃ L : List α, LsM (heapM w) v c size L ∧ (∀ a ∈ L, Q a) ∧ L.length ≤ 9223372036854775807 := by
 obtain ⟨k, X, hS, hk, hX⟩ := trod_SlM hT (by rw [tf.cells]; exact hs) h
 rw [tf.cells] at hS hX
 have all : ∀ k', k' ≤ k → ∃ L : List α, L.length = k' ∧ (List.range k').flatMap X = L.flatMap c ∧ ∀ a ∈ L, Q a ∧ (c a).length = size := by
  intro k'
  induction k' with
  | zero => intro _; exact ⟨[], rfl, rfl, by simp⟩
  | succ k' ih =>
   intro hk'
   obtain ⟨L, h1, h2, h3⟩ := ih (by omega)
   obtain ⟨hl, n, y, hy⟩ := hX k' (by omega)
   obtain ⟨a, ha, hq⟩ := one hy
   refine ⟨L ++ [a], by simp [h1], ?_, fun b hb => ?_⟩
   ·rw [List.range_succ, List.flatMap_append, h2, List.flatMap_append]
    simp [ha]
   ·rcases List.mem_append.1 hb with hb | hb
    ·exact h3 b hb
    ·rw [List.mem_singleton.1 hb]; exact ⟨hq, by rw [← ha]; exact hl⟩
 obtain ⟨L, h1, h2, h3⟩ := all k (Nat.le_refl _)
 rw [h2] at hS
 subst h1
 exact ⟨L, ⟨hS, fun a ha => (h3 a ha).2⟩, fun a ha => (h3 a ha).1, by omega⟩
end
end Go.Proofs.Ytonlmjpenonabaa

namespace Go.Proofs.Ytonlmjpenonabaa
end Go.Proofs.Ytonlmjpenonabaa

namespace Go.Proofs.Ytonlmjpenonabaa
open Go Go.RowKit K
def New (w0 : World) (v : Value) : Prop := ∀ k, v.ownBlock = some k → w0.heap.size ≤ k
theorem New.nil {w0 : World} : New w0 (.slice none 0 0) := fun k h => by simp [Value.ownBlock] at h
theorem New.of {w0 : World} {b : Nat} {n c : Nat} (h : w0.heap.size ≤ b) : New w0 (.slice (some ⟨b, 0, none⟩) n c) := fun k hk => by
 simp only [Value.ownBlock, Option.some.injEq] at hk
 omega
section
variable {m0 m : Mem} {F : List Nat} {w0 w w' : World} {Es : List Ent}
theorem K.St.callE {m' : Mem} {E E' : Ent} (st : St m0 m F w0 w Es) (i : Nat) (hi : Es[i]? = some E) (t : Tch w w' E.foot E'.foot) (hE : E'.holds w') (hg : Grow m m' w.heap.size) (him : Im m' w') (hn : ∀ k ∈ E'.foot, m' k = Option.none) : St m0 m' F w0 w' (Es.set i E') := by
 have h := st.step i hi t hE
 refine ⟨h.touch, h.grow.trans ⟨hg.le, fun k o hk => (hg.new k o hk).imp id fun x => Nat.le_trans st.touch.size x⟩ (Nat.le_refl _), him, h.holds, h.sep, fun X hX k hk => ⟨?_, (h.own X hX k hk).2⟩⟩
 have hlt : i < Es.length := by
  rcases Nat.lt_or_ge i Es.length with h' | h'
  ·exact h'
  ·rw [List.getElem?_eq_none h'] at hi; cases hi
 obtain ⟨j, hj, rfl⟩ := List.getElem_of_mem hX
 rw [List.getElem_set] at hk
 simp only [List.length_set] at hj
 split at hk
 ·exact hn k hk
 ·cases hm : m' k with
  | none => rfl
  | some o =>
   rcases hg.new k o hm with x | x
   ·have := (st.own _ (List.getElem_mem hj) k hk).1
    rw [this] at x; cases x
   ·have := Es[j].live (st.holds _ (List.getElem_mem hj)) k hk
    omega
def OutE (m : Mem) (w w' : World) (foot : List Nat) (R : Mem → Ent → Prop) : Prop :=
 ∃ m' E', Tch w w' foot E'.foot ∧ E'.holds w' ∧ Grow m m' w.heap.size ∧ Im m' w' ∧ (∀ k ∈ E'.foot, m' k = none) ∧ R m' E'
theorem K.St.outE {l : List Ent} {R : Mem → Ent → Prop} (st : St m0 m F w0 w (l ++ Es)) (h : R m (joinE l)) : OutE m0 w0 w F R := by
 have hf := st.finish
 have hj := st.join
 exact ⟨m, joinE l, hf.1, hf.2, st.grow, st.im, fun k hk => (hj.own _ List.mem_cons_self k hk).1, h⟩
theorem K.St.joinLast {pre l : List Ent} (st : St m0 m F w0 w (pre ++ l)) : St m0 m F w0 w (pre ++ [joinE l]) :=
 (st.perm List.perm_append_comm).join.perm (List.perm_append_comm (l₁ := [joinE l]) (l₂ := pre))
theorem K.St.splitLast {pre l : List Ent} (st : St m0 m F w0 w (pre ++ [joinE l])) : St m0 m F w0 w (pre ++ l) :=
 ((st.perm (List.perm_append_comm (l₁ := pre) (l₂ := [joinE l]))).split).perm List.perm_append_comm
theorem row_sl {v : Value} {e size n : Nat} {xs : List Value} (h : (rowE v e size n xs).holds w) : ∃ a c, v = .slice a n c := by
 rcases h.2 with ⟨rfl, rfl⟩ | ⟨g, cap, cur, rfl, _⟩ <;> exact ⟨_, _, rfl⟩
theorem K.St.keepN (st : St m0 m F w0 w Es) {i : Nat} {v : Value} {E size : Nat} {k : Nat} {xs : List Value} (hi : Es[i]? = some (rowE v E size k xs)) (hF : ∀ k ∈ F, k < w0.heap.size) (hN : New w0 v) :
  ∃ m', Grow m m' w0.heap.size ∧ SlM m' v size k xs ∧ St m0 m' F w0 w (Es.eraseIdx i) := by
 obtain ⟨m2, hg2, hm2, st2⟩ := st.freezeR hi (fun b hb he => by have := hN b he; have := hF b hb; omega)
 exact ⟨m2, hg2, row_SlM (m := m2) (st.at hi) hm2, st2⟩
end
section
variable {P : Program} {n : Nat} {ops : Array Oper} {Q : Po} {rest : List Oper} {r : Fr} {w : World} {d : Nat} {ty : TypeId} {pos : String} {after : Array Edge} {m0 m : Mem} {F : List Nat} {w0 : World} {Es : List Ent}
theorem wl_buildSliceN {T E : TypeId} {z : Value} {agg : Bool} {size bytes len : Nat} {parts : Array (Nat × Operand)} {c' : Array Value} (vals : List (Nat × Value)) (hT : P.underlying T = some (.slice E)) (tf : TyF P E agg size bytes) (hz : TyZ P E z)
  (hpos : 0 < len * size) (hsmall : len * size ≤ 16777216)
  (hvs : (parts.toList.map fun p => (p.1, ev r p.2)) = vals) (hf : FillR (fun i => some (i * size, size)) (madeCells z.cells (len * size)) vals c') (st : St m0 m F w0 w Es) (hd : Nat.blt d n = true)
  (k : ∀ b w', w0.heap.size ≤ b → St m0 m F w0 w' (K.blk b c' E :: Es) → WL P n ops Q rest (upd d (.slice (some ⟨b, 0, none⟩) len len) r) w') :
  WL P n ops Q (⟨some d, .buildSlice T len parts, ty, pos, after, none⟩ :: rest) r w := by
 refine wl_val (v := .slice (some ⟨w.heap.size, 0, none⟩) len len) (w' := w.alloc (.cells c' E)) ?_ hd (k _ _ st.touch.size (st.new (E := K.blk w.heap.size c' E) (touch_alloc w _) (heap_alloc_new w _)))
 intro _ _ _ _
 have hm : (parts.map fun p => (p.1, ev r p.2)).toList = parts.toList.map fun p => (p.1, ev r p.2) := by simp
 subst hvs
 have hfl := fill_run hf
 have h1 : ¬ (len * size > 2 ^ 24) := by have : (2 : Nat) ^ 24 = 16777216 := rfl; omega
 have h2 : ¬ (len * size = 0) := by omega
 simp only [execOp, Instr.buildSlice, Sem.run_bind, run_underlying hT, Result.andThen_ok, tf.sz, h1, if_false, Sem.run_pure, h2, hz.run]
 rw [hm]
 simp only [madeCells] at hfl
 rw [hfl]
 simp [newRow]
theorem wl_byteN {T E bytes : Nat} {x : Operand} (c : UInt8) (hT : P.underlying T = some (.slice E)) (tf : TyF P E false 1 bytes) (hz : TyZ P E (.int .u8 0)) (hx : ev r x = u8 c) (st : St m0 m F w0 w Es) (hd : Nat.blt d n = true)
  (k : ∀ b w', New w0 (.slice (some ⟨b, 0, none⟩) 1 1) → St m0 m F w0 w' (rowE (.slice (some ⟨b, 0, none⟩) 1 1) E 1 [c].length (bs [c]) :: Es) → WL P n ops Q rest (upd d (.slice (some ⟨b, 0, none⟩) 1 1) r) w') :
  WL P n ops Q (⟨some d, .buildSlice T 1 #[(0, x)], ty, pos, after, none⟩ :: rest) r w := by
 refine wl_buildSliceN (c' := (bs [c]).toArray) [(0, u8 c)] hT tf hz (by decide) (by decide) (by simp [hx]) ⟨0, 1, rfl, rfl, by simp [size_madeCells], ?_⟩ st hd fun b w' hb st' => k b w' (New.of hb) (st'.rowShut 0 (k := 1) (cap := 1) (size := 1) (xs := bs [c]) rfl (by decide) rfl (by decide) rfl)
 have : (u8 c).cells.toList = bs [c] := rfl
 rw [this]
 exact setSeg_all (by simp [size_madeCells, bs])
theorem wl_appBN (i : Nat) {T U E bytes j : Nat} {D : TypeDesc} {v x : Value} {s y : Operand} {l l2 : List UInt8} (st : St m0 m F w0 w Es) (hi : Es[i]? = some (rowE v E 1 l.length (bs l))) (hN : New w0 v) (hT : P.underlying T = some (.slice E)) (hU : P.underlying U = some D) (hD : D = .string ∨ ∃ E', D = .slice E') (tf : TyF P E false 1 bytes) (hz : TyZ P E (.int .u8 0))
  (hs : ev r s = v) (hy : ev r y = x) (src : Src P w x 1 j (bs l2)) (hb : (l.length + l2.length) * bytes ≤ 140737488355328) (h63 : l.length + l2.length ≤ 9223372036854775807) (hd : Nat.blt d n = true)
  (k : ∀ v' w', New w0 v' → St m0 m F w0 w' (Es.set i (rowE v' E 1 (l ++ l2).length (bs (l ++ l2)))) → v'.oneCell' = true → WL P n ops Q rest (upd d v' r) w') :
  WL P n ops Q (⟨some d, .call ⟨.builtin .append, #[s, y], #[T, U]⟩, ty, pos, after, none⟩ :: rest) r w := by
 have hj : l2.length = j := by have := src.length; simpa [bs] using this
 subst hj
 obtain ⟨v', w', h1, h2, h3, h4⟩ := append_own (ty := ty) (z := .int .u8 0) hT hU hD tf hz rfl (st.at hi) src h63 hb
 have e : bs l ++ bs l2 = bs (l ++ l2) := by simp [bs]
 rw [e, show l.length + l2.length = (l ++ l2).length by simp] at h2 h3
 refine wl_val (v := v') (w' := w') ?_ hd (k v' w' (fun q hq => ?_) (st.step i hi h3 h2) (row_one h2))
 ·intro _ _ _ _
  simp [execOp, resolve, invoke, builtin, hs, hy, h1]
 ·rcases h3.out q (by simp [rowE, hq]) with x | x
  ·exact hN q (by simpa [rowE] using x)
  ·exact Nat.le_trans st.touch.size x
end
end Go.Proofs.Ytonlmjpenonabaa

namespace Go.Proofs.Ytonlmjpenonabaa
open Go Go.RowKit K
namespace K
def insKV {α β : Type} [DecidableEq α] (k : α) (v : β) : List (α × β) → List (α × β)
 | [] => [(k, v)]
 | x :: r => if x.1 = k then (k, v) :: r else x :: insKV k v r
def getKV {α β : Type} [DecidableEq α] (k : α) : List (α × β) → Option β
 | [] => none
 | x :: r => if x.1 = k then some x.2 else getKV k r
section pure
variable {α β : Type} [DecidableEq α]
theorem insKV_new {k : α} {v : β} : ∀ {L : List (α × β)}, (∀ x ∈ L, x.1 ≠ k) → insKV k v L = L ++ [(k, v)]
 | [], _ => rfl
 | x :: r, h => by
  rw [insKV, if_neg (h x (by simp)), insKV_new fun y hy => h y (by simp [hy])]; rfl
theorem insKV_set {k : α} {v : β} : ∀ {L : List (α × β)} {j : Nat} {u : β}, (L.map (·.1)).Nodup → L[j]? = some (k, u) → insKV k v L = L.set j (k, v)
 | [], _, _, _, h => by simp at h
 | x :: r, 0, u, _, h => by
  simp only [List.getElem?_cons_zero, Option.some.injEq] at h
  subst h
  simp [insKV]
 | x :: r, j + 1, u, hn, h => by
  rw [List.getElem?_cons_succ] at h
  rw [List.map_cons, List.nodup_cons] at hn
  have hne : x.1 ≠ k := fun e => hn.1 (e ▸ List.mem_map.2 ⟨_, List.mem_of_getElem? h, rfl⟩)
  rw [insKV, if_neg hne, insKV_set hn.2 h]; rfl
theorem getKV_none {k : α} : ∀ {L : List (α × β)}, (∀ x ∈ L, x.1 ≠ k) → getKV k L = none
 | [], _ => rfl
 | x :: r, h => by rw [getKV, if_neg (h x (by simp)), getKV_none fun y hy => h y (by simp [hy])]
theorem getKV_at {k : α} : ∀ {L : List (α × β)} {j : Nat} {u : β}, (L.map (·.1)).Nodup → L[j]? = some (k, u) → getKV k L = some u
 | [], _, _, _, h => by simp at h
 | x :: r, 0, u, _, h => by
  simp only [List.getElem?_cons_zero, Option.some.injEq] at h
  subst h
  simp [getKV]
 | x :: r, j + 1, u, hn, h => by
  rw [List.getElem?_cons_succ] at h
  rw [List.map_cons, List.nodup_cons] at hn
  have hne : x.1 ≠ k := fun e => hn.1 (e ▸ List.mem_map.2 ⟨_, List.mem_of_getElem? h, rfl⟩)
  rw [getKV, if_neg hne, getKV_at hn.2 h]
theorem getKV_ins {k k' : α} {v : β} : ∀ {L : List (α × β)}, getKV k' (insKV k v L) = if k' = k then some v else getKV k' L
 | [] => by
  by_cases h : k' = k
  ·subst h; simp [insKV, getKV]
  ·simp [insKV, getKV, h, Ne.symm h]
 | x :: r => by
  by_cases h1 : x.1 = k
  ·rw [insKV, if_pos h1]
   by_cases h : k' = k
   ·subst h; simp [getKV]
   ·rw [getKV, if_neg (fun e => h e.symm), if_neg h, getKV, if_neg (fun e => h (e.symm.trans h1))]
  ·rw [insKV, if_neg h1, getKV, getKV_ins, getKV]
   by_cases h : k' = k
   ·subst h; simp [h1]
   ·simp [h]
theorem getKV_mem {k : α} {v : β} : ∀ {L : List (α × β)}, getKV k L = some v → (k, v) ∈ L
 | [], h => by cases h
 | x :: r, h => by
  rw [getKV] at h
  split at h
  ·rename_i e; cases h; subst e; exact List.mem_cons_self
  ·exact List.mem_cons_of_mem _ (getKV_mem h)
theorem mem_insKV {k : α} {v : β} {y : α × β} : ∀ {L : List (α × β)}, y ∈ insKV k v L → y = (k, v) ∨ y ∈ L
 | [], h => by simp [insKV] at h; exact .inl h
 | x :: r, h => by
  rw [insKV] at h
  split at h
  ·exact (List.mem_cons.1 h).imp id fun h => List.mem_cons_of_mem _ h
  ·rcases List.mem_cons.1 h with h | h
   ·exact .inr (h ▸ List.mem_cons_self)
   ·exact (mem_insKV h).imp id fun h => List.mem_cons_of_mem _ h
theorem len_insKV {k : α} {v : β} : ∀ {L : List (α × β)}, (insKV k v L).length ≤ L.length + 1
 | [] => by simp [insKV]
 | x :: r => by
  rw [insKV]
  split
  ·simp
  ·simpa using len_insKV (L := r)
theorem keys_insKV {k : α} {v : β} : ∀ {L : List (α × β)}, (insKV k v L).map (·.1) = L.map (·.1) ∨ ((insKV k v L).map (·.1) = L.map (·.1) ++ [k] ∧ k ∉ L.map (·.1))
 | [] => .inr (by simp [insKV])
 | x :: r => by
  rw [insKV]
  split
  ·rename_i e; left; simp [e]
  ·rename_i e
   rcases keys_insKV (k := k) (v := v) (L := r) with h | ⟨h, hn⟩
   ·left; simp [h]
   ·right
    refine ⟨by simp [h], ?_⟩
    simp only [List.map_cons, List.mem_cons, not_or]
    exact ⟨fun q => e q.symm, hn⟩
theorem nodup_insKV {k : α} {v : β} {L : List (α × β)} (h : (L.map (·.1)).Nodup) : ((insKV k v L).map (·.1)).Nodup := by
 rcases keys_insKV (k := k) (v := v) (L := L) with e | ⟨e, hn⟩
 ·rw [e]; exact h
 ·rw [e]
  exact List.nodup_append.2 ⟨h, by simp, fun a ha b hb => by
   rw [List.mem_singleton.1 hb]
   exact fun q => hn (q ▸ ha)⟩
end pure
structure KeyT (P : Program) (k : TypeId) {α : Type} (kv : α → Value) (ok : α → Prop) : Prop where
 law : Maps.Keyed P k
 lit : ∀ a, ok a → ∃ l, keyOf P k (kv a) = some l
 inj : ∀ a b, kv a = kv b → a = b
section
variable {α β : Type}
structure EsOk (kv : α → Value) (vv : β → Value) (es : Array MapEntry) (clock : Nat) (L : List (α × β)) : Prop where
 list : es.toList.map (fun e => (e.key, e.val)) = L.map fun x => (kv x.1, vv x.2)
 stamped : MapKept.Stamped es clock
 nodup : (L.map (·.1)).Nodup
def mapE (kv : α → Value) (vv : β → Value) (b : Nat) (L : List (α × β)) : Ent where
 foot := [b]
 holds := fun w => ∃ es clock, w.heap[b]? = some (.map es clock) ∧ EsOk kv vv es clock L
 keep := fun h hw => by rw [h b (by simp)]; exact hw
 live := fun h k hk => by obtain ⟨_, _, h, _⟩ := h; simp at hk; subst hk; exact lt_of_get h
def MapM (m : Mem) (kv : α → Value) (vv : β → Value) (b : Nat) (L : List (α × β)) : Prop := ∃ es clock, m b = some (.map es clock) ∧ EsOk kv vv es clock L
theorem MapM.mono {m m' : Mem} {kv : α → Value} {vv : β → Value} {b : Nat} {L : List (α × β)} (h : MapM m kv vv b L) (hm : ∀ k o, m k = some o → m' k = some o) : MapM m' kv vv b L := by
 obtain ⟨es, c, h1, h2⟩ := h
 exact ⟨es, c, hm _ _ h1, h2⟩
variable {P : Program} {w : World} {kv : α → Value} {vv : β → Value} {es : Array MapEntry} {clock b : Nat} {L : List (α × β)} {KT VT T : TypeId} {ok : α → Prop}
theorem EsOk.keys (h : EsOk kv vv es clock L) (K : KeyT P KT kv ok) (hok : ∀ x ∈ L, ok x.1) : ∀ e ∈ es.toList, ∃ l, keyOf P KT e.key = some l := fun e he => by
 have h1 : (e.key, e.val) ∈ L.map fun x => (kv x.1, vv x.2) := h.list ▸ List.mem_map.2 ⟨e, he, rfl⟩
 obtain ⟨x, hx, h2⟩ := List.mem_map.1 h1
 obtain ⟨l, hl⟩ := K.lit x.1 (hok x hx)
 exact ⟨l, by rw [← (Prod.mk.inj h2).1]; exact hl⟩
theorem EsOk.at (h : EsOk kv vv es clock L) (K : KeyT P KT kv ok) {j : Nat} {e : MapEntry} {k : α} (hj : es[j]? = some e) (hk : e.key = kv k) : ∃ u, L[j]? = some (k, u) ∧ e.val = vv u := by
 have h1 : (es.toList.map (fun e => (e.key, e.val)))[j]? = some (e.key, e.val) := by
  rw [List.getElem?_map, Array.getElem?_toList, hj]; rfl
 rw [h.list, List.getElem?_map] at h1
 cases hL : L[j]? with
 | none => rw [hL] at h1; cases h1
 | some x =>
  rw [hL] at h1
  simp only [Option.map_some, Option.some.injEq, Prod.mk.injEq] at h1
  obtain rfl := K.inj _ _ (h1.1.trans hk)
  exact ⟨x.2, rfl, h1.2.symm⟩
theorem EsOk.off (h : EsOk kv vv es clock L) {k : α} (hn : ∀ e ∈ es.toList, e.key ≠ kv k) : ∀ x ∈ L, x.1 ≠ k := fun x hx e => by
 have h1 : (kv x.1, vv x.2) ∈ es.toList.map (fun e => (e.key, e.val)) := h.list ▸ List.mem_map.2 ⟨x, hx, rfl⟩
 obtain ⟨y, hy, h2⟩ := List.mem_map.1 h1
 cases e
 exact hn y hy (Prod.mk.inj h2).1
theorem run_mapPut [DecidableEq α] (h : EsOk kv vv es clock L) (K : KeyT P KT kv ok) (hT : P.underlying T = some (.map KT VT)) (hok : ∀ x ∈ L, ok x.1) {k : α} {v : β} (hk : ok k) (hb : w.heap[b]? = some (.map es clock)) :
  ∃ es' clock', (Instr.mapUpdate T (.map (some b)) (kv k) (vv v)).run P w = .ok () (w.putObj b (.map es' clock')) ∧ EsOk kv vv es' clock' (insKV k v L) := by
 obtain ⟨l, hl⟩ := K.lit k hk
 have hq : ∀ o, (setObj b o).run P w = .ok () (w.putObj b o) := fun o => MapKept.run_setObj_map o hb
 rcases K.law.find w hl es.toList (h.keys K hok) with ⟨h1, h2⟩ | ⟨j, e0, h1, h2, h3⟩
 ·refine ⟨es.push { key := kv k, val := vv v, born := clock }, clock + 1, ?_, ?_, MapKept.stamped_push h.stamped h2, nodup_insKV h.nodup⟩
  ·simp [Instr.mapUpdate, run_underlying hT, MapKept.run_getObj_map hb, K.law.check w false hl, h1, hq, Result.andThen]
  ·rw [insKV_new (h.off h2)]
   simp [h.list]
 ·have hj : es[j]? = some e0 := by rw [← Array.getElem?_toList]; exact h2
  obtain ⟨u, hu, _⟩ := h.at K hj h3
  refine ⟨es.modify j (fun e' => { e' with key := kv k, val := vv v }), clock, ?_, ?_, MapKept.stamped_modify h.stamped _ _ (fun _ _ => rfl) (fun e' _ he' => by rw [hj] at he'; cases he'; exact h3.symm), nodup_insKV h.nodup⟩
  ·simp [Instr.mapUpdate, run_underlying hT, MapKept.run_getObj_map hb, K.law.check w false hl, h1, hj, h3, K.law.stays w hl, hq, Result.andThen]
  ·rw [insKV_set h.nodup hu]
   refine List.ext_getElem? fun i => ?_
   have h4 := congrArg (fun l : List (Value × Value) => l[i]?) h.list
   simp only [List.getElem?_map, Array.getElem?_toList] at h4
   simp only [List.getElem?_map, Array.getElem?_toList, Array.getElem?_modify, List.getElem?_set]
   by_cases hij : j = i
   ·subst hij
    have hlt : j < L.length := (List.getElem?_eq_some_iff.1 hu).1
    simp [hj, hlt]
   ·simp only [hij, if_false]
    exact h4
theorem run_mapGet [DecidableEq α] (h : EsOk kv vv es clock L) (K : KeyT P KT kv ok) (hT : P.underlying T = some (.map KT VT)) {z : Value} (hz : TyZ P VT z) (hok : ∀ x ∈ L, ok x.1) {k : α} (hk : ok k) (hb : w.heap[b]? = some (.map es clock)) (c : Bool) :
  (Instr.lookup T (.map (some b)) (kv k) c).run P w = .ok (if c then .tuple #[((getKV k L).map vv).getD z, .bool (getKV k L).isSome] else ((getKV k L).map vv).getD z) w := by
 obtain ⟨l, hl⟩ := K.lit k hk
 rcases K.law.find w hl es.toList (h.keys K hok) with ⟨h1, h2⟩ | ⟨j, e0, h1, h2, h3⟩
 ·rw [getKV_none (h.off h2)]
  simp [Instr.lookup, run_underlying hT, MapKept.run_getObj_map hb, K.law.check w _ hl, h1, hz.run, Result.andThen]
 ·have hj : es[j]? = some e0 := by rw [← Array.getElem?_toList]; exact h2
  obtain ⟨u, hu, hv⟩ := h.at K hj h3
  rw [getKV_at h.nodup hu]
  simp [Instr.lookup, run_underlying hT, MapKept.run_getObj_map hb, K.law.check w _ hl, h1, hv, Result.andThen]
variable {n : Nat} {ops : Array Oper} {Q : Po} {rest : List Oper} {r : Fr} {d : Nat} {ty : TypeId} {pos : String} {after : Array Edge} {m0 m : Mem} {F : List Nat} {w0 : World} {Es : List Ent}
theorem wl_makeMap (kv : α → Value) (vv : β → Value) (st : St m0 m F w0 w Es) (hd : Nat.blt d n = true)
  (k : ∀ b w', w0.heap.size ≤ b → St m0 m F w0 w' (mapE kv vv b [] :: Es) → WL P n ops Q rest (upd d (.map (some b)) r) w') :
  WL P n ops Q (⟨some d, .makeMap T none, ty, pos, after, none⟩ :: rest) r w := by
 refine wl_val (v := .map (some w.heap.size)) (w' := w.alloc (.map #[] 0)) ?_ hd (k _ _ st.touch.size (st.new (E := mapE kv vv w.heap.size []) (touch_alloc w _) ⟨#[], 0, World.alloc_heap_new w _, rfl, MapKept.stamped_empty 0, by simp⟩))
 intro _ _ _ _
 rfl
theorem wl_mapPut [DecidableEq α] (i : Nat) {x y z : Operand} {kk : α} {v : β} (st : St m0 m F w0 w Es) (hi : Es[i]? = some (mapE kv vv b L)) (K : KeyT P KT kv ok) (hT : P.underlying T = some (.map KT VT)) (hok : ∀ x ∈ L, ok x.1) (hk : ok kk)
  (hx : ev r x = .map (some b)) (hy : ev r y = kv kk) (hz : ev r z = vv v) (k : ∀ w', St m0 m F w0 w' (Es.set i (mapE kv vv b (insKV kk v L))) → WL P n ops Q rest r w') :
  WL P n ops Q (⟨none, .mapUpdate T x y z, ty, pos, after, none⟩ :: rest) r w := by
 obtain ⟨es, c, hb, he⟩ := st.at hi
 obtain ⟨es', c', h1, h2⟩ := run_mapPut he K hT hok (v := v) hk hb
 refine wl_eff (w' := w.putObj b (.map es' c')) ?_ (k _ (st.step i hi (touch_putObj w b _) ⟨es', c', World.putObj_heap_same (lt_of_get hb), h2⟩))
 intro _ _ _ _
 simp [execOp, hx, hy, hz, h1]
theorem v_mapGet [DecidableEq α] {x y : Operand} {kk : α} {z : Value} (hM : MapM m kv vv b L) (him : Im m w) (K : KeyT P KT kv ok) (hT : P.underlying T = some (.map KT VT)) (hz : TyZ P VT z) (hok : ∀ x ∈ L, ok x.1) (hk : ok kk) (hx : ev r x = .map (some b)) (hy : ev r y = kv kk) :
  Val P (.lookup T x y true) ty r w (.tuple #[((getKV kk L).map vv).getD z, .bool (getKV kk L).isSome]) w := by
 obtain ⟨es, c, hb, he⟩ := hM
 intro _ _ _ _
 simp [execOp, hx, hy, run_mapGet he K hT hz hok hk (him _ _ hb) true]
theorem St.freezeMap (h : St m0 m F w0 w Es) {i : Nat} (hi : Es[i]? = some (mapE kv vv b L)) (hb : b ∉ F) :
  ∃ m', Grow m m' w0.heap.size ∧ MapM m' kv vv b L ∧ St m0 m' F w0 w (Es.eraseIdx i) := by
 obtain ⟨es, c, hw, he⟩ := h.at hi
 have hlt : i < Es.length := by
  rcases Nat.lt_or_ge i Es.length with h' | h'
  ·exact h'
  ·rw [List.getElem?_eq_none h'] at hi; cases hi
 have ho := h.own _ (List.mem_of_getElem? hi) b (by simp [mapE])
 have hB : w0.heap.size ≤ b := ho.2.resolve_right hb
 have hg : Grow m (fun k => if k = b then some (.map es c) else m k) w0.heap.size := by
  refine ⟨fun k o hk => ?_, fun k o hk => ?_⟩
  ·have : k ≠ b := fun e => by rw [e, ho.1] at hk; cases hk
   simp [this, hk]
  ·by_cases hkb : k = b
   ·exact .inr (hkb ▸ hB)
   ·simp [hkb] at hk; exact .inl hk
 refine ⟨_, hg, ⟨es, c, by simp, he⟩, ⟨h.touch, h.grow.trans hg (Nat.le_refl _), ?_, (h.drop i).holds, (h.drop i).sep, ?_⟩⟩
 ·intro k o hk
  by_cases hkb : k = b
  ·subst hkb
   simp at hk
   rw [← hk]
   exact hw
  ·simp [hkb] at hk; exact h.im k o hk
 ·intro E hE k hk
  refine ⟨?_, (h.own E (List.mem_of_mem_eraseIdx hE) k hk).2⟩
  have hne : k ≠ b := by
   intro e
   subst e
   obtain ⟨j, hj, hje⟩ := List.getElem_of_mem hE
   have hget : Es[i] = mapE kv vv k L := by rw [List.getElem?_eq_getElem hlt] at hi; exact Option.some.inj hi
   rw [List.getElem_eraseIdx] at hje
   have hpw := List.pairwise_iff_getElem.1 h.sep
   split at hje
   ·rename_i hji
    exact hpw j i (by omega) hlt hji k (by rw [hje]; exact hk) (by rw [hget]; simp [mapE])
   ·rename_i hji
    have hj' : j + 1 < Es.length := by rw [List.length_eraseIdx] at hj; split at hj <;> omega
    exact hpw i (j + 1) hlt hj' (by omega) k (by rw [hget]; simp [mapE]) (by rw [hje]; exact hk)
  simp [hne, (h.own E (List.mem_of_mem_eraseIdx hE) k hk).1]
end
theorem mapM_some {α β : Type} {f : α → Option β} {g : α → β} : ∀ {l : List α}, (∀ x ∈ l, f x = some (g x)) → l.mapM f = some (l.map g)
 | [], _ => rfl
 | x :: r, h => by
  rw [List.mapM_cons, h x (by simp), mapM_some fun y hy => h y (by simp [hy])]; rfl
theorem arr_keyT {P : Program} {k E : TypeId} {c : Nat} (hT : P.underlying k = some (.array c E)) (hE : P.underlying E = some (.int .u8)) (hc : P.cellsOf k = c) (hcE : P.cellsOf E = 1) (hkt : P.keyType k = true) (hk : P.keyTypeAt 2 k = true) (ht : P.tiled 2 k = true) (hsz : P.types.size ≠ 0) :
  KeyT P k arr fun l => l.length = c where
 law := Maps.Keyed.of_law (deep_law (m := 2) (by decide) hk ht (by rw [hT]))
 inj := fun a b h => by
  simp only [arr, Value.agg.injEq] at h
  exact bs_inj (by simpa using congrArg Array.toList h)
 lit := fun l hl => by
  obtain ⟨q, hq⟩ : ∃ q, P.types.size = q + 1 := ⟨P.types.size - 1, by omega⟩
  have hf : (arr l).formed P k = true := by simp [Value.formed, arr, hT, hc, length_bs, hl]
  have hm : ∃ ls, P.keyLits (P.types.size + 1) k (arr l).cells.toList = some ls := by
   have hcs : (arr l).cells.toList = bs l := rfl
   have hlen : (bs l).length = P.cellsOf k := by rw [length_bs, hl, hc]
   rw [hcs]
   unfold Program.keyLits
   simp only [hT, hlen, if_true, hcE, Nat.mul_one]
   refine ⟨_, congrArg (Option.map List.flatten) (mapM_some (g := fun i => [Lit.int .u8 ((l[i]?.getD 0).toNat : Int)]) fun i hi => ?_)⟩
   have hi2 : i < l.length := by rw [hl]; exact List.mem_range.1 hi
   have e : ((bs l).drop i).take 1 = [u8 l[i]] := by
    rw [List.drop_eq_getElem_cons (by rw [length_bs]; exact hi2)]
    simp [bs]
   rw [e, hq]
   unfold Program.keyLits
   simp only [hE]
   have hw : (Lit.int .u8 (l[i].toNat : Int)).wf = true := by
    have := l[i].toNat_lt
    simp only [Lit.wf]
    have h0 : IntKind.u8.min = 0 := rfl
    have h1 : IntKind.u8.max = 255 := rfl
    first | (simp [h0, h1]; omega) | (simp [IntKind.fits, h0, h1]; omega)
   simp [u8, hw, List.getElem?_eq_getElem hi2]
  obtain ⟨ls, hls⟩ := hm
  refine ⟨.string (keyBytes ls), ?_⟩
  unfold keyOf
  rw [hT]
  simp [hkt, hf, hls]
end K
end Go.Proofs.Ytonlmjpenonabaa

namespace Go.Proofs.Ytonlmjpenonabaa
open Go Go.RowKit K
def objE (b : Nat) (o : Obj) : Ent where
 foot := [b]
 holds := fun w => w.heap[b]? = some o
 keep := fun h hw => by rw [h b (by simp)]; exact hw
 live := fun h k hk => by simp at hk; subst hk; exact lt_of_get h
end Go.Proofs.Ytonlmjpenonabaa

namespace Go.Proofs.Ytonlmjpenonabaa
open Go Go.RowKit K
namespace K
section
variable {α β : Type}
def iterE (kv : α → Value) (vv : β → Value) (es : Array MapEntry) (clock b r : Nat) (L : List (α × β)) : Ent where
 foot := [r]
 holds := fun w => ∃ since seen c0, w.heap[r]? = some (.mapIter (some b) since seen c0) ∧ (∀ x ∈ es.toList, x.born < since) ∧ since ≤ c0 ∧ since ≤ clock ∧ (leftOf es seen).toList.map (fun e => (e.key, e.val)) = L.map fun x => (kv x.1, vv x.2)
 keep := fun h hw => by rw [h r (by simp)]; exact hw
 live := fun h k hk => by obtain ⟨_, _, _, h, _⟩ := h; simp at hk; subst hk; exact lt_of_get h
variable {P : Program} {w : World} {kv : α → Value} {vv : β → Value} {es : Array MapEntry} {clock b rb : Nat} {L M : List (α × β)} {KT VT T : TypeId}
variable {n : Nat} {ops : Array Oper} {Q : Po} {rest : List Oper} {r : Fr} {d : Nat} {ty : TypeId} {pos : String} {after : Array Edge} {m0 m : Mem} {F : List Nat} {w0 : World} {Es : List Ent}
theorem wl_range {x : Operand} (st : St m0 m F w0 w Es) (hb : m b = some (.map es clock)) (he : EsOk kv vv es clock L) (hT : P.underlying T = some (.map KT VT)) (hx : ev r x = .map (some b)) (hd : Nat.blt d n = true)
  (k : ∀ g w', w0.heap.size ≤ g → St m0 m F w0 w' (iterE kv vv es clock b g L :: Es) → WL P n ops Q rest (upd d (.pointer (some ⟨g, 0, none⟩)) r) w') :
  WL P n ops Q (⟨some d, .range T x, ty, pos, after, none⟩ :: rest) r w := by
 have hbw := st.im _ _ hb
 refine wl_val (v := .pointer (some ⟨w.heap.size, 0, none⟩)) (w' := w.alloc (.mapIter (some b) clock #[] clock)) ?_ hd (k _ _ st.touch.size (st.new (E := iterE kv vv es clock b w.heap.size L) (touch_alloc w _) ⟨clock, #[], clock, World.alloc_heap_new w _, he.stamped.1, Nat.le_refl _, Nat.le_refl _, ?_⟩))
 ·intro _ _ _ _
  simp [execOp, hx, run_range_map w T KT VT b es clock hT hbw]
 ·rw [← he.list]; congr 1; unfold leftOf; rw [Array.toList_filter]; exact List.filter_eq_self.2 fun x _ => by simp
theorem left_push {es : Array MapEntry} {seen : Array Nat} {e : MapEntry} (hn : (es.toList.map (·.born)).Nodup) {l1 l2 : List MapEntry} (h : (leftOf es seen).toList = l1 ++ e :: l2) : (leftOf es (seen.push e.born)).toList = l1 ++ l2 := by
 have h1 : (leftOf es (seen.push e.born)).toList = (leftOf es seen).toList.filter (fun x => !(x.born == e.born)) := by
  unfold leftOf
  rw [Array.toList_filter, Array.toList_filter, List.filter_filter]
  refine List.filter_congr fun x _ => ?_
  rw [contains_push]
  cases seen.contains x.born <;> cases (x.born == e.born) <;> rfl
 have hs : ((leftOf es seen).toList.map (·.born)).Nodup := by
  have : (leftOf es seen).toList.Sublist es.toList := by unfold leftOf; rw [Array.toList_filter]; exact List.filter_sublist
  exact hn.sublist (this.map _)
 rw [h] at hs
 rw [List.map_append, List.map_cons, List.nodup_append] at hs
 obtain ⟨_, hs2, hs3⟩ := hs
 rw [List.nodup_cons] at hs2
 rw [h1, h, List.filter_append, List.filter_cons]
 have a1 : l1.filter (fun x => !(x.born == e.born)) = l1 := List.filter_eq_self.2 fun x hx => by
  have := hs3 x.born (List.mem_map.2 ⟨x, hx, rfl⟩) e.born (by simp)
  simp [this]
 have a2 : l2.filter (fun x => !(x.born == e.born)) = l2 := List.filter_eq_self.2 fun x hx => by
  have : x.born ≠ e.born := fun q => hs2.1 (q ▸ List.mem_map.2 ⟨x, hx, rfl⟩)
  simp [this]
 rw [a1, a2]
 simp
theorem next_or {ty : TypeId} (i : Nat) (st : St m0 m F w0 w Es) (hi : Es[i]? = some (iterE kv vv es clock b rb M)) (hb : m b = some (.map es clock)) (he : EsOk kv vv es clock L) :
  (M = [] ∧ (Instr.next (.pointer (some ⟨rb, 0, none⟩)) false ty).run P w = .ok (.tuple #[.bool false]) w) ∨
  ∃ p1 y p2 w', M = p1 ++ y :: p2 ∧ St m0 m F w0 w' (Es.set i (iterE kv vv es clock b rb (p1 ++ p2))) ∧ (Instr.entry (.pointer (some ⟨rb, 0, none⟩))).run P w' = .ok (.tuple #[kv y.1, vv y.2]) w' ∧ (Instr.next (.pointer (some ⟨rb, 0, none⟩)) false ty).run P w = .ok (.tuple #[.bool true, kv y.1, vv y.2]) w' := by
 obtain ⟨since, seen, c0, hr, hold, hsc, hsk, hl⟩ := st.at hi
 have hbw := st.im _ _ hb
 have hst := he.stamped
 rcases run_next_at (P := P) w ty rb b since c0 seen es clock hr hbw hold hsc with ⟨h0, hrun⟩ | ⟨e, hel, w1, hw1, hrun⟩
 ·refine .inl ⟨?_, hrun⟩
  have : (leftOf es seen).toList = [] := List.eq_nil_of_length_eq_zero (by simpa using h0)
  rw [this] at hl
  exact List.map_eq_nil_iff.1 hl.symm
 ·obtain ⟨l1, l2, hsp⟩ := List.append_of_mem hel
  have hl' := hl
  rw [hsp, List.map_append, List.map_cons] at hl'
  obtain ⟨p1, p', hM, e1, e2⟩ := List.map_eq_append_iff.1 hl'.symm
  obtain ⟨y, p2, hp', e3, e4⟩ := List.map_eq_cons_iff.1 e2
  subst hp'
  obtain ⟨q1, q2⟩ := Prod.mk.inj e3
  have hem : e ∈ es.toList := (mem_left hel).1
  have hlt : rb < w1.heap.size := by rcases hw1 with rfl | rfl <;> exact lt_of_get hr
  have t1 : Tch w w1 [] [] := by rcases hw1 with rfl | rfl; exact Tch.refl _ _; exact touch_drew w
  have hset : (ChangeMaps.setBlock w1 rb (.mapIter (some b) since (seen.push e.born) clock)).heap[rb]? = some (.mapIter (some b) since (seen.push e.born) clock) := World.putObj_heap_same hlt
  have st1 := st.pure t1
  have st2 := st1.step (E' := iterE kv vv es clock b rb (p1 ++ p2)) i hi (touch_putObj w1 rb (.mapIter (some b) since (seen.push e.born) clock)) ⟨since, seen.push e.born, clock, hset, hold, hsk, hsk, by rw [left_push hst.2.1 hsp, List.map_append, List.map_append, e1, e4]⟩
  have hent := run_entry_at (P := P) _ rb b since seen es clock e hset (st2.im _ _ hb) hem hst.2.1
  rw [← q1, ← q2] at hent hrun
  exact .inr ⟨p1, y, p2, _, hM, st2, hent, hrun⟩
theorem v_next {x : Operand} {v : Value} {w' : World} (h : (Instr.next (.pointer (some ⟨rb, 0, none⟩)) false ty).run P w = .ok v w') (hx : ev r x = .pointer (some ⟨rb, 0, none⟩)) : Val P (.next x false) ty r w v w' := by
 intro _ _ _ _
 simp [execOp, hx, h]
theorem v_entry {x : Operand} {v : Value} (h : (Instr.entry (.pointer (some ⟨rb, 0, none⟩))).run P w = .ok v w) (hx : ev r x = .pointer (some ⟨rb, 0, none⟩)) : Val P (.entry x) ty r w v w := by
 intro _ _ _ _
 simp [execOp, hx, h]
theorem v_mapGet1 [DecidableEq α] {x y : Operand} {kk : α} {z : Value} {ok : α → Prop} (hM : MapM m kv vv b L) (him : Im m w) (K : KeyT P KT kv ok) (hT : P.underlying T = some (.map KT VT)) (hz : TyZ P VT z) (hok : ∀ x ∈ L, ok x.1) (hk : ok kk) (hx : ev r x = .map (some b)) (hy : ev r y = kv kk) :
  Val P (.lookup T x y false) ty r w (((getKV kk L).map vv).getD z) w := by
 obtain ⟨es, c, hb, he⟩ := hM
 intro _ _ _ _
 simp [execOp, hx, hy, run_mapGet he K hT hz hok hk (him _ _ hb) false]
end
end K
end Go.Proofs.Ytonlmjpenonabaa

namespace Go.Proofs.Ytonlmjpenonabaa
open Go Go.RowKit K SH PT
namespace Tr
def ofL (L : List (By × By)) : Tr := L.foldl (fun t x => Tr.put x.1 x.2 t 0) .e
theorem ofL_snoc {L : List (By × By)} {x : By × By} : ofL (L ++ [x]) = Tr.put x.1 x.2 (ofL L) 0 := by simp [ofL]
end Tr
def halfL (L : List (By × By)) (d : Int) (on : Bool) : List (By × By) := L.filter fun x => bitI x.1 d == on
theorem halfL_take {L : List (By × By)} {d : Int} {on : Bool} {i : Nat} (hi : i < L.length) : halfL (L.take (i + 1)) d on = halfL (L.take i) d on ++ (if (bitI L[i].1 d == on) = true then [L[i]] else []) := by
 unfold halfL
 rw [List.take_succ_eq_append_getElem hi, List.filter_append]
 simp only [List.filter_cons, List.filter_nil]
theorem halfL_le {L : List (By × By)} {d : Int} {on : Bool} : (halfL L d on).length ≤ L.length := List.length_filter_le _ _
end Go.Proofs.Ytonlmjpenonabaa

namespace Go.Proofs.Ytonlmjpenonabaa
open Go Go.RowKit K
namespace PT
def lt : By → By → Bool
 | x :: a, y :: b => if x = y then lt a b else decide (x.toNat < y.toNat)
 | _, _ => false
theorem lt_step {a b : By} {i : Nat} (ha : i < a.length) (hb : i < b.length) : lt (a.drop i) (b.drop i) = if a.getD i 0 = b.getD i 0 then lt (a.drop (i + 1)) (b.drop (i + 1)) else decide ((a.getD i 0).toNat < (b.getD i 0).toNat) := by
 rw [List.drop_eq_getElem_cons ha, List.drop_eq_getElem_cons hb]
 simp [lt, List.getD, ha, hb]
end PT
open PT
section
variable {m : Mem} {wI : World}
theorem c_less {a b : By} (him : Im m wI) (ha : a.length = 32) (hb : b.length = 32) : Ret Try.prog 61 #[arr a, arr b] wI fun v w' => Tch wI w' [] [] ∧ v = .bool (lt a b) := by
 have st := St.start him
 refine ret_of Try.call61 Try.func61 rfl Try.ntmps61 Try.results61 rfl ?_
 refine wc_seq ?_
 refine wc_region ?_
 refine wl_box (v := arr a) rfl st rfl ?_
 intro b2 w st
 refine wl_box (v := arr b) rfl st rfl ?_
 intro b3 w st
 refine wl_val (v_assign' (by conv => (lhs; whnf))) rfl ?_
 refine wl_nil ?_
 refine then_go ?_
 refine wc_seq ?_
 refine wc_seq ?_
 refine wc_region ?_
 refine wl_val (v_assign' (by conv => (lhs; whnf))) rfl ?_
 refine wl_nil ?_
 refine then_go ?_
 refine wc_block ?_
 refine wc_loop (S := Nat) (fun q r w' => ∃ i, q + i = 32 ∧ r 2 = .pointer (some ⟨b2, 0, none⟩) ∧ r 3 = .pointer (some ⟨b3, 0, none⟩) ∧ r 5 = .int .i64 i ∧ lt a b = lt (a.drop i) (b.drop i) ∧ St m m [] wI w' [K.blk b3 (arr b).cells 28, K.blk b2 (arr a).cells 28]) id 32 ⟨0, rfl, rfl, rfl, rfl, rfl, st⟩ ?_
 rintro q r w2 ⟨i, hqi, h2, h3, h5, hlt, st⟩
 refine wc_o 2 h2 (wc_o 3 h3 (wc_o 5 h5 ?_))
 refine wc_seq ?_
 refine wc_seq ?_
 refine wc_region ?_
 refine wl_val (v_move' (by conv => (lhs; whnf))) rfl ?_
 refine wl_val (v_lss rfl rfl) rfl ?_
 refine wl_nil ?_
 refine then_go ?_
 refine wc_if rfl (fun h7 => ?_) (fun h7 => ?_)
 ·refine wc_skip ?_
  refine then_go ?_
  refine wc_seq ?_
  refine wc_block ?_
  refine wc_seq ?_
  have hi : i < 32 := by omega
  have hst := lt_step (a := a) (b := b) (i := i) (by omega) (by omega)
  refine wc_draw TF.mixed ?_
  have st := st.pure (touch_drew _)
  refine fl_val 0 rfl (fun _ => (v_move' (by conv => (lhs; whnf)))) rfl (by kernel_rfl) ?_
  refine fl_val 1 rfl (fun _ => (v_iaa i Try.underlying28 TF.t5 rfl rfl (by first | rfl | omega) (by first | omega | (dsimp only at *; omega)))) rfl (by kernel_rfl) ?_
  refine fl_ld 2 rfl (v_load rfl (st.reads (v := u8 (a.getD i 0)) 1 rfl TF.t5 (getV_bsd (j := i) (by omega) (by omega)))) (by kernel_rfl) ?_
  refine fl_val 3 rfl (fun _ => (v_move' (by conv => (lhs; whnf)))) rfl (by kernel_rfl) ?_
  refine fl_val 4 rfl (fun _ => (v_iaa i Try.underlying28 TF.t5 rfl rfl (by first | rfl | omega) (by first | omega | (dsimp only at *; omega)))) rfl (by kernel_rfl) ?_
  refine fl_ld 5 rfl (v_load rfl (st.reads (v := u8 (b.getD i 0)) 0 rfl TF.t5 (getV_bsd (j := i) (by omega) (by omega)))) (by kernel_rfl) ?_
  refine fl_val 6 rfl (fun _ => (v_neq rfl rfl)) rfl (by kernel_rfl) ?_
  refine fl_nil (by kernel_rfl) ⟨obl_ld rfl rfl rfl (v_load rfl (st.reads (v := u8 (b.getD i 0)) 0 rfl TF.t5 (getV_bsd (j := i) (by omega) (by omega)))), obl_ld rfl rfl rfl (v_load rfl (st.reads (v := u8 (a.getD i 0)) 1 rfl TF.t5 (getV_bsd (j := i) (by omega) (by omega)))), trivial⟩ ?_
  refine then_go ?_
  refine wc_if rfl (fun h16 => ?_) (fun h16 => ?_)
  ·refine wc_seq ?_
   refine wc_draw TF.mixed ?_
   have st := st.pure (touch_drew _)
   refine fl_val 0 rfl (fun _ => (v_move' (by conv => (lhs; whnf)))) rfl (by kernel_rfl) ?_
   refine fl_val 1 rfl (fun _ => (v_iaa i Try.underlying28 TF.t5 rfl rfl (by first | rfl | omega) (by first | omega | (dsimp only at *; omega)))) rfl (by kernel_rfl) ?_
   refine fl_ld 2 rfl (v_load rfl (st.reads (v := u8 (a.getD i 0)) 1 rfl TF.t5 (getV_bsd (j := i) (by omega) (by omega)))) (by kernel_rfl) ?_
   refine fl_val 3 rfl (fun _ => (v_move' (by conv => (lhs; whnf)))) rfl (by kernel_rfl) ?_
   refine fl_val 4 rfl (fun _ => (v_iaa i Try.underlying28 TF.t5 rfl rfl (by first | rfl | omega) (by first | omega | (dsimp only at *; omega)))) rfl (by kernel_rfl) ?_
   refine fl_ld 5 rfl (v_load rfl (st.reads (v := u8 (b.getD i 0)) 0 rfl TF.t5 (getV_bsd (j := i) (by omega) (by omega)))) (by kernel_rfl) ?_
   refine fl_val 6 rfl (fun _ => (v_lss rfl rfl)) rfl (by kernel_rfl) ?_
   refine fl_eff1 7 [] [] (by kernel_rfl) ⟨obl_ld rfl rfl rfl (v_load rfl (st.reads (v := u8 (b.getD i 0)) 0 rfl TF.t5 (getV_bsd (j := i) (by omega) (by omega)))), obl_ld rfl rfl rfl (v_load rfl (st.reads (v := u8 (a.getD i 0)) 1 rfl TF.t5 (getV_bsd (j := i) (by omega) (by omega)))), trivial⟩ rfl ?_
   refine wl_val (v_assign' (by conv => (lhs; whnf))) rfl ?_
   refine wl_nil ⟨rfl, ?_⟩
   refine fl_nil (by kernel_rfl) trivial ?_
   refine then_go ?_
   refine wc_ret (block_ret (then_ret (then_ret (block_ret (then_ret ?_)))))
   have hne : ¬ a.getD i 0 = b.getD i 0 := fun e => h16 (by rw [e])
   refine ret1 rfl ⟨(st.keepOnly (l := []) (List.nil_sublist _)).touch, ?_⟩
   rw [hlt, hst, if_neg hne]
   show Value.bool _ = Value.bool _
   congr 1
   exact decide_eq_decide.2 (by omega)
  ·refine wc_skip ?_
   refine block_go (then_go ?_)
   refine wc_region ?_
   refine wl_val (v_move' (by conv => (lhs; whnf))) rfl ?_
   refine wl_val (v_add' rfl rfl rfl (by first | omega | (dsimp only at *; omega)) (by first | omega | (dsimp only at *; omega))) rfl ?_
   refine wl_val (v_assign' (by conv => (lhs; whnf))) rfl ?_
   refine wl_nil ?_
   refine then_go ?_
   have he : a.getD i 0 = b.getD i 0 := UInt8.toNat_inj.mp (by omega)
   exact ⟨q - 1, by simp; omega, i + 1, by omega, rfl, rfl, rfl, by rw [hlt, hst, if_pos he], st⟩
 ·refine wc_exit (then_exit (then_exit (block_hit ?_)))
  refine then_go ?_
  refine wc_seq ?_
  refine wc_region ?_
  refine wl_val (v_assign' (by conv => (lhs; whnf))) rfl ?_
  refine wl_nil ?_
  refine then_go ?_
  refine wc_ret ?_
  have hi32 : i = 32 := by omega
  subst hi32
  refine ret1 rfl ⟨(st.keepOnly (l := []) (List.nil_sublist _)).touch, ?_⟩
  rw [hlt, List.drop_eq_nil_of_le (by omega), List.drop_eq_nil_of_le (by omega)]
  rfl
end
end Go.Proofs.Ytonlmjpenonabaa

namespace Go.Proofs.Ytonlmjpenonabaa
open Go Go.RowKit K SH PT
def putG (x v : By) : List (By × By) → Bool → List (By × By)
 | [], b => if b = true then [] else [(x, v)]
 | e :: l, b => (if b = false ∧ lt e.1 x = false then [(x, v)] else []) ++ ((if e.1 = x then [] else [e]) ++ putG x v l (b || !lt e.1 x))
def putL (x v : By) (L : List (By × By)) : List (By × By) := putG x v L false
theorem mem_putG {x v : By} {y : By × By} : ∀ {l : List (By × By)} {b : Bool}, y ∈ putG x v l b → y = (x, v) ∨ y ∈ l
 | [], b, h => by unfold putG at h; split at h <;> simp at h; exact .inl h
 | e :: l, b, h => by
  unfold putG at h
  rcases List.mem_append.1 h with h | h
  ·split at h <;> simp at h
   exact .inl h
  ·rcases List.mem_append.1 h with h | h
   ·split at h <;> simp at h
    exact .inr (by simp [h])
   ·rcases mem_putG h with h | h
    ·exact .inl h
    ·exact .inr (by simp [h])
theorem length_putG {x v : By} : ∀ {l : List (By × By)} {b : Bool}, (putG x v l b).length ≤ l.length + (if b = true then 0 else 1)
 | [], b => by unfold putG; cases b <;> simp
 | e :: l, b => by
  unfold putG
  have h := length_putG (x := x) (v := v) (l := l) (b := b || !lt e.1 x)
  simp only [List.length_append, List.length_cons]
  have h1 : (if e.1 = x then ([] : List (By × By)) else [e]).length ≤ 1 := by split <;> simp
  cases b <;> cases hl : lt e.1 x <;> simp [hl] at h ⊢ <;> omega
def D32p (L : List (By × By)) : Prop := ∀ x ∈ L, x.1.length = 32 ∧ x.2.length = 32
theorem D32p.fst {L : List (By × By)} (h : D32p L) : D32 (L.map (·.1)) := fun x hx => by
 obtain ⟨y, hy, rfl⟩ := List.mem_map.1 hx
 exact (h y hy).1
theorem D32p.snd {L : List (By × By)} (h : D32p L) : D32 (L.map (·.2)) := fun x hx => by
 obtain ⟨y, hy, rfl⟩ := List.mem_map.1 hx
 exact (h y hy).2
theorem D32p.of {L : List (By × By)} (h1 : D32 (L.map (·.1))) (h2 : D32 (L.map (·.2))) : D32p L := fun x hx => ⟨h1 _ (List.mem_map.2 ⟨x, hx, rfl⟩), h2 _ (List.mem_map.2 ⟨x, hx, rfl⟩)⟩
theorem LvM.d32 {m : Mem} {v : Value} {L : List (By × By)} (h : LvM m v L) : D32p L := by
 obtain ⟨_, _, _, h1, h2⟩ := h
 exact .of h1.1 h2.1
theorem D32p.put {x v : By} {L : List (By × By)} (h : D32p L) (hx : x.length = 32) (hv : v.length = 32) : D32p (putL x v L) := fun y hy => by
 rcases mem_putG hy with rfl | hy
 ·exact ⟨hx, hv⟩
 ·exact h y hy
section
variable {m : Mem} {wI : World}
theorem c_rput {lv : Value} {L : List (By × By)} {x v : By} (him : Im m wI) (hl : LvM m lv L) (hx : x.length = 32) (hv : v.length = 32) (hL : L.length < 1099511627000) :
  Ret Try.prog 36 #[lv, arr x, arr v] wI fun v' w' => Out m wI w' fun m' => LvM m' v' (putL x v L) := by
 have st := St.start him
 have hd := hl.d32
 obtain ⟨a1, c1, a2, c2, rfl, h1, h2⟩ := hl.open
 have hlp := length_putG (x := x) (v := v) (l := L) (b := false)
 simp only [Bool.false_eq_true, if_false] at hlp
 refine ret_of Try.call36 Try.func36 rfl Try.ntmps36 Try.results36 rfl ?_
 refine wc_seq ?_
 refine wc_region ?_
 refine wl_box (v := .agg #[.slice a1 L.length c1, .slice a2 L.length c2]) rfl st rfl ?_
 intro b3 w st
 refine wl_box (v := arr x) rfl st rfl ?_
 intro b4 w st
 refine wl_box (v := arr v) rfl st rfl ?_
 intro b5 w st
 refine wl_alloc TF.z34 st rfl ?_
 intro b6 w st
 refine wl_nil ?_
 refine then_go ?_
 refine wc_seq ?_
 refine wc_region ?_
 refine wl_val (v_build (c' := #[.slice none 0 0, .slice none 0 0]) [] TF.z34 TF.p34 rfl rfl) rfl ?_
 refine wl_alloc TF.z34 st rfl ?_
 intro b7 w st
 refine wl_storeW (cs := #[.slice none 0 0, .slice none 0 0]) 0 st rfl TF.t34 rfl rfl rfl rfl (by simp [Value.oneCell']) ?_
 intro w st
 refine wl_nil ?_
 refine then_go ?_
 refine wc_seq ?_
 refine wc_region ?_
 refine wl_val (v_assign' (by conv => (lhs; whnf))) rfl ?_
 refine wl_nil ?_
 refine then_go ?_
 refine wc_seq ?_
 refine wc_seq ?_
 refine wc_region ?_
 refine wl_val (v_assign' (by conv => (lhs; whnf))) rfl ?_
 refine wl_nil ?_
 refine then_go ?_
 refine wc_block ?_
 have st := st.nilDig.nilDig
 refine wc_loop (S := Nat) (fun q r w' => ∃ (i : Nat) (fl : Bool) (out : List (By × By)) (v1 v2 : Value), q + i = L.length ∧ r 3 = .pointer (some ⟨b3, 0, none⟩) ∧ r 4 = .pointer (some ⟨b4, 0, none⟩) ∧ r 5 = .pointer (some ⟨b5, 0, none⟩) ∧ r 6 = .pointer (some ⟨b6, 0, none⟩) ∧ r 7 = .pointer (some ⟨b7, 0, none⟩) ∧ r 8 = .bool fl ∧ r 9 = .int .i64 i ∧ out ++ putG x v (L.drop i) fl = putG x v L false ∧
  St m m [] wI w' [digE v1 (out.map (·.1)), digE v2 (out.map (·.2)), K.blk b7 #[v1, v2] 34, K.blk b6 #[.slice none 0 0, .slice none 0 0] 34, K.blk b5 (arr v).cells 28, K.blk b4 (arr x).cells 28, K.blk b3 #[.slice a1 L.length c1, .slice a2 L.length c2] 34]) id L.length ⟨0, false, [], _, _, by omega, rfl, rfl, rfl, rfl, rfl, rfl, rfl, rfl, st⟩ ?_
 rintro q r w2 ⟨i, fl, out, v1, v2, hqi, g3, g4, g5, g6, g7, g8, g9, hG, st⟩
 refine wc_o 3 g3 (wc_o 4 g4 (wc_o 5 g5 (wc_o 6 g6 (wc_o 7 g7 (wc_o 8 g8 (wc_o 9 g9 ?_))))))
 have hol : out.length ≤ L.length + 1 := by
  have := congrArg List.length hG
  simp only [List.length_append] at this
  omega
 have hof : (out.map (·.1)).length ≤ L.length + 1 := by rw [List.length_map]; exact hol
 have hos : (out.map (·.2)).length ≤ L.length + 1 := by rw [List.length_map]; exact hol
 refine wc_seq ?_
 refine wc_seq ?_
 refine wc_region ?_
 refine wl_val (v_move' (by conv => (lhs; whnf))) rfl ?_
 refine wl_val (v_fa TF.f34_0 rfl) rfl ?_
 refine wl_val (v_load rfl (st.reads 6 rfl TF.t22 rfl)) rfl ?_
 refine wl_val (v_len_s Try.underlying22 rfl) rfl ?_
 refine wl_val (v_lss rfl rfl) rfl ?_
 refine wl_nil ?_
 refine then_go ?_
 refine wc_if rfl (fun h15 => ?_) (fun h15 => ?_)
 ·refine wc_skip ?_
  refine then_go ?_
  refine wc_seq ?_
  refine wc_block ?_
  refine wc_seq ?_
  refine wc_seq ?_
  have hi : i < L.length := by omega
  have hm1 : i < (L.map (·.1)).length := by rw [List.length_map]; exact hi
  have hm2 : i < (L.map (·.2)).length := by rw [List.length_map]; exact hi
  have e1 : (L.map (·.1))[i] = L[i].1 := by simp
  have e2 : (L.map (·.2))[i] = L[i].2 := by simp
  have l1 : L[i].1.length = 32 := (hd _ (List.getElem_mem hi)).1
  have l2 : L[i].2.length = 32 := (hd _ (List.getElem_mem hi)).2
  rw [List.drop_eq_getElem_cons hi, putG] at hG
  obtain ⟨ba, oa, hba⟩ := h1.ptr (by omega)
  obtain ⟨bv, ov, hbv⟩ := h2.ptr (by omega)
  subst hba
  subst hbv
  rcases fl with _ | _
  ·refine wc_draw TF.mixed ?_
   have st := st.pure (touch_drew _)
   refine fl_val 0 rfl (fun _ => (v_move' (by conv => (lhs; whnf)))) rfl (by kernel_rfl) ?_
   refine fl_val 1 rfl (fun _ => (v_not rfl)) rfl (by kernel_rfl) ?_
   refine fl_val 2 rfl (fun _ => (v_move' (by conv => (lhs; whnf)))) rfl (by kernel_rfl) ?_
   refine fl_on 3 rfl rfl rfl rfl (fun _ => (v_fa TF.f34_0 rfl)) rfl (by kernel_rfl) ?_
   refine fl_ond 4 rfl rfl rfl rfl (v_load rfl (st.reads 6 rfl TF.t22 rfl)) rfl (by kernel_rfl) ?_
   refine fl_on 5 rfl rfl rfl rfl (fun _ => (v_move' (by conv => (lhs; whnf)))) rfl (by kernel_rfl) ?_
   refine fl_on 6 rfl rfl rfl rfl (fun _ => (v_ias i Try.underlying22 TF.t28 rfl rfl (by first | rfl | omega) (by first | omega | (dsimp only at *; omega)))) rfl (by kernel_rfl) ?_
   refine fl_ond 7 rfl rfl rfl rfl (v_load rfl (h1.rd rfl hm1 e1 st.im)) rfl (by kernel_rfl) ?_
   refine fl_ond 8 rfl rfl rfl rfl (v_load rfl (st.reads 5 rfl TF.t28 (getV_all (by rw [size_arr, hx])))) rfl (by kernel_rfl) ?_
   refine fl_eff1 9 [6, 5, 3, 1, 0] [4] (by kernel_rfl) ⟨obl_on rfl rfl rfl rfl rfl (v_load rfl (st.reads 5 rfl TF.t28 (getV_all (by rw [size_arr, hx])))), obl_on rfl rfl rfl rfl rfl (v_load rfl (h1.rd rfl hm1 e1 st.im)), obl_on rfl rfl rfl rfl rfl (v_load rfl (st.reads 6 rfl TF.t22 rfl)), trivial⟩ rfl ?_
   refine wl_on rfl rfl ?_
   refine wl_call rfl (c_less st.im l1 hx) rfl ?_
   rintro v27 w ⟨t27, rfl⟩
   have st := st.pure t27
   refine wl_nil ⟨rfl, ?_⟩
   refine fl_on 10 rfl rfl rfl rfl (fun _ => (v_not rfl)) rfl (by kernel_rfl) ?_
   refine fl_val 11 rfl (fun _ => (v_pick rfl)) rfl (by kernel_rfl) ?_
   refine fl_nil (by kernel_rfl) ⟨obl_on rfl rfl rfl rfl rfl (v_load rfl (st.reads 6 rfl TF.t22 rfl)), trivial⟩ ?_
   refine then_go ?_
   refine wc_cond rfl (fun h29 => ?_) (fun h29 => ?_)
   ·refine wc_seq ?_
    refine wc_region ?_
    refine wl_val (v_fa TF.f34_0 rfl) rfl ?_
    refine wl_val (v_load rfl (st.reads 2 rfl TF.t22 rfl)) rfl ?_
    refine wl_val (v_load rfl (st.reads 5 rfl TF.t28 (getV_all (by rw [size_arr, hx])))) rfl ?_
    refine wl_digOne _ hx rfl st rfl ?_
    intro b33 w st
    refine wl_digApp 0 st rfl hx rfl rfl (by omega) rfl ?_
    intro v1 w st hv1
    refine wl_val (v_fa TF.f34_0 rfl) rfl ?_
    refine wl_store1 2 st rfl TF.t22 rfl (by conv => (lhs; whnf)) hv1 (by first | exact lt_ok rfl | decide | simp) ?_
    intro w st
    refine wl_nil ?_
    refine then_go ?_
    refine wc_seq ?_
    refine wc_region ?_
    refine wl_val (v_fa TF.f34_1 rfl) rfl ?_
    refine wl_val (v_load rfl (st.reads 2 rfl TF.t22 rfl)) rfl ?_
    refine wl_val (v_load rfl (st.reads 4 rfl TF.t28 (getV_all (by rw [size_arr, hv])))) rfl ?_
    refine wl_digOne _ hv rfl st rfl ?_
    intro b33 w st
    refine wl_digApp 1 st rfl hv rfl rfl (by omega) rfl ?_
    intro v2 w st hv2
    refine wl_val (v_fa TF.f34_1 rfl) rfl ?_
    refine wl_store1 2 st rfl TF.t22 rfl (by conv => (lhs; whnf)) hv2 (by first | exact lt_ok rfl | decide | simp) ?_
    intro w st
    refine wl_nil ?_
    refine then_go ?_
    refine wc_region ?_
    refine wl_val (v_assign' (by conv => (lhs; whnf))) rfl ?_
    refine wl_nil ?_
    refine then_go ?_
    refine wc_seq ?_
    refine wc_draw TF.mixed ?_
    have st := st.pure (touch_drew _)
    refine fl_val 0 rfl (fun _ => (v_fa TF.f34_0 rfl)) rfl (by kernel_rfl) ?_
    refine fl_ld 1 rfl (v_load rfl (st.reads 6 rfl TF.t22 rfl)) (by kernel_rfl) ?_
    refine fl_val 2 rfl (fun _ => (v_move' (by conv => (lhs; whnf)))) rfl (by kernel_rfl) ?_
    refine fl_val 3 rfl (fun _ => (v_ias i Try.underlying22 TF.t28 rfl rfl (by first | rfl | omega) (by first | omega | (dsimp only at *; omega)))) rfl (by kernel_rfl) ?_
    refine fl_ld 4 rfl (v_load rfl (h1.rd rfl hm1 e1 st.im)) (by kernel_rfl) ?_
    refine fl_ld 5 rfl (v_load rfl (st.reads 5 rfl TF.t28 (getV_all (by rw [size_arr, hx])))) (by kernel_rfl) ?_
    refine fl_val 6 rfl (fun _ => (v_ne_arr Try.underlying28 TF.t5 Try.underlying5 TF.e28 rfl rfl l1 hx)) rfl (by kernel_rfl) ?_
    refine fl_nil (by kernel_rfl) ⟨obl_ld rfl rfl rfl (v_load rfl (st.reads 5 rfl TF.t28 (getV_all (by rw [size_arr, hx])))), obl_ld rfl rfl rfl (v_load rfl (h1.rd rfl hm1 e1 st.im)), obl_ld rfl rfl rfl (v_load rfl (st.reads 6 rfl TF.t22 rfl)), trivial⟩ ?_
    refine then_go ?_
    refine wc_if rfl (fun h48 => ?_) (fun h48 => ?_)
    ·refine wc_seq ?_
     refine wc_draw TF.mixed ?_
     have st := st.pure (touch_drew _)
     refine fl_val 0 rfl (fun _ => (v_fa TF.f34_0 rfl)) rfl (by kernel_rfl) ?_
     refine fl_ld 1 rfl (v_load rfl (by first | exact st.reads 2 rfl TF.t22 rfl | exact st.reads 3 rfl TF.t22 rfl)) (by kernel_rfl) ?_
     refine fl_val 2 rfl (fun _ => (v_fa TF.f34_0 rfl)) rfl (by kernel_rfl) ?_
     refine fl_ld 3 rfl (v_load rfl (by first | exact st.reads 6 rfl TF.t22 rfl | exact st.reads 7 rfl TF.t22 rfl)) (by kernel_rfl) ?_
     refine fl_val 4 rfl (fun _ => (v_move' (by conv => (lhs; whnf)))) rfl (by kernel_rfl) ?_
     refine fl_val 5 rfl (fun _ => (v_ias i Try.underlying22 TF.t28 rfl rfl (by first | rfl | omega) (by first | omega | (dsimp only at *; omega)))) rfl (by kernel_rfl) ?_
     refine fl_ld 6 rfl (v_load rfl (h1.rd rfl hm1 e1 st.im)) (by kernel_rfl) ?_
     refine fl_eff1 7 [5, 4, 2, 0] [3, 1] (by kernel_rfl) ⟨obl_ld rfl rfl rfl (v_load rfl (h1.rd rfl hm1 e1 st.im)), obl_ld rfl rfl rfl (v_load rfl (by first | exact st.reads 6 rfl TF.t22 rfl | exact st.reads 7 rfl TF.t22 rfl)), obl_ld rfl rfl rfl (v_load rfl (by first | exact st.reads 2 rfl TF.t22 rfl | exact st.reads 3 rfl TF.t22 rfl)), trivial⟩ rfl ?_
     refine wl_digOne _ l1 rfl st rfl ?_
     intro b33 w st
     refine wl_nil ⟨rfl, ?_⟩
     refine fl_eff1 8 [5, 4, 2, 0] [3] (by kernel_rfl) ⟨obl_ld rfl rfl rfl (v_load rfl (by first | exact st.reads 6 rfl TF.t22 rfl | exact st.reads 7 rfl TF.t22 rfl)), obl_ld rfl rfl rfl (v_load rfl (by first | exact st.reads 2 rfl TF.t22 rfl | exact st.reads 3 rfl TF.t22 rfl)), trivial⟩ rfl ?_
     refine wl_digApp 0 st rfl l1 rfl rfl (by first | omega | (simp only [List.length_append, List.length_cons, List.length_nil]; omega)) rfl ?_
     intro v1 w st hv1
     refine wl_nil ⟨rfl, ?_⟩
     refine fl_val 9 rfl (fun _ => (v_fa TF.f34_0 rfl)) rfl (by kernel_rfl) ?_
     refine fl_eff1 10 [] [] (by kernel_rfl) ⟨obl_ld rfl rfl rfl (v_load rfl (by first | exact st.reads 6 rfl TF.t22 rfl | exact st.reads 7 rfl TF.t22 rfl)), trivial⟩ rfl ?_
     refine wl_store1 2 st rfl TF.t22 rfl (by conv => (lhs; whnf)) hv1 (by first | exact lt_ok rfl | decide | simp) ?_
     intro w st
     refine wl_nil ⟨rfl, ?_⟩
     refine fl_nil (by kernel_rfl) trivial ?_
     refine then_go ?_
     refine wc_draw TF.mixed ?_
     have st := st.pure (touch_drew _)
     refine fl_val 0 rfl (fun _ => (v_fa TF.f34_1 rfl)) rfl (by kernel_rfl) ?_
     refine fl_ld 1 rfl (v_load rfl (by first | exact st.reads 2 rfl TF.t22 rfl | exact st.reads 3 rfl TF.t22 rfl)) (by kernel_rfl) ?_
     refine fl_val 2 rfl (fun _ => (v_fa TF.f34_1 rfl)) rfl (by kernel_rfl) ?_
     refine fl_ld 3 rfl (v_load rfl (by first | exact st.reads 6 rfl TF.t22 rfl | exact st.reads 7 rfl TF.t22 rfl)) (by kernel_rfl) ?_
     refine fl_val 4 rfl (fun _ => (v_move' (by conv => (lhs; whnf)))) rfl (by kernel_rfl) ?_
     refine fl_val 5 rfl (fun _ => (v_ias i Try.underlying22 TF.t28 rfl rfl (by first | rfl | omega) (by first | omega | (dsimp only at *; omega)))) rfl (by kernel_rfl) ?_
     refine fl_ld 6 rfl (v_load rfl (h2.rd rfl hm2 e2 st.im)) (by kernel_rfl) ?_
     refine fl_eff1 7 [5, 4, 2, 0] [3, 1] (by kernel_rfl) ⟨obl_ld rfl rfl rfl (v_load rfl (h2.rd rfl hm2 e2 st.im)), obl_ld rfl rfl rfl (v_load rfl (by first | exact st.reads 6 rfl TF.t22 rfl | exact st.reads 7 rfl TF.t22 rfl)), obl_ld rfl rfl rfl (v_load rfl (by first | exact st.reads 2 rfl TF.t22 rfl | exact st.reads 3 rfl TF.t22 rfl)), trivial⟩ rfl ?_
     refine wl_digOne _ l2 rfl st rfl ?_
     intro b33 w st
     refine wl_nil ⟨rfl, ?_⟩
     refine fl_eff1 8 [5, 4, 2, 0] [3] (by kernel_rfl) ⟨obl_ld rfl rfl rfl (v_load rfl (by first | exact st.reads 6 rfl TF.t22 rfl | exact st.reads 7 rfl TF.t22 rfl)), obl_ld rfl rfl rfl (v_load rfl (by first | exact st.reads 2 rfl TF.t22 rfl | exact st.reads 3 rfl TF.t22 rfl)), trivial⟩ rfl ?_
     refine wl_digApp 1 st rfl l2 rfl rfl (by first | omega | (simp only [List.length_append, List.length_cons, List.length_nil]; omega)) rfl ?_
     intro v2 w st hv2
     refine wl_nil ⟨rfl, ?_⟩
     refine fl_val 9 rfl (fun _ => (v_fa TF.f34_1 rfl)) rfl (by kernel_rfl) ?_
     refine fl_eff1 10 [] [] (by kernel_rfl) ⟨obl_ld rfl rfl rfl (v_load rfl (by first | exact st.reads 6 rfl TF.t22 rfl | exact st.reads 7 rfl TF.t22 rfl)), trivial⟩ rfl ?_
     refine wl_store1 2 st rfl TF.t22 rfl (by conv => (lhs; whnf)) hv2 (by first | exact lt_ok rfl | decide | simp) ?_
     intro w st
     refine wl_nil ⟨rfl, ?_⟩
     refine fl_nil (by kernel_rfl) trivial ?_
     refine block_go (then_go ?_)
     refine wc_region ?_
     refine wl_val (v_move' (by conv => (lhs; whnf))) rfl ?_
     refine wl_val (v_add' rfl rfl rfl (by first | omega | (dsimp only at *; omega)) (by first | omega | (dsimp only at *; omega))) rfl ?_
     refine wl_val (v_assign' (by conv => (lhs; whnf))) rfl ?_
     refine wl_nil ?_
     refine then_go ?_
     have hlt : lt L[i].1 x = false := by simpa using h29
     rw [if_pos ⟨rfl, hlt⟩, if_neg h48, hlt] at hG
     refine ⟨q - 1, by simp; omega, i + 1, true, out ++ [(x, v)] ++ [L[i]], v1, v2, by omega, rfl, rfl, rfl, rfl, rfl, rfl, rfl, by simpa [List.append_assoc] using hG, ?_⟩
     simp only [List.map_append, List.map_cons, List.map_nil]
     exact st
    ·refine wc_skip ?_
     refine block_go (then_go ?_)
     refine wc_region ?_
     refine wl_val (v_move' (by conv => (lhs; whnf))) rfl ?_
     refine wl_val (v_add' rfl rfl rfl (by first | omega | (dsimp only at *; omega)) (by first | omega | (dsimp only at *; omega))) rfl ?_
     refine wl_val (v_assign' (by conv => (lhs; whnf))) rfl ?_
     refine wl_nil ?_
     refine then_go ?_
     have hlt : lt L[i].1 x = false := by simpa using h29
     rw [if_pos ⟨rfl, hlt⟩, if_pos (Decidable.not_not.1 h48), hlt] at hG
     refine ⟨q - 1, by simp; omega, i + 1, true, out ++ [(x, v)], v1, v2, by omega, rfl, rfl, rfl, rfl, rfl, rfl, rfl, by simpa [List.append_assoc] using hG, ?_⟩
     simp only [List.map_append, List.map_cons, List.map_nil]
     exact st
   ·refine wc_skip ?_
    refine then_go ?_
    refine wc_seq ?_
    refine wc_draw TF.mixed ?_
    have st := st.pure (touch_drew _)
    refine fl_val 0 rfl (fun _ => (v_fa TF.f34_0 rfl)) rfl (by kernel_rfl) ?_
    refine fl_ld 1 rfl (v_load rfl (st.reads 6 rfl TF.t22 rfl)) (by kernel_rfl) ?_
    refine fl_val 2 rfl (fun _ => (v_move' (by conv => (lhs; whnf)))) rfl (by kernel_rfl) ?_
    refine fl_val 3 rfl (fun _ => (v_ias i Try.underlying22 TF.t28 rfl rfl (by first | rfl | omega) (by first | omega | (dsimp only at *; omega)))) rfl (by kernel_rfl) ?_
    refine fl_ld 4 rfl (v_load rfl (h1.rd rfl hm1 e1 st.im)) (by kernel_rfl) ?_
    refine fl_ld 5 rfl (v_load rfl (st.reads 5 rfl TF.t28 (getV_all (by rw [size_arr, hx])))) (by kernel_rfl) ?_
    refine fl_val 6 rfl (fun _ => (v_ne_arr Try.underlying28 TF.t5 Try.underlying5 TF.e28 rfl rfl l1 hx)) rfl (by kernel_rfl) ?_
    refine fl_nil (by kernel_rfl) ⟨obl_ld rfl rfl rfl (v_load rfl (st.reads 5 rfl TF.t28 (getV_all (by rw [size_arr, hx])))), obl_ld rfl rfl rfl (v_load rfl (h1.rd rfl hm1 e1 st.im)), obl_ld rfl rfl rfl (v_load rfl (st.reads 6 rfl TF.t22 rfl)), trivial⟩ ?_
    refine then_go ?_
    refine wc_if rfl (fun h48 => ?_) (fun h48 => ?_)
    ·refine wc_seq ?_
     refine wc_draw TF.mixed ?_
     have st := st.pure (touch_drew _)
     refine fl_val 0 rfl (fun _ => (v_fa TF.f34_0 rfl)) rfl (by kernel_rfl) ?_
     refine fl_ld 1 rfl (v_load rfl (by first | exact st.reads 2 rfl TF.t22 rfl | exact st.reads 3 rfl TF.t22 rfl)) (by kernel_rfl) ?_
     refine fl_val 2 rfl (fun _ => (v_fa TF.f34_0 rfl)) rfl (by kernel_rfl) ?_
     refine fl_ld 3 rfl (v_load rfl (by first | exact st.reads 6 rfl TF.t22 rfl | exact st.reads 7 rfl TF.t22 rfl)) (by kernel_rfl) ?_
     refine fl_val 4 rfl (fun _ => (v_move' (by conv => (lhs; whnf)))) rfl (by kernel_rfl) ?_
     refine fl_val 5 rfl (fun _ => (v_ias i Try.underlying22 TF.t28 rfl rfl (by first | rfl | omega) (by first | omega | (dsimp only at *; omega)))) rfl (by kernel_rfl) ?_
     refine fl_ld 6 rfl (v_load rfl (h1.rd rfl hm1 e1 st.im)) (by kernel_rfl) ?_
     refine fl_eff1 7 [5, 4, 2, 0] [3, 1] (by kernel_rfl) ⟨obl_ld rfl rfl rfl (v_load rfl (h1.rd rfl hm1 e1 st.im)), obl_ld rfl rfl rfl (v_load rfl (by first | exact st.reads 6 rfl TF.t22 rfl | exact st.reads 7 rfl TF.t22 rfl)), obl_ld rfl rfl rfl (v_load rfl (by first | exact st.reads 2 rfl TF.t22 rfl | exact st.reads 3 rfl TF.t22 rfl)), trivial⟩ rfl ?_
     refine wl_digOne _ l1 rfl st rfl ?_
     intro b33 w st
     refine wl_nil ⟨rfl, ?_⟩
     refine fl_eff1 8 [5, 4, 2, 0] [3] (by kernel_rfl) ⟨obl_ld rfl rfl rfl (v_load rfl (by first | exact st.reads 6 rfl TF.t22 rfl | exact st.reads 7 rfl TF.t22 rfl)), obl_ld rfl rfl rfl (v_load rfl (by first | exact st.reads 2 rfl TF.t22 rfl | exact st.reads 3 rfl TF.t22 rfl)), trivial⟩ rfl ?_
     refine wl_digApp 0 st rfl l1 rfl rfl (by first | omega | (simp only [List.length_append, List.length_cons, List.length_nil]; omega)) rfl ?_
     intro v1 w st hv1
     refine wl_nil ⟨rfl, ?_⟩
     refine fl_val 9 rfl (fun _ => (v_fa TF.f34_0 rfl)) rfl (by kernel_rfl) ?_
     refine fl_eff1 10 [] [] (by kernel_rfl) ⟨obl_ld rfl rfl rfl (v_load rfl (by first | exact st.reads 6 rfl TF.t22 rfl | exact st.reads 7 rfl TF.t22 rfl)), trivial⟩ rfl ?_
     refine wl_store1 2 st rfl TF.t22 rfl (by conv => (lhs; whnf)) hv1 (by first | exact lt_ok rfl | decide | simp) ?_
     intro w st
     refine wl_nil ⟨rfl, ?_⟩
     refine fl_nil (by kernel_rfl) trivial ?_
     refine then_go ?_
     refine wc_draw TF.mixed ?_
     have st := st.pure (touch_drew _)
     refine fl_val 0 rfl (fun _ => (v_fa TF.f34_1 rfl)) rfl (by kernel_rfl) ?_
     refine fl_ld 1 rfl (v_load rfl (by first | exact st.reads 2 rfl TF.t22 rfl | exact st.reads 3 rfl TF.t22 rfl)) (by kernel_rfl) ?_
     refine fl_val 2 rfl (fun _ => (v_fa TF.f34_1 rfl)) rfl (by kernel_rfl) ?_
     refine fl_ld 3 rfl (v_load rfl (by first | exact st.reads 6 rfl TF.t22 rfl | exact st.reads 7 rfl TF.t22 rfl)) (by kernel_rfl) ?_
     refine fl_val 4 rfl (fun _ => (v_move' (by conv => (lhs; whnf)))) rfl (by kernel_rfl) ?_
     refine fl_val 5 rfl (fun _ => (v_ias i Try.underlying22 TF.t28 rfl rfl (by first | rfl | omega) (by first | omega | (dsimp only at *; omega)))) rfl (by kernel_rfl) ?_
     refine fl_ld 6 rfl (v_load rfl (h2.rd rfl hm2 e2 st.im)) (by kernel_rfl) ?_
     refine fl_eff1 7 [5, 4, 2, 0] [3, 1] (by kernel_rfl) ⟨obl_ld rfl rfl rfl (v_load rfl (h2.rd rfl hm2 e2 st.im)), obl_ld rfl rfl rfl (v_load rfl (by first | exact st.reads 6 rfl TF.t22 rfl | exact st.reads 7 rfl TF.t22 rfl)), obl_ld rfl rfl rfl (v_load rfl (by first | exact st.reads 2 rfl TF.t22 rfl | exact st.reads 3 rfl TF.t22 rfl)), trivial⟩ rfl ?_
     refine wl_digOne _ l2 rfl st rfl ?_
     intro b33 w st
     refine wl_nil ⟨rfl, ?_⟩
     refine fl_eff1 8 [5, 4, 2, 0] [3] (by kernel_rfl) ⟨obl_ld rfl rfl rfl (v_load rfl (by first | exact st.reads 6 rfl TF.t22 rfl | exact st.reads 7 rfl TF.t22 rfl)), obl_ld rfl rfl rfl (v_load rfl (by first | exact st.reads 2 rfl TF.t22 rfl | exact st.reads 3 rfl TF.t22 rfl)), trivial⟩ rfl ?_
     refine wl_digApp 1 st rfl l2 rfl rfl (by first | omega | (simp only [List.length_append, List.length_cons, List.length_nil]; omega)) rfl ?_
     intro v2 w st hv2
     refine wl_nil ⟨rfl, ?_⟩
     refine fl_val 9 rfl (fun _ => (v_fa TF.f34_1 rfl)) rfl (by kernel_rfl) ?_
     refine fl_eff1 10 [] [] (by kernel_rfl) ⟨obl_ld rfl rfl rfl (v_load rfl (by first | exact st.reads 6 rfl TF.t22 rfl | exact st.reads 7 rfl TF.t22 rfl)), trivial⟩ rfl ?_
     refine wl_store1 2 st rfl TF.t22 rfl (by conv => (lhs; whnf)) hv2 (by first | exact lt_ok rfl | decide | simp) ?_
     intro w st
     refine wl_nil ⟨rfl, ?_⟩
     refine fl_nil (by kernel_rfl) trivial ?_
     refine block_go (then_go ?_)
     refine wc_region ?_
     refine wl_val (v_move' (by conv => (lhs; whnf))) rfl ?_
     refine wl_val (v_add' rfl rfl rfl (by first | omega | (dsimp only at *; omega)) (by first | omega | (dsimp only at *; omega))) rfl ?_
     refine wl_val (v_assign' (by conv => (lhs; whnf))) rfl ?_
     refine wl_nil ?_
     refine then_go ?_
     have hlt : lt L[i].1 x = true := by simpa using h29
     rw [if_neg (by rw [hlt]; simp), if_neg h48, hlt] at hG
     refine ⟨q - 1, by simp; omega, i + 1, false, out ++ [L[i]], v1, v2, by omega, rfl, rfl, rfl, rfl, rfl, rfl, rfl, by simpa [List.append_assoc] using hG, ?_⟩
     simp only [List.map_append, List.map_cons, List.map_nil]
     exact st
    ·refine wc_skip ?_
     refine block_go (then_go ?_)
     refine wc_region ?_
     refine wl_val (v_move' (by conv => (lhs; whnf))) rfl ?_
     refine wl_val (v_add' rfl rfl rfl (by first | omega | (dsimp only at *; omega)) (by first | omega | (dsimp only at *; omega))) rfl ?_
     refine wl_val (v_assign' (by conv => (lhs; whnf))) rfl ?_
     refine wl_nil ?_
     refine then_go ?_
     have hlt : lt L[i].1 x = true := by simpa using h29
     rw [if_neg (by rw [hlt]; simp), if_pos (Decidable.not_not.1 h48), hlt] at hG
     exact ⟨q - 1, by simp; omega, i + 1, false, out, v1, v2, by omega, rfl, rfl, rfl, rfl, rfl, rfl, rfl, by simpa [List.append_assoc] using hG, st⟩
  ·refine wc_draw TF.mixed ?_
   have st := st.pure (touch_drew _)
   refine fl_val 0 rfl (fun _ => (v_move' (by conv => (lhs; whnf)))) rfl (by kernel_rfl) ?_
   refine fl_val 1 rfl (fun _ => (v_not rfl)) rfl (by kernel_rfl) ?_
   refine fl_val 2 rfl (fun _ => (v_move' (by conv => (lhs; whnf)))) rfl (by kernel_rfl) ?_
   refine fl_off 3 rfl rfl rfl rfl rfl rfl (by kernel_rfl) ?_
   refine fl_offd 4 rfl rfl rfl rfl rfl rfl (by kernel_rfl) ?_
   refine fl_off 5 rfl rfl rfl rfl rfl rfl (by kernel_rfl) ?_
   refine fl_off 6 rfl rfl rfl rfl rfl rfl (by kernel_rfl) ?_
   refine fl_offd 7 rfl rfl rfl rfl rfl rfl (by kernel_rfl) ?_
   refine fl_offd 8 rfl rfl rfl rfl rfl rfl (by kernel_rfl) ?_
   refine fl_eff1 9 [6, 5, 3, 1, 0] [4] (by kernel_rfl) ⟨obl_off rfl rfl rfl rfl rfl rfl, obl_off rfl rfl rfl rfl rfl rfl, obl_off rfl rfl rfl rfl rfl rfl, trivial⟩ rfl ?_
   refine wl_off rfl rfl rfl rfl ?_
   refine wl_nil ⟨rfl, ?_⟩
   refine fl_off 10 rfl rfl rfl rfl rfl rfl (by kernel_rfl) ?_
   refine fl_val 11 rfl (fun _ => (v_pick rfl)) rfl (by kernel_rfl) ?_
   refine fl_nil (by kernel_rfl) ⟨obl_off rfl rfl rfl rfl rfl rfl, trivial⟩ ?_
   refine then_go ?_
   refine wc_false rfl ?_
   refine wc_skip ?_
   refine then_go ?_
   refine wc_seq ?_
   refine wc_draw TF.mixed ?_
   have st := st.pure (touch_drew _)
   refine fl_val 0 rfl (fun _ => (v_fa TF.f34_0 rfl)) rfl (by kernel_rfl) ?_
   refine fl_ld 1 rfl (v_load rfl (st.reads 6 rfl TF.t22 rfl)) (by kernel_rfl) ?_
   refine fl_val 2 rfl (fun _ => (v_move' (by conv => (lhs; whnf)))) rfl (by kernel_rfl) ?_
   refine fl_val 3 rfl (fun _ => (v_ias i Try.underlying22 TF.t28 rfl rfl (by first | rfl | omega) (by first | omega | (dsimp only at *; omega)))) rfl (by kernel_rfl) ?_
   refine fl_ld 4 rfl (v_load rfl (h1.rd rfl hm1 e1 st.im)) (by kernel_rfl) ?_
   refine fl_ld 5 rfl (v_load rfl (st.reads 5 rfl TF.t28 (getV_all (by rw [size_arr, hx])))) (by kernel_rfl) ?_
   refine fl_val 6 rfl (fun _ => (v_ne_arr Try.underlying28 TF.t5 Try.underlying5 TF.e28 rfl rfl l1 hx)) rfl (by kernel_rfl) ?_
   refine fl_nil (by kernel_rfl) ⟨obl_ld rfl rfl rfl (v_load rfl (st.reads 5 rfl TF.t28 (getV_all (by rw [size_arr, hx])))), obl_ld rfl rfl rfl (v_load rfl (h1.rd rfl hm1 e1 st.im)), obl_ld rfl rfl rfl (v_load rfl (st.reads 6 rfl TF.t22 rfl)), trivial⟩ ?_
   refine then_go ?_
   refine wc_if rfl (fun h48 => ?_) (fun h48 => ?_)
   ·refine wc_seq ?_
    refine wc_draw TF.mixed ?_
    have st := st.pure (touch_drew _)
    refine fl_val 0 rfl (fun _ => (v_fa TF.f34_0 rfl)) rfl (by kernel_rfl) ?_
    refine fl_ld 1 rfl (v_load rfl (by first | exact st.reads 2 rfl TF.t22 rfl | exact st.reads 3 rfl TF.t22 rfl)) (by kernel_rfl) ?_
    refine fl_val 2 rfl (fun _ => (v_fa TF.f34_0 rfl)) rfl (by kernel_rfl) ?_
    refine fl_ld 3 rfl (v_load rfl (by first | exact st.reads 6 rfl TF.t22 rfl | exact st.reads 7 rfl TF.t22 rfl)) (by kernel_rfl) ?_
    refine fl_val 4 rfl (fun _ => (v_move' (by conv => (lhs; whnf)))) rfl (by kernel_rfl) ?_
    refine fl_val 5 rfl (fun _ => (v_ias i Try.underlying22 TF.t28 rfl rfl (by first | rfl | omega) (by first | omega | (dsimp only at *; omega)))) rfl (by kernel_rfl) ?_
    refine fl_ld 6 rfl (v_load rfl (h1.rd rfl hm1 e1 st.im)) (by kernel_rfl) ?_
    refine fl_eff1 7 [5, 4, 2, 0] [3, 1] (by kernel_rfl) ⟨obl_ld rfl rfl rfl (v_load rfl (h1.rd rfl hm1 e1 st.im)), obl_ld rfl rfl rfl (v_load rfl (by first | exact st.reads 6 rfl TF.t22 rfl | exact st.reads 7 rfl TF.t22 rfl)), obl_ld rfl rfl rfl (v_load rfl (by first | exact st.reads 2 rfl TF.t22 rfl | exact st.reads 3 rfl TF.t22 rfl)), trivial⟩ rfl ?_
    refine wl_digOne _ l1 rfl st rfl ?_
    intro b33 w st
    refine wl_nil ⟨rfl, ?_⟩
    refine fl_eff1 8 [5, 4, 2, 0] [3] (by kernel_rfl) ⟨obl_ld rfl rfl rfl (v_load rfl (by first | exact st.reads 6 rfl TF.t22 rfl | exact st.reads 7 rfl TF.t22 rfl)), obl_ld rfl rfl rfl (v_load rfl (by first | exact st.reads 2 rfl TF.t22 rfl | exact st.reads 3 rfl TF.t22 rfl)), trivial⟩ rfl ?_
    refine wl_digApp 0 st rfl l1 rfl rfl (by first | omega | (simp only [List.length_append, List.length_cons, List.length_nil]; omega)) rfl ?_
    intro v1 w st hv1
    refine wl_nil ⟨rfl, ?_⟩
    refine fl_val 9 rfl (fun _ => (v_fa TF.f34_0 rfl)) rfl (by kernel_rfl) ?_
    refine fl_eff1 10 [] [] (by kernel_rfl) ⟨obl_ld rfl rfl rfl (v_load rfl (by first | exact st.reads 6 rfl TF.t22 rfl | exact st.reads 7 rfl TF.t22 rfl)), trivial⟩ rfl ?_
    refine wl_store1 2 st rfl TF.t22 rfl (by conv => (lhs; whnf)) hv1 (by first | exact lt_ok rfl | decide | simp) ?_
    intro w st
    refine wl_nil ⟨rfl, ?_⟩
    refine fl_nil (by kernel_rfl) trivial ?_
    refine then_go ?_
    refine wc_draw TF.mixed ?_
    have st := st.pure (touch_drew _)
    refine fl_val 0 rfl (fun _ => (v_fa TF.f34_1 rfl)) rfl (by kernel_rfl) ?_
    refine fl_ld 1 rfl (v_load rfl (by first | exact st.reads 2 rfl TF.t22 rfl | exact st.reads 3 rfl TF.t22 rfl)) (by kernel_rfl) ?_
    refine fl_val 2 rfl (fun _ => (v_fa TF.f34_1 rfl)) rfl (by kernel_rfl) ?_
    refine fl_ld 3 rfl (v_load rfl (by first | exact st.reads 6 rfl TF.t22 rfl | exact st.reads 7 rfl TF.t22 rfl)) (by kernel_rfl) ?_
    refine fl_val 4 rfl (fun _ => (v_move' (by conv => (lhs; whnf)))) rfl (by kernel_rfl) ?_
    refine fl_val 5 rfl (fun _ => (v_ias i Try.underlying22 TF.t28 rfl rfl (by first | rfl | omega) (by first | omega | (dsimp only at *; omega)))) rfl (by kernel_rfl) ?_
    refine fl_ld 6 rfl (v_load rfl (h2.rd rfl hm2 e2 st.im)) (by kernel_rfl) ?_
    refine fl_eff1 7 [5, 4, 2, 0] [3, 1] (by kernel_rfl) ⟨obl_ld rfl rfl rfl (v_load rfl (h2.rd rfl hm2 e2 st.im)), obl_ld rfl rfl rfl (v_load rfl (by first | exact st.reads 6 rfl TF.t22 rfl | exact st.reads 7 rfl TF.t22 rfl)), obl_ld rfl rfl rfl (v_load rfl (by first | exact st.reads 2 rfl TF.t22 rfl | exact st.reads 3 rfl TF.t22 rfl)), trivial⟩ rfl ?_
    refine wl_digOne _ l2 rfl st rfl ?_
    intro b33 w st
    refine wl_nil ⟨rfl, ?_⟩
    refine fl_eff1 8 [5, 4, 2, 0] [3] (by kernel_rfl) ⟨obl_ld rfl rfl rfl (v_load rfl (by first | exact st.reads 6 rfl TF.t22 rfl | exact st.reads 7 rfl TF.t22 rfl)), obl_ld rfl rfl rfl (v_load rfl (by first | exact st.reads 2 rfl TF.t22 rfl | exact st.reads 3 rfl TF.t22 rfl)), trivial⟩ rfl ?_
    refine wl_digApp 1 st rfl l2 rfl rfl (by first | omega | (simp only [List.length_append, List.length_cons, List.length_nil]; omega)) rfl ?_
    intro v2 w st hv2
    refine wl_nil ⟨rfl, ?_⟩
    refine fl_val 9 rfl (fun _ => (v_fa TF.f34_1 rfl)) rfl (by kernel_rfl) ?_
    refine fl_eff1 10 [] [] (by kernel_rfl) ⟨obl_ld rfl rfl rfl (v_load rfl (by first | exact st.reads 6 rfl TF.t22 rfl | exact st.reads 7 rfl TF.t22 rfl)), trivial⟩ rfl ?_
    refine wl_store1 2 st rfl TF.t22 rfl (by conv => (lhs; whnf)) hv2 (by first | exact lt_ok rfl | decide | simp) ?_
    intro w st
    refine wl_nil ⟨rfl, ?_⟩
    refine fl_nil (by kernel_rfl) trivial ?_
    refine block_go (then_go ?_)
    refine wc_region ?_
    refine wl_val (v_move' (by conv => (lhs; whnf))) rfl ?_
    refine wl_val (v_add' rfl rfl rfl (by first | omega | (dsimp only at *; omega)) (by first | omega | (dsimp only at *; omega))) rfl ?_
    refine wl_val (v_assign' (by conv => (lhs; whnf))) rfl ?_
    refine wl_nil ?_
    refine then_go ?_
    rw [if_neg (by simp), if_neg h48] at hG
    refine ⟨q - 1, by simp; omega, i + 1, true, out ++ [L[i]], v1, v2, by omega, rfl, rfl, rfl, rfl, rfl, rfl, rfl, by simpa [List.append_assoc] using hG, ?_⟩
    simp only [List.map_append, List.map_cons, List.map_nil]
    exact st
   ·refine wc_skip ?_
    refine block_go (then_go ?_)
    refine wc_region ?_
    refine wl_val (v_move' (by conv => (lhs; whnf))) rfl ?_
    refine wl_val (v_add' rfl rfl rfl (by first | omega | (dsimp only at *; omega)) (by first | omega | (dsimp only at *; omega))) rfl ?_
    refine wl_val (v_assign' (by conv => (lhs; whnf))) rfl ?_
    refine wl_nil ?_
    refine then_go ?_
    rw [if_neg (by simp), if_pos (Decidable.not_not.1 h48)] at hG
    exact ⟨q - 1, by simp; omega, i + 1, true, out, v1, v2, by omega, rfl, rfl, rfl, rfl, rfl, rfl, rfl, by simpa [List.append_assoc] using hG, st⟩
 ·refine wc_exit (then_exit (then_exit (block_hit ?_)))
  refine then_go ?_
  refine wc_seq ?_
  refine wc_seq ?_
  have hiL : i = L.length := by omega
  subst hiL
  rw [List.drop_length, putG] at hG
  refine wc_region ?_
  refine wl_val (v_move' (by conv => (lhs; whnf))) rfl ?_
  refine wl_val (v_not rfl) rfl ?_
  refine wl_nil ?_
  refine then_go ?_
  refine wc_cond rfl (fun h70 => ?_) (fun h70 => ?_)
  ·refine wc_seq ?_
   refine wc_region ?_
   refine wl_val (v_fa TF.f34_0 rfl) rfl ?_
   refine wl_val (v_load rfl (st.reads 2 rfl TF.t22 rfl)) rfl ?_
   refine wl_val (v_load rfl (st.reads 5 rfl TF.t28 (getV_all (by rw [size_arr, hx])))) rfl ?_
   refine wl_digOne _ hx rfl st rfl ?_
   intro b33 w st
   refine wl_digApp 0 st rfl hx rfl rfl (by omega) rfl ?_
   intro v1 w st hv1
   refine wl_val (v_fa TF.f34_0 rfl) rfl ?_
   refine wl_store1 2 st rfl TF.t22 rfl (by conv => (lhs; whnf)) hv1 (by first | exact lt_ok rfl | decide | simp) ?_
   intro w st
   refine wl_nil ?_
   refine then_go ?_
   refine wc_region ?_
   refine wl_val (v_fa TF.f34_1 rfl) rfl ?_
   refine wl_val (v_load rfl (st.reads 2 rfl TF.t22 rfl)) rfl ?_
   refine wl_val (v_load rfl (st.reads 4 rfl TF.t28 (getV_all (by rw [size_arr, hv])))) rfl ?_
   refine wl_digOne _ hv rfl st rfl ?_
   intro b33 w st
   refine wl_digApp 1 st rfl hv rfl rfl (by omega) rfl ?_
   intro v2 w st hv2
   refine wl_val (v_fa TF.f34_1 rfl) rfl ?_
   refine wl_store1 2 st rfl TF.t22 rfl (by conv => (lhs; whnf)) hv2 (by first | exact lt_ok rfl | decide | simp) ?_
   intro w st
   refine wl_nil ?_
   refine then_go ?_
   refine wc_seq ?_
   refine wc_region ?_
   refine wl_val (v_load rfl (st.reads (v := .agg #[v1, v2]) 2 rfl TF.t34 (getV_all rfl))) rfl ?_
   refine wl_storeW (cs := #[v1, v2]) 3 st rfl TF.t34 rfl rfl rfl rfl ?_ ?_
   ·intro u hu
    simp at hu
    rcases hu with rfl | rfl
    ·exact row_one (st.at (i := 0) rfl)
    ·exact row_one (st.at (i := 1) rfl)
   intro w st
   refine wl_nil ?_
   refine then_go ?_
   refine wc_ret ?_
   have hG2 : out ++ [(x, v)] = putL x v L := by rw [if_neg (by simpa using h70)] at hG; exact hG
   have hrd := st.reads (v := .agg #[v1, v2]) 3 rfl TF.t34 (getV_all rfl)
   have hdp := hd.put hx hv
   rw [← hG2] at hdp
   have f1 := hdp.fst
   have f2 := hdp.snd
   simp only [List.map_append, List.map_cons, List.map_nil] at f1 f2
   obtain ⟨m1, hg1, hq1, st⟩ := st.keepDig (i := 0) rfl f1
   obtain ⟨m2, hg2, hq2, st⟩ := st.keepDig (i := 0) rfl f2
   refine ret1c rfl hrd ((st.keepOnly (l := []) (List.nil_sublist _)).out ⟨_, _, rfl, ?_, ?_⟩)
   ·rw [← hG2]; simpa using hq1.mono hg2.le
   ·rw [← hG2]; simpa using hq2
  ·refine wc_skip ?_
   refine then_go ?_
   refine wc_seq ?_
   refine wc_region ?_
   refine wl_val (v_load rfl (st.reads (v := .agg #[v1, v2]) 2 rfl TF.t34 (getV_all rfl))) rfl ?_
   refine wl_storeW (cs := #[v1, v2]) 3 st rfl TF.t34 rfl rfl rfl rfl ?_ ?_
   ·intro u hu
    simp at hu
    rcases hu with rfl | rfl
    ·exact row_one (st.at (i := 0) rfl)
    ·exact row_one (st.at (i := 1) rfl)
   intro w st
   refine wl_nil ?_
   refine then_go ?_
   refine wc_ret ?_
   have hG2 : out = putL x v L := by rw [if_pos (by simpa using h70), List.append_nil] at hG; exact hG
   have hrd := st.reads (v := .agg #[v1, v2]) 3 rfl TF.t34 (getV_all rfl)
   have hdp := hd.put hx hv
   rw [← hG2] at hdp
   obtain ⟨m1, hg1, hq1, st⟩ := st.keepDig (i := 0) rfl hdp.fst
   obtain ⟨m2, hg2, hq2, st⟩ := st.keepDig (i := 0) rfl hdp.snd
   refine ret1c rfl hrd ((st.keepOnly (l := []) (List.nil_sublist _)).out ⟨_, _, rfl, ?_, ?_⟩)
   ·rw [← hG2]; exact hq1.mono hg2.le
   ·rw [← hG2]; exact hq2
end
end Go.Proofs.Ytonlmjpenonabaa

namespace Go.Proofs.Ytonlmjpenonabaa
open Go Go.RowKit K SH PT
def ofLv (L : List (By × By)) : List (By × By) := L.foldl (fun l x => putL x.1 x.2 l) []
theorem ofLv_snoc {L : List (By × By)} {x : By × By} : ofLv (L ++ [x]) = putL x.1 x.2 (ofLv L) := by simp [ofLv]
theorem length_ofLv : ∀ (L : List (By × By)), (ofLv L).length ≤ L.length := by
 intro L
 induction h : L.length generalizing L with
 | zero => have := List.eq_nil_of_length_eq_zero h; subst this; simp [ofLv]
 | succ k ih =>
  have hne : L ≠ [] := by intro e; subst e; simp at h
  rw [← List.dropLast_concat_getLast hne, ofLv_snoc]
  have h1 := ih L.dropLast (by simp [h])
  have h2 := length_putG (x := (L.getLast hne).1) (v := (L.getLast hne).2) (l := ofLv L.dropLast) (b := false)
  simp only [putL, Bool.false_eq_true, if_false] at h2 ⊢
  omega
def canon : Nat → Nat → List (By × By) → Tr
 | _, _, [] => .e
 | _, _, [x] => .l x.1 x.2
 | 0, _, _ :: _ :: _ => .e
 | g + 1, d, x :: y :: l => .f (canon g (d + 1) (halfL (x :: y :: l) d false)) (canon g (d + 1) (halfL (x :: y :: l) d true))
inductive Ends : Nat → Nat → List (By × By) → Prop
 | nil {g d : Nat} : Ends g d []
 | one {g d : Nat} {x : By × By} : Ends g d [x]
 | more {g d : Nat} {L : List (By × By)} : Ends g (d + 1) (halfL L d false) → Ends g (d + 1) (halfL L d true) → Ends (g + 1) d L
theorem Ends.zero {d : Nat} {x y : By × By} {l : List (By × By)} (h : Ends 0 d (x :: y :: l)) : False := by cases h
theorem Ends.halves {g d : Nat} {x y : By × By} {l : List (By × By)} (h : Ends (g + 1) d (x :: y :: l)) : Ends g (d + 1) (halfL (x :: y :: l) d false) ∧ Ends g (d + 1) (halfL (x :: y :: l) d true) := by
 cases h with
 | more h1 h2 => exact ⟨h1, h2⟩
section
variable {m : Mem} {wI : World}
theorem canon_nil {g d : Nat} : canon g d [] = .e := by cases g <;> rfl
theorem canon_one {g d : Nat} {x : By × By} : canon g d [x] = .l x.1 x.2 := by cases g <;> rfl
end
end Go.Proofs.Ytonlmjpenonabaa

namespace Go.Proofs.Ytonlmjpenonabaa
open Go Go.RowKit K SH PT
theorem Ends.go {f d : Nat} {L : List (By × By)} (h : Ends (f + 1) d L) (hL : 1 < L.length) : Ends f (d + 1) (halfL L d false) ∧ Ends f (d + 1) (halfL L d true) := by
 cases h with
 | nil => simp at hL
 | one => simp at hL
 | more h1 h2 => exact ⟨h1, h2⟩
theorem Ends.half {f d : Nat} {L : List (By × By)} (h : Ends (f + 1) d L) (hL : 1 < L.length) (b : Bool) : Ends f (d + 1) (halfL L d b) := by
 cases b
 ·exact (h.go hL).1
 ·exact (h.go hL).2
end Go.Proofs.Ytonlmjpenonabaa

namespace Go.Proofs.Ytonlmjpenonabaa
open Go Go.RowKit K SH PT
end Go.Proofs.Ytonlmjpenonabaa

namespace Go.Proofs.Ytonlmjpenonabaa
open Go Go.RowKit K SH PT
end Go.Proofs.Ytonlmjpenonabaa

namespace Go.Proofs.Ytonlmjpenonabaa
open Go Go.RowKit K SH PT
end Go.Proofs.Ytonlmjpenonabaa

namespace Go.Proofs.Ytonlmjpenonabaa
open Go Go.RowKit K SH PT
namespace PT
theorem bitI_eq {d : By} {k : Nat} (h : k < 256) : bitI d k = bit d k := by
 unfold bitI
 rw [if_pos (by omega)]
 simp
theorem eq_of_bits {a b : By} (ha : a.length = 32) (hb : b.length = 32) (h : ∀ k, k < 256 → bit a k = bit b k) : a = b := by
 refine List.ext_getElem (by omega) fun i h1 h2 => ?_
 rw [← UInt8.toNat_inj]
 refine Nat.eq_of_testBit_eq fun j => ?_
 by_cases hj : j < 8
 ·have := h (8 * i + (7 - j)) (by omega)
  unfold bit at this
  rw [show (8 * i + (7 - j)) / 8 = i by omega, show 7 - (8 * i + (7 - j)) % 8 = j by omega] at this
  simpa [List.getD, h1, h2] using this
 ·have e1 : a[i].toNat < 2 ^ j := Nat.lt_of_lt_of_le a[i].toNat_lt (Nat.pow_le_pow_right (by omega) (by omega : 8 ≤ j))
  have e2 : b[i].toNat < 2 ^ j := Nat.lt_of_lt_of_le b[i].toNat_lt (Nat.pow_le_pow_right (by omega) (by omega : 8 ≤ j))
  rw [Nat.testBit_lt_two_pow e1, Nat.testBit_lt_two_pow e2]
theorem comF_spec (a b : By) : ∀ f k, k ≤ comF a b f k ∧ (∀ j, k ≤ j → j < comF a b f k → bit b j = bit a j) ∧ (comF a b f k < k + f → ¬ bit b (comF a b f k) = bit a (comF a b f k))
 | 0, k => by simp [comF]; omega
 | f + 1, k => by
  rw [comF]
  split
  ·rename_i h
   obtain ⟨h1, h2, h3⟩ := comF_spec a b f (k + 1)
   refine ⟨by omega, fun j hj hj2 => ?_, fun hlt => h3 (by omega)⟩
   rcases Nat.eq_or_lt_of_le hj with rfl | hj
   ·exact h
   ·exact h2 j hj hj2
  ·rename_i h
   exact ⟨Nat.le_refl _, fun j hj hj2 => by omega, fun _ => h⟩
theorem common_agree {a b : By} {j : Nat} (h : j < common a b) : bit a j = bit b j := ((comF_spec a b 256 0).2.1 j (by omega) h).symm
theorem common_lt {a b : By} (ha : a.length = 32) (hb : b.length = 32) (h : a ≠ b) : common a b < 256 := by
 rcases Nat.lt_or_ge (common a b) 256 with h' | h'
 ·exact h'
 ·exact absurd (eq_of_bits ha hb fun k hk => common_agree (by omega)) h
theorem common_part {a b : By} (h : common a b < 256) : ¬ bit b (common a b) = bit a (common a b) := (comF_spec a b 256 0).2.2 (by unfold common at h; omega)
theorem common_ge {a b : By} {d : Nat} (h : ∀ k, k < d → bit a k = bit b k) (hd : d ≤ 256) : d ≤ common a b := by
 rcases Nat.lt_or_ge (common a b) d with h' | h'
 ·exact absurd (h _ h').symm (common_part (by omega))
 ·exact h'
end PT
structure Dst (d : Nat) (L : List (By × By)) : Prop where
 nodup : (L.map (·.1)).Nodup
 len : ∀ x ∈ L, x.1.length = 32
 agree : ∀ x ∈ L, ∀ y ∈ L, ∀ k, k < d → bit x.1 k = bit y.1 k
theorem Dst.nil {d : Nat} : Dst d [] := ⟨by simp, by simp, by simp⟩
theorem mem_half {L : List (By × By)} {d : Nat} {b : Bool} {x : By × By} (hd : d < 256) : x ∈ halfL L d b ↔ x ∈ L ∧ bit x.1 d = b := by
 unfold halfL
 rw [List.mem_filter, bitI_eq hd, beq_iff_eq]
theorem Dst.half {d : Nat} {L : List (By × By)} (h : Dst d L) (hd : d < 256) (b : Bool) : Dst (d + 1) (halfL L d b) := by
 refine ⟨h.nodup.sublist (List.Sublist.map _ List.filter_sublist), fun x hx => h.len x ((mem_half hd).1 hx).1, fun x hx y hy k hk => ?_⟩
 obtain ⟨hx1, hx2⟩ := (mem_half hd).1 hx
 obtain ⟨hy1, hy2⟩ := (mem_half hd).1 hy
 rcases Nat.eq_or_lt_of_le (Nat.le_of_lt_succ hk) with rfl | hk
 ·rw [hx2, hy2]
 ·exact h.agree x hx1 y hy1 k hk
theorem Dst.two {x y : By × By} {l : List (By × By)} (h : Dst 256 (x :: y :: l)) : False := by
 have he := eq_of_bits (h.len x (by simp)) (h.len y (by simp)) (h.agree x (by simp) y (by simp))
 have := h.nodup
 simp only [List.map_cons, List.nodup_cons, List.mem_cons] at this
 exact this.1 (.inl he)
theorem Dst.ends : ∀ {g d : Nat} {L : List (By × By)}, g + d = 256 → Dst d L → Ends g d L
 | _, _, [], _, _ => .nil
 | _, _, [_], _, _ => .one
 | 0, d, x :: y :: l, hg, h => by rw [Nat.zero_add] at hg; subst hg; exact h.two.elim
 | g + 1, d, x :: y :: l, hg, h => .more ((h.half (by omega) false).ends (by omega)) ((h.half (by omega) true).ends (by omega))
theorem halfL_perm {L M : List (By × By)} {d : Int} {b : Bool} (h : List.Perm L M) : List.Perm (halfL L d b) (halfL M d b) := h.filter _
theorem canon_perm : ∀ {g d : Nat} {L M : List (By × By)}, List.Perm L M → canon g d L = canon g d M
 | g, d, [], M, h => by rw [h.nil_eq]
 | g, d, [x], M, h => by rw [List.singleton_perm.1 h]
 | g, d, x :: y :: l, [], h => by have := h.length_eq; simp at this
 | g, d, x :: y :: l, [z], h => by have := h.length_eq; simp at this
 | 0, d, x :: y :: l, z :: w :: M, h => rfl
 | g + 1, d, x :: y :: l, z :: w :: M, h => by
  rw [canon, canon, canon_perm (halfL_perm h), canon_perm (halfL_perm h)]
theorem half_app {L : List (By × By)} {x : By × By} {d : Nat} {b : Bool} (hd : d < 256) : halfL (x :: L) d b = (if bit x.1 d = b then [x] else []) ++ halfL L d b := by
 unfold halfL
 rw [List.filter_cons, bitI_eq hd]
 by_cases h : bit x.1 d = b <;> simp [h]
theorem canon_pair {g e : Nat} {p q : By × By} : canon (g + 1) e [p, q] = .f (canon g (e + 1) (halfL [p, q] e false)) (canon g (e + 1) (halfL [p, q] e true)) := by rw [canon]
theorem canon_wrap {g e : Nat} {p q : By × By} (he : e < 256) (h : bit p.1 e = bit q.1 e) : Tr.wrap p.1 e (canon g (e + 1) [p, q]) = canon (g + 1) e [p, q] := by
 rw [canon_pair, Tr.wrap, bitI_eq he, half_app he, half_app he, half_app he, half_app he, ← h]
 cases hb : bit p.1 e
 ·simp [halfL, canon_nil]
 ·simp [halfL, canon_nil]
theorem canon_fork2 {g e : Nat} {p q : By × By} (he : e < 256) (h : ¬ bit q.1 e = bit p.1 e) : Tr.fork2 p.1 (.l p.1 p.2) (.l q.1 q.2) e = canon (g + 1) e [p, q] := by
 rw [canon_pair, Tr.fork2, bitI_eq he, half_app he, half_app he, half_app he, half_app he]
 cases hb : bit p.1 e <;> cases hq : bit q.1 e
 ·rw [hb, hq] at h; exact (h rfl).elim
 ·simp [halfL, canon_one]
 ·simp [halfL, canon_one]
 ·rw [hb, hq] at h; exact (h rfl).elim
theorem canon_joinW {d : Nat} {p q : By × By} : ∀ k, d + k ≤ 256 → (∀ e, d ≤ e → e < d + k → bit p.1 e = bit q.1 e) → Tr.joinW p.1 d k (canon (256 - (d + k)) (d + k) [p, q]) = canon (256 - d) d [p, q]
 | 0, _, _ => rfl
 | k + 1, hk, h => by
  rw [Tr.joinW, show d + (k + 1) = d + k + 1 by omega, canon_wrap (by omega) (h _ (by omega) (by omega)), show 256 - (d + k + 1) + 1 = 256 - (d + k) by omega]
  exact canon_joinW k (by omega) fun e h1 h2 => h e h1 (by omega)
theorem canon_join {d : Nat} {p q : By × By} (hp : p.1.length = 32) (hq : q.1.length = 32) (hne : p.1 ≠ q.1) (ha : ∀ k, k < d → bit p.1 k = bit q.1 k) (hd : d ≤ 256) :
  Tr.join p.1 p.2 q.1 q.2 d = canon (256 - d) d [p, q] := by
 have hlt := common_lt hp hq hne
 have hge := common_ge ha hd
 have hag : ∀ j, j < common p.1 q.1 → bit p.1 j = bit q.1 j := fun j hj => common_agree hj
 have hpt := common_part hlt
 rw [Tr.join]
 generalize common p.1 q.1 = c at hlt hge hag hpt
 have h1 := canon_fork2 (g := 255 - c) hlt hpt
 rw [h1]
 have h2 := canon_joinW (d := d) (p := p) (q := q) (c - d) (by omega) fun e _ he2 => hag e (by omega)
 rw [show d + (c - d) = c by omega] at h2
 rw [show 255 - c + 1 = 256 - c by omega]
 exact h2
theorem putG_perm {x v : By} : ∀ (L : List (By × By)) (b : Bool), List.Perm (putG x v L b) ((if b = true then [] else [(x, v)]) ++ L.filter fun y => decide (y.1 ≠ x))
 | [], b => by cases b <;> simp [putG]
 | e :: l, b => by
  have ih := putG_perm (x := x) (v := v) l (b || !lt e.1 x)
  rw [putG]
  by_cases he : e.1 = x
  ·have hf : ((e :: l).filter fun y => decide (y.1 ≠ x)) = l.filter fun y => decide (y.1 ≠ x) := List.filter_cons_of_neg (by simp [he])
   rw [hf]
   generalize (l.filter fun y => decide (y.1 ≠ x)) = F at ih
   simp only [he, if_true, List.nil_append]
   rw [he] at ih
   cases b <;> cases hl : lt x x <;> simp [hl] at ih ⊢ <;> exact ih
  ·have hf : ((e :: l).filter fun y => decide (y.1 ≠ x)) = e :: l.filter fun y => decide (y.1 ≠ x) := List.filter_cons_of_pos (by simpa using he)
   rw [hf]
   generalize (l.filter fun y => decide (y.1 ≠ x)) = F at ih
   simp only [he, if_false]
   cases b <;> cases hl : lt e.1 x <;> simp [hl] at ih ⊢
   ·exact ih
   ·exact (List.Perm.cons e ih).trans (List.Perm.swap _ _ _)
   ·exact ih
   ·exact ih
theorem putL_perm (x v : By) (L : List (By × By)) : List.Perm (putL x v L) ((x, v) :: L.filter fun y => decide (y.1 ≠ x)) := putG_perm L false
theorem Dst.perm {d : Nat} {L M : List (By × By)} (h : Dst d L) (hp : List.Perm L M) : Dst d M :=
 ⟨(hp.map _).nodup_iff.1 h.nodup, fun x hx => h.len x (hp.mem_iff.2 hx), fun x hx y hy => h.agree x (hp.mem_iff.2 hx) y (hp.mem_iff.2 hy)⟩
theorem Dst.cons {d : Nat} {L : List (By × By)} {x v : By} (h : Dst d L) (hx : x.length = 32) (ha : ∀ y ∈ L, ∀ k, k < d → bit x k = bit y.1 k) : Dst d ((x, v) :: L.filter fun y => decide (y.1 ≠ x)) := by
 refine ⟨?_, ?_, ?_⟩
 ·rw [List.map_cons, List.nodup_cons]
  refine ⟨?_, h.nodup.sublist (List.Sublist.map _ List.filter_sublist)⟩
  intro hm
  obtain ⟨y, hy, he⟩ := List.mem_map.1 hm
  have := (List.mem_filter.1 hy).2
  simp at this
  exact this he
 ·intro y hy
  rcases List.mem_cons.1 hy with rfl | hy
  ·exact hx
  ·exact h.len y (List.mem_filter.1 hy).1
 ·intro y hy z hz k hk
  rcases List.mem_cons.1 hy with rfl | hy <;> rcases List.mem_cons.1 hz with rfl | hz
  ·rfl
  ·exact ha z (List.mem_filter.1 hz).1 k hk
  ·exact (ha y (List.mem_filter.1 hy).1 k hk).symm
  ·exact h.agree y (List.mem_filter.1 hy).1 z (List.mem_filter.1 hz).1 k hk
theorem canon_put : ∀ {g d : Nat} {L : List (By × By)} {x v : By}, g + d = 256 → Dst d L → x.length = 32 → (∀ y ∈ L, ∀ k, k < d → bit x k = bit y.1 k) →
  Tr.put x v (canon g d L) d = canon g d ((x, v) :: L.filter fun y => decide (y.1 ≠ x))
 | g, d, [], x, v, hg, h, hx, ha => by rw [canon_nil, List.filter_nil, canon_one, Tr.put]
 | g, d, [y], x, v, hg, h, hx, ha => by
  rw [canon_one, Tr.put]
  by_cases hyx : y.1 = x
  ·rw [if_pos hyx, List.filter_cons, if_neg (by simp [hyx]), List.filter_nil, canon_one]
  ·rw [if_neg hyx, List.filter_cons, if_pos (by simpa using hyx), List.filter_nil]
   have hj := canon_join (d := d) (p := y) (q := (x, v)) (h.len y (by simp)) hx hyx (fun k hk => (ha y (by simp) k hk).symm) (by omega)
   rw [hj, show 256 - d = g by omega]
   exact canon_perm (List.Perm.swap _ _ _)
 | 0, d, y :: z :: l, x, v, hg, h, hx, ha => by rw [Nat.zero_add] at hg; subst hg; exact h.two.elim
 | g + 1, d, y :: z :: l, x, v, hg, h, hx, ha => by
  have hd : d < 256 := by omega
  obtain ⟨L, hL⟩ : ∃ L, L = y :: z :: l := ⟨_, rfl⟩
  have hcan : canon (g + 1) d (y :: z :: l) = .f (canon g (d + 1) (halfL L d false)) (canon g (d + 1) (halfL L d true)) := by rw [canon, ← hL]
  have hne : ∃ u M, (L.filter fun y => decide (y.1 ≠ x)) = u :: M := by
   have hn := h.nodup
   simp only [List.map_cons, List.nodup_cons, List.mem_cons, not_or] at hn
   rw [hL, List.filter_cons]
   by_cases hyx : y.1 = x
   ·rw [if_neg (by simp [hyx]), List.filter_cons, if_pos (by simp only [decide_eq_true_eq]; exact fun e => hn.1.1 (hyx.trans e.symm))]
    exact ⟨_, _, rfl⟩
   ·rw [if_pos (by simpa using hyx)]
    exact ⟨_, _, rfl⟩
  rw [hcan, ← hL] 
  rw [← hL] at h ha
  have hfil : ∀ b, halfL (L.filter fun y => decide (y.1 ≠ x)) d b = (halfL L d b).filter fun y => decide (y.1 ≠ x) := fun b => by
   unfold halfL
   rw [List.filter_filter, List.filter_filter]
   exact List.filter_congr fun _ _ => Bool.and_comm _ _
  have hoff : ∀ b, bit x d ≠ b → ((halfL L d b).filter fun y => decide (y.1 ≠ x)) = halfL L d b := fun b hb => by
   refine List.filter_eq_self.2 fun u hu => ?_
   simp only [decide_eq_true_eq]
   intro e
   exact hb (by rw [← e]; exact ((mem_half hd).1 hu).2)
  have hag : ∀ u ∈ halfL L d (bit x d), ∀ k, k < d + 1 → bit x k = bit u.1 k := fun u hu k hk => by
   obtain ⟨h1, h2⟩ := (mem_half hd).1 hu
   rcases Nat.eq_or_lt_of_le (Nat.le_of_lt_succ hk) with rfl | hk
   ·exact h2.symm
   ·exact ha u h1 k hk
  have ih := canon_put (g := g) (d := d + 1) (L := halfL L d (bit x d)) (x := x) (v := v) (by omega) (h.half hd _) hx hag
  have hR : canon (g + 1) d ((x, v) :: L.filter fun y => decide (y.1 ≠ x)) = .f (canon g (d + 1) (halfL ((x, v) :: L.filter fun y => decide (y.1 ≠ x)) d false)) (canon g (d + 1) (halfL ((x, v) :: L.filter fun y => decide (y.1 ≠ x)) d true)) := by
   obtain ⟨u, M, hu⟩ := hne
   rw [hu, canon]
  rw [hR, half_app hd, half_app hd, hfil, hfil, Tr.put, bitI_eq hd]
  cases hb : bit x d
  ·rw [hb] at ih
   rw [if_neg (by simp), ih, hoff true (by rw [hb]; simp)]
   simp
  ·rw [hb] at ih
   rw [if_pos rfl, ih, hoff false (by rw [hb]; simp)]
   simp
theorem Dst.put {L : List (By × By)} {x v : By} (h : Dst 0 L) (hx : x.length = 32) : Dst 0 (putL x v L) :=
 (h.cons (v := v) hx fun _ _ k hk => by omega).perm (putL_perm x v L).symm
def treeOf (L : List (By × By)) : Tr := canon 256 0 L
theorem treeOf_put {L : List (By × By)} {x v : By} (h : Dst 0 L) (hx : x.length = 32) : Tr.put x v (treeOf L) 0 = treeOf (putL x v L) := by
 unfold treeOf
 rw [canon_put (by omega) h hx fun _ _ k hk => by omega]
 exact canon_perm (putL_perm x v L).symm
theorem ofLv_dst : ∀ {Z : List (By × By)}, (∀ x ∈ Z, x.1.length = 32) → Dst 0 (ofLv Z) ∧ Tr.ofL Z = treeOf (ofLv Z) := by
 intro Z
 induction h : Z.length generalizing Z with
 | zero =>
  have := List.eq_nil_of_length_eq_zero h
  subst this
  exact fun _ => ⟨Dst.nil, by simp [Tr.ofL, ofLv, treeOf, canon_nil]⟩
 | succ k ih =>
  intro h32
  have hne : Z ≠ [] := by intro e; subst e; simp at h
  rw [← List.dropLast_concat_getLast hne, ofLv_snoc, Tr.ofL_snoc]
  obtain ⟨h1, h2⟩ := ih (Z := Z.dropLast) (by simp [h]) fun x hx => h32 x ((List.dropLast_sublist Z).subset hx)
  have hl := h32 _ (List.getLast_mem hne)
  exact ⟨h1.put hl, by rw [h2, treeOf_put h1 hl]⟩
theorem length_split {α : Type} (p : α → Bool) : ∀ L : List α, (L.filter fun z => !p z).length + (L.filter p).length = L.length
 | [] => rfl
 | x :: L => by
  have := length_split p L
  rw [List.filter_cons, List.filter_cons]
  cases h : p x <;> simp <;> omega
theorem canon_n : ∀ {g d : Nat} {L : List (By × By)}, Ends g d L → (canon g d L).n = L.length
 | _, _, [], _ => by rw [canon_nil]; rfl
 | _, _, [_], _ => by rw [canon_one]; rfl
 | 0, _, _ :: _ :: _, h => h.zero.elim
 | g + 1, d, x :: y :: l, h => by
  obtain ⟨h1, h2⟩ := h.halves
  rw [canon, Tr.n, canon_n h1, canon_n h2]
  have e : (halfL (x :: y :: l) d false) = (x :: y :: l).filter fun z => !bitI z.1 d := by
   unfold halfL
   exact List.filter_congr fun z _ => by simp
  have e2 : (halfL (x :: y :: l) d true) = (x :: y :: l).filter fun z => bitI z.1 d := by
   unfold halfL
   exact List.filter_congr fun z _ => by simp
  rw [e, e2]
  exact length_split (fun z : By × By => bitI z.1 d) (x :: y :: l)
theorem canon_ht : ∀ {g d : Nat} {L : List (By × By)}, (canon g d L).ht ≤ g
 | _, _, [] => by rw [canon_nil]; simp [Tr.ht]
 | _, _, [_] => by rw [canon_one]; simp [Tr.ht]
 | 0, _, _ :: _ :: _ => by simp [canon, Tr.ht]
 | g + 1, d, x :: y :: l => by
  rw [canon, Tr.ht]
  have h1 := canon_ht (g := g) (d := d + 1) (L := halfL (x :: y :: l) d false)
  have h2 := canon_ht (g := g) (d := d + 1) (L := halfL (x :: y :: l) d true)
  omega
theorem canon_ok : ∀ {g d : Nat} {L : List (By × By)}, Ends g d L → (canon g d L).ok
 | _, _, [], _ => by rw [canon_nil]; exact .mkE
 | _, _, [_], _ => by rw [canon_one]; exact .mkL
 | 0, _, _ :: _ :: _, h => h.zero.elim
 | g + 1, d, x :: y :: l, h => by
  have hn := canon_n h
  obtain ⟨h1, h2⟩ := h.halves
  rw [canon] at hn ⊢
  refine .mkF ?_ (canon_ok h1) (canon_ok h2)
  rw [Tr.n] at hn
  rw [hn]
  simp
theorem treeOf_fine {L : List (By × By)} (h : Dst 0 L) (hL : L.length < 1000000000) : (treeOf L).ok ∧ (treeOf L).n = L.length ∧ (treeOf L).ht ≤ 256 :=
 ⟨canon_ok (h.ends (g := 256) (by omega)), canon_n (h.ends (g := 256) (by omega)), canon_ht⟩
end Go.Proofs.Ytonlmjpenonabaa

namespace Go.Proofs.Ytonlmjpenonabaa
open Go Go.RowKit K SH PT
end Go.Proofs.Ytonlmjpenonabaa

namespace Go.Proofs.Ytonlmjpenonabaa
open Go Go.RowKit K SH PT
theorem ofLv_d32 {Z : List (By × By)} (h : D32p Z) : D32p (ofLv Z) := by
 induction h' : Z.length generalizing Z with
 | zero => have := List.eq_nil_of_length_eq_zero h'; subst this; simp [ofLv, D32p]
 | succ k ih =>
  have hne : Z ≠ [] := by intro e; subst e; simp at h'
  rw [← List.dropLast_concat_getLast hne, ofLv_snoc]
  have hl := h _ (List.getLast_mem hne)
  exact (ih (Z := Z.dropLast) (fun x hx => h x ((List.dropLast_sublist Z).subset hx)) (by simp [h'])).put hl.1 hl.2
theorem d32_zip {A V : List By} (ha : D32 A) (hv : D32 V) : D32p (A.zip V) := fun x hx => ⟨ha _ (List.of_mem_zip hx).1, hv _ (List.of_mem_zip hx).2⟩
section
variable {m : Mem} {wI : World}
theorem c_tput' {p : Nat} {L : List (By × By)} {j u : By} (him : Im m wI) (h : TreeM m p (treeOf L)) (hj : j.length = 32) (hu : u.length = 32) (hD : Dst 0 L) (hL : L.length < 1000000000) :
  Ret Try.prog 22 #[ptrP p, arr j, arr u] wI fun v' w' => Out m wI w' fun m' => ∃ q, v' = ptrP q ∧ TreeM m' q (treeOf (putL j u L)) := by
 obtain ⟨h1, h2, h3⟩ := treeOf_fine hD hL
 have h := c_tput him h hj hu h1 (by omega) (by omega)
 rw [treeOf_put hD hj] at h
 exact h
end
end Go.Proofs.Ytonlmjpenonabaa

namespace Go.Proofs.Ytonlmjpenonabaa
open Go Go.RowKit K SH PT
end Go.Proofs.Ytonlmjpenonabaa

namespace Go.Proofs.Ytonlmjpenonabaa
open Go Go.RowKit K SH PT
end Go.Proofs.Ytonlmjpenonabaa

namespace Go.Proofs.Ytonlmjpenonabaa
open Go Go.RowKit K SH PT
end Go.Proofs.Ytonlmjpenonabaa

namespace Go.Proofs.Ytonlmjpenonabaa
open Go Go.RowKit K SH PT
end Go.Proofs.Ytonlmjpenonabaa

namespace Go.Proofs.Ytonlmjpenonabaa
open Go Go.RowKit K SH PT
namespace Tr
def walk : Tr → List (By × By)
 | .e => []
 | .l i v => [(i, v)]
 | .f a b => a.walk ++ b.walk
theorem length_walk : ∀ t : Tr, t.walk.length = t.n
 | .e => rfl
 | .l _ _ => rfl
 | .f a b => by rw [walk, n, List.length_append, length_walk a, length_walk b]
end Tr
def Up (L : List (By × By)) : Prop := L.Pairwise fun x y => lt x.1 y.1 = true
theorem nat_lt_bits {a b i : Nat} (ha : a.testBit i = false) (hb : b.testBit i = true) (h : ∀ j, i < j → a.testBit j = b.testBit j) : a < b := by
 have e : a / 2 ^ (i + 1) = b / 2 ^ (i + 1) := by
  refine Nat.eq_of_testBit_eq fun j => ?_
  rw [Nat.testBit_div_two_pow, Nat.testBit_div_two_pow]
  exact h _ (by omega)
 have h1 := Nat.div_add_mod a (2 ^ (i + 1))
 have h2 := Nat.div_add_mod b (2 ^ (i + 1))
 rw [e] at h1
 have ka : a % 2 ^ (i + 1) < 2 ^ i := by
  refine Nat.lt_pow_two_of_testBit _ fun j hj => ?_
  rw [Nat.testBit_mod_two_pow]
  by_cases hji : j = i
  ·subst hji; simp [ha]
  ·rw [decide_eq_false (by omega)]; rfl
 have kb : 2 ^ i ≤ b % 2 ^ (i + 1) := by
  refine Nat.ge_two_pow_of_testBit ?_
  rw [Nat.testBit_mod_two_pow]
  simp [hb]
 omega
theorem lt_of_bits {a b : By} {d : Nat} (ha : a.length = 32) (hb : b.length = 32) (h : ∀ k, k < d → bit a k = bit b k) (hd : d < 256) (h0 : bit a d = false) (h1 : bit b d = true) : lt a b = true := by
 have hbyte : ∀ i, i < d / 8 → a.getD i 0 = b.getD i 0 := fun i hi => by
  rw [← UInt8.toNat_inj]
  refine Nat.eq_of_testBit_eq fun j => ?_
  by_cases hj : j < 8
  ·have := h (8 * i + (7 - j)) (by omega)
   unfold bit at this
   rw [show (8 * i + (7 - j)) / 8 = i by omega, show 7 - (8 * i + (7 - j)) % 8 = j by omega] at this
   exact this
  ·have e1 : (a.getD i 0).toNat < 2 ^ j := Nat.lt_of_lt_of_le (a.getD i 0).toNat_lt (Nat.pow_le_pow_right (by omega) (by omega : 8 ≤ j))
   have e2 : (b.getD i 0).toNat < 2 ^ j := Nat.lt_of_lt_of_le (b.getD i 0).toNat_lt (Nat.pow_le_pow_right (by omega) (by omega : 8 ≤ j))
   rw [Nat.testBit_lt_two_pow e1, Nat.testBit_lt_two_pow e2]
 have hlt : (a.getD (d / 8) 0).toNat < (b.getD (d / 8) 0).toNat := by
  refine nat_lt_bits (i := 7 - d % 8) ?_ ?_ fun j hj => ?_
  ·exact h0
  ·exact h1
  ·by_cases hj8 : j < 8
   ·have := h (8 * (d / 8) + (7 - j)) (by omega)
    unfold bit at this
    rw [show (8 * (d / 8) + (7 - j)) / 8 = d / 8 by omega, show 7 - (8 * (d / 8) + (7 - j)) % 8 = j by omega] at this
    exact this
   ·have e1 : (a.getD (d / 8) 0).toNat < 2 ^ j := Nat.lt_of_lt_of_le (a.getD (d / 8) 0).toNat_lt (Nat.pow_le_pow_right (by omega) (by omega : 8 ≤ j))
    have e2 : (b.getD (d / 8) 0).toNat < 2 ^ j := Nat.lt_of_lt_of_le (b.getD (d / 8) 0).toNat_lt (Nat.pow_le_pow_right (by omega) (by omega : 8 ≤ j))
    rw [Nat.testBit_lt_two_pow e1, Nat.testBit_lt_two_pow e2]
 have key : ∀ k, k ≤ d / 8 → lt a b = lt (a.drop k) (b.drop k) := by
  intro k
  induction k with
  | zero => intro _; rfl
  | succ k ih =>
   intro hk
   rw [ih (by omega), lt_step (by omega) (by omega), if_pos (hbyte k (by omega))]
 rw [key _ (Nat.le_refl _), lt_step (by omega) (by omega), if_neg (fun e => by rw [e] at hlt; omega)]
 exact decide_eq_true hlt
theorem lt_irrefl : ∀ a : By, lt a a = false
 | [] => rfl
 | x :: a => by rw [lt, if_pos rfl, lt_irrefl a]
theorem lt_trans : ∀ {a b c : By}, lt a b = true → lt b c = true → lt a c = true
 | [], _, _, h, _ => by simp [lt] at h
 | _ :: _, [], _, h, _ => by simp [lt] at h
 | _ :: _, _ :: _, [], _, h => by simp [lt] at h
 | x :: a, y :: b, z :: c, h1, h2 => by
  rw [lt] at h1 h2 ⊢
  by_cases e1 : x = y
  ·by_cases e2 : y = z
   ·rw [if_pos e1] at h1; rw [if_pos e2] at h2; rw [if_pos (e1.trans e2)]; exact lt_trans h1 h2
   ·rw [if_neg e2] at h2; subst e1; rw [if_neg e2]; exact h2
  ·rw [if_neg e1] at h1
   have h1' : x.toNat < y.toNat := by simpa using h1
   by_cases e2 : y = z
   ·subst e2; rw [if_neg e1]; exact h1
   ·rw [if_neg e2] at h2
    have h2' : y.toNat < z.toNat := by simpa using h2
    rw [if_neg (fun e => by rw [e] at h1'; omega)]
    exact decide_eq_true (by omega)
theorem lt_total : ∀ {a b : By}, a.length = b.length → a ≠ b → lt a b = false → lt b a = true
 | [], [], _, h, _ => (h rfl).elim
 | [], _ :: _, h, _, _ => by simp at h
 | _ :: _, [], h, _, _ => by simp at h
 | x :: a, y :: b, hl, hne, h => by
  rw [lt] at h ⊢
  by_cases e : x = y
  ·rw [if_pos e] at h
   rw [if_pos e.symm]
   exact lt_total (by simpa using hl) (fun e2 => hne (by rw [e, e2])) h
  ·rw [if_neg e] at h
   rw [if_neg (fun e2 => e e2.symm)]
   have : ¬ x.toNat < y.toNat := by simpa using h
   have hn : x.toNat ≠ y.toNat := fun e2 => e (UInt8.toNat_inj.mp e2)
   exact decide_eq_true (by omega)
theorem canon_walk : ∀ {g d : Nat} {L : List (By × By)}, g + d = 256 → Dst d L → List.Perm (canon g d L).walk L ∧ Up (canon g d L).walk
 | _, _, [], _, _ => by rw [canon_nil]; exact ⟨List.Perm.refl _, by simp [Tr.walk, Up]⟩
 | _, _, [_], _, _ => by rw [canon_one]; exact ⟨List.Perm.refl _, by simp [Tr.walk, Up]⟩
 | 0, d, x :: y :: l, hg, h => by rw [Nat.zero_add] at hg; subst hg; exact h.two.elim
 | g + 1, d, x :: y :: l, hg, h => by
  have hd : d < 256 := by omega
  obtain ⟨p0, u0⟩ := canon_walk (g := g) (d := d + 1) (by omega) (h.half hd false)
  obtain ⟨p1, u1⟩ := canon_walk (g := g) (d := d + 1) (by omega) (h.half hd true)
  rw [canon, Tr.walk]
  refine ⟨(p0.append p1).trans ?_, List.pairwise_append.2 ⟨u0, u1, fun u hu v hv => ?_⟩⟩
  ·have e : halfL (x :: y :: l) d false = (x :: y :: l).filter fun z => !bitI z.1 d := List.filter_congr fun z _ => by simp
   have e2 : halfL (x :: y :: l) d true = (x :: y :: l).filter fun z => bitI z.1 d := List.filter_congr fun z _ => by simp
   rw [e, e2]
   exact List.perm_append_comm.trans (List.filter_append_perm _ _)
  ·obtain ⟨hu1, hu2⟩ := (mem_half hd).1 (p0.mem_iff.1 hu)
   obtain ⟨hv1, hv2⟩ := (mem_half hd).1 (p1.mem_iff.1 hv)
   exact lt_of_bits (h.len u hu1) (h.len v hv1) (h.agree u hu1 v hv1) hd hu2 hv2
theorem up_eq {L M : List (By × By)} (hL : Up L) (hM : Up M) (h : List.Perm L M) : L = M := by
 unfold Up at hL hM
 refine List.Perm.eq_of_pairwise (fun a b _ _ h1 h2 => ?_) hL hM h
 have := lt_trans h1 h2
 rw [lt_irrefl] at this
 cases this
theorem up_putG {x v : By} (hx : x.length = 32) : ∀ {L : List (By × By)} {b : Bool}, Up L → (∀ y ∈ L, y.1.length = 32) → (b = true → ∀ y ∈ L, y.1 = x ∨ lt x y.1 = true) → Up (putG x v L b) ∧ ∀ y ∈ putG x v L b, y.1 = x ∨ ∃ z ∈ L, y.1 = z.1
 | [], b, _, _, _ => by
  cases b
  ·simp [putG, Up]
  ·simp [putG, Up]
 | e :: l, b, hU, h32, hb => by
  have hU1 := (List.pairwise_cons.1 hU).1
  have hU2 := (List.pairwise_cons.1 hU).2
  have he := h32 e (by simp)
  have hl32 : ∀ y ∈ l, y.1.length = 32 := fun y hy => h32 y (by simp [hy])
  have hnext : (b || !lt e.1 x) = true → ∀ y ∈ l, y.1 = x ∨ lt x y.1 = true := by
   intro h y hy
   have hey := hU1 y hy
   cases b
   ·simp only [Bool.false_or, Bool.not_eq_true'] at h
    by_cases e1 : e.1 = x
    ·right; rw [← e1]; exact hey
    ·right; exact lt_trans (lt_total (by omega) e1 h) hey
   ·rcases hb rfl e (by simp) with e1 | e1
    ·right; rw [← e1]; exact hey
    ·right; exact lt_trans e1 hey
  obtain ⟨ih1, ih2⟩ := up_putG (v := v) hx (L := l) (b := b || !lt e.1 x) hU2 hl32 hnext
  have hsub : ∀ y ∈ putG x v (e :: l) b, y.1 = x ∨ ∃ z ∈ (e :: l), y.1 = z.1 := by
   intro y hy
   rcases mem_putG hy with rfl | h
   ·exact .inl rfl
   ·exact .inr ⟨y, h, rfl⟩
  refine ⟨?_, hsub⟩
  rw [putG]
  -- what follows e is above it
  have habove : ∀ y ∈ putG x v l (b || !lt e.1 x), lt e.1 y.1 = true ∨ (y.1 = x ∧ (b || !lt e.1 x) = false) := by
   intro y hy
   rcases ih2 y hy with h | ⟨z, hz, h⟩
   ·by_cases hf : (b || !lt e.1 x) = false
    ·exact .inr ⟨h, hf⟩
    ·have ht : (b || !lt e.1 x) = true := by
      cases hq : (b || !lt e.1 x)
      ·exact (hf hq).elim
      ·rfl
     have hp := (putG_perm (x := x) (v := v) l (b || !lt e.1 x)).mem_iff.1 hy
     rw [ht] at hp
     simp only [if_true, List.nil_append, List.mem_filter, decide_eq_true_eq] at hp
     exact (hp.2 h).elim
   ·left; rw [h]; exact hU1 z hz
  have hrest : Up ((if e.1 = x then [] else [e]) ++ putG x v l (b || !lt e.1 x)) := by
   by_cases e1 : e.1 = x
   ·rw [if_pos e1]; exact ih1
   ·rw [if_neg e1]
    refine List.pairwise_cons.2 ⟨fun y hy => ?_, ih1⟩
    rcases habove y hy with h | ⟨h, hf⟩
    ·exact h
    ·rw [h]
     cases b <;> simp_all
  by_cases hc : b = false ∧ lt e.1 x = false
  ·rw [if_pos hc, List.singleton_append]
   refine List.pairwise_cons.2 ⟨fun y hy => ?_, hrest⟩
   have hbt : (b || !lt e.1 x) = true := by rw [hc.1, hc.2]; rfl
   rcases List.mem_append.1 hy with hy | hy
   ·by_cases e1 : e.1 = x
    ·rw [if_pos e1] at hy; simp at hy
    ·rw [if_neg e1] at hy
     simp only [List.mem_singleton] at hy
     rw [hy]
     exact lt_total (a := e.1) (b := x) (by omega) e1 hc.2
   ·have hp := (putG_perm (x := x) (v := v) l (b || !lt e.1 x)).mem_iff.1 hy
    rw [hbt] at hp
    simp only [if_true, List.nil_append, List.mem_filter, decide_eq_true_eq] at hp
    exact (hnext hbt y hp.1).resolve_left hp.2
  ·rw [if_neg hc]
   exact hrest
theorem up_ofLv : ∀ {Z : List (By × By)}, D32p Z → Up (ofLv Z) := by
 intro Z
 induction h : Z.length generalizing Z with
 | zero => have := List.eq_nil_of_length_eq_zero h; subst this; intro _; simp [ofLv, Up]
 | succ k ih =>
  intro h32
  have hne : Z ≠ [] := by intro e; subst e; simp at h
  rw [← List.dropLast_concat_getLast hne, ofLv_snoc]
  have hl := h32 _ (List.getLast_mem hne)
  have hd : D32p Z.dropLast := fun x hx => h32 x ((List.dropLast_sublist Z).subset hx)
  exact (up_putG hl.1 (ih (by simp [h]) hd) (fun y hy => (ofLv_d32 hd y hy).1) (fun h => by cases h)).1
theorem walk_treeOf {L : List (By × By)} (h : Dst 0 L) (hU : Up L) : (treeOf L).walk = L := by
 obtain ⟨h1, h2⟩ := canon_walk (g := 256) (d := 0) (by omega) h
 exact up_eq h2 hU h1
section
variable {l : Nat} {items : List (By × By)} {J : Nat → World → Prop} {Jx : World → Prop} {m1 : Mem}
theorem c_walk (him : ∀ i W, J i W → Im m1 W) (hdr : ∀ i W, J i W → J i W.drew)
    (hy : ∀ i W x, items[i]? = some x → J i W → YieldR Try.prog l [arr x.1, arr x.2] W fun v W' => (v = .bool true ∧ J (i + 1) W') ∨ (v = .bool false ∧ Jx W')) :
    ∀ {t : Tr} {p i : Nat} {W : World}, TreeM m1 p t → t.ok → (∀ (k : Nat) (x : By × By), t.walk[k]? = some x → items[i + k]? = some x) → J i W →
    Ret Try.prog 55 #[ptrP p, .func (.yield l) #[] #[]] W fun v W' => (v = .bool true ∧ J (i + t.n) W') ∨ (v = .bool false ∧ Jx W') := by
  intro t
  induction t with
  | e =>
    intro p i W h _ _ hJ
    have st := St.start (him _ _ hJ)
    refine ret_of Try.call55 Try.func55 rfl Try.ntmps55 Try.results55 rfl ?_
    refine wc_seq ?_
    refine wc_region ?_
    refine wl_val (v_assign' (by conv => (lhs; whnf))) rfl ?_
    refine wl_nil ?_
    refine then_go ?_
    refine wc_seq ?_
    refine wc_seq ?_
    refine wc_region ?_
    refine wl_val (v_move' (by conv => (lhs; whnf))) rfl ?_
    refine wl_val (v_nil rfl) rfl ?_
    refine wl_val (v_fa TF.f97_0 rfl) rfl ?_
    refine wl_val (v_load rfl (h.rdN st)) rfl ?_
    refine wl_val (v_eqlF (a := ((Tr.n .e : Nat) : Int)) (by simp [Tr.n]) rfl rfl) rfl ?_
    refine wl_nil ?_
    refine then_go ?_
    refine wc_false rfl ?_
    refine wc_skip ?_
    refine then_go ?_
    refine wc_seq ?_
    refine wc_region ?_
    refine wl_val (v_move' (by conv => (lhs; whnf))) rfl ?_
    refine wl_val (v_nil rfl) rfl ?_
    refine wl_val (v_fa TF.f97_0 rfl) rfl ?_
    refine wl_val (v_load rfl (h.rdN st)) rfl ?_
    refine wl_val (v_eqlT (a := ((Tr.n .e : Nat) : Int)) rfl rfl rfl) rfl ?_
    refine wl_val (v_move' (by conv => (lhs; whnf))) rfl ?_
    refine wl_off rfl rfl rfl rfl ?_
    refine wl_off rfl rfl rfl rfl ?_
    refine wl_off rfl rfl rfl rfl ?_
    refine wl_off rfl rfl rfl rfl ?_
    refine wl_off rfl rfl rfl rfl ?_
    refine wl_off rfl rfl rfl rfl ?_
    refine wl_off rfl rfl rfl rfl ?_
    refine offU rfl rfl rfl ?_
    refine offU rfl rfl rfl ?_
    refine offU rfl rfl rfl ?_
    refine offU rfl rfl rfl ?_
    refine offU rfl rfl rfl ?_
    refine offU rfl rfl rfl ?_
    refine wl_off rfl rfl rfl rfl ?_
    refine wl_val (v_pick rfl) rfl ?_
    refine wl_val (v_assign' (by conv => (lhs; whnf))) rfl ?_
    refine wl_nil ?_
    refine then_go ?_
    refine wc_ret ?_
    exact ret1 rfl (.inl ⟨rfl, hJ⟩)
  | l iv vv =>
    intro p i W h _ hw hJ
    have st := St.start (him _ _ hJ)
    have hit : items[i]? = some (iv, vv) := by have := hw 0 (iv, vv) rfl; simpa using this
    refine ret_of Try.call55 Try.func55 rfl Try.ntmps55 Try.results55 rfl ?_
    refine wc_seq ?_
    refine wc_region ?_
    refine wl_val (v_assign' (by conv => (lhs; whnf))) rfl ?_
    refine wl_nil ?_
    refine then_go ?_
    refine wc_seq ?_
    refine wc_seq ?_
    refine wc_region ?_
    refine wl_val (v_move' (by conv => (lhs; whnf))) rfl ?_
    refine wl_val (v_nil rfl) rfl ?_
    refine wl_val (v_fa TF.f97_0 rfl) rfl ?_
    refine wl_val (v_load rfl (h.rdN st)) rfl ?_
    refine wl_val (v_eqlT (a := ((Tr.n (.l iv vv) : Nat) : Int)) rfl rfl rfl) rfl ?_
    refine wl_nil ?_
    refine then_go ?_
    refine wc_true rfl ?_
    refine wc_seq ?_
    refine wc_drawI TF.mixed ?_
    have st := st.pure (touch_drew _)
    refine fli_val 0 rfl (fun _ => (v_move' (by conv => (lhs; whnf)))) rfl (by kernel_rfl) ?_
    refine fli_val 1 rfl (fun _ => (v_move' (by conv => (lhs; whnf)))) rfl (by kernel_rfl) ?_
    refine fli_val 2 rfl (fun _ => (v_nil rfl)) rfl (by kernel_rfl) ?_
    refine fli_val 3 rfl (fun _ => (v_fa TF.f97_1 rfl)) rfl (by kernel_rfl) ?_
    refine fli_ld 4 rfl (v_load rfl (h.rdI st)) (by kernel_rfl) ?_
    refine fli_val 5 rfl (fun _ => (v_move' (by conv => (lhs; whnf)))) rfl (by kernel_rfl) ?_
    refine fli_val 6 rfl (fun _ => (v_nil rfl)) rfl (by kernel_rfl) ?_
    refine fli_val 7 rfl (fun _ => (v_fa TF.f97_2 rfl)) rfl (by kernel_rfl) ?_
    refine fli_ld 8 rfl (v_load rfl (h.rdV st)) (by kernel_rfl) ?_
    refine fli_eff1 9 [7, 6, 5, 3, 2, 1] [] (by kernel_rfl) ⟨obl_ld rfl rfl rfl (v_load rfl (h.rdV st)), obl_ld rfl rfl rfl (v_load rfl (h.rdI st)), trivial⟩ rfl ?_
    refine wli_yield rfl rfl (hy i _ (iv, vv) hit (hdr _ _ hJ)) rfl ?_
    intro v19 w hR
    refine wli_nil ⟨rfl, ?_⟩
    refine fli_eff1 10 [] [] (by kernel_rfl) trivial rfl ?_
    refine wli_val (v_assign' (by conv => (lhs; whnf))) rfl ?_
    refine wli_nil ⟨rfl, ?_⟩
    refine fli_nil (by kernel_rfl) trivial ?_
    refine then_go ?_
    refine wc_ret (then_ret ?_)
    exact ret1 rfl hR
  | f a b iha ihb =>
    intro p i W h hok hw hJ
    have st := St.start (him _ _ hJ)
    obtain ⟨h2, hoa, hob⟩ := hok.fork
    obtain ⟨pa, pb, ha, hb, hm⟩ := h.fork
    have hwa : ∀ k x, a.walk[k]? = some x → items[i + k]? = some x := fun k x hk => by
      have hlt : k < a.walk.length := by
        rcases Nat.lt_or_ge k a.walk.length with h' | h'
        · exact h'
        · rw [List.getElem?_eq_none h'] at hk; cases hk
      exact hw k x (by rw [Tr.walk, List.getElem?_append_left hlt]; exact hk)
    have hwb : ∀ k x, b.walk[k]? = some x → items[i + a.n + k]? = some x := fun k x hk => by
      have := hw (a.n + k) x (by rw [Tr.walk, List.getElem?_append_right (by rw [Tr.length_walk]; omega), Tr.length_walk, Nat.add_sub_cancel_left]; exact hk)
      rw [← Nat.add_assoc] at this
      exact this
    refine ret_of Try.call55 Try.func55 rfl Try.ntmps55 Try.results55 rfl ?_
    refine wc_seq ?_
    refine wc_region ?_
    refine wl_val (v_assign' (by conv => (lhs; whnf))) rfl ?_
    refine wl_nil ?_
    refine then_go ?_
    refine wc_seq ?_
    refine wc_seq ?_
    refine wc_region ?_
    refine wl_val (v_move' (by conv => (lhs; whnf))) rfl ?_
    refine wl_val (v_nil rfl) rfl ?_
    refine wl_val (v_fa TF.f97_0 rfl) rfl ?_
    refine wl_val (v_load rfl (h.rdN st)) rfl ?_
    refine wl_val (v_eqlF (a := ((Tr.n (.f a b) : Nat) : Int)) (by simp only [Tr.n]; omega) rfl rfl) rfl ?_
    refine wl_nil ?_
    refine then_go ?_
    refine wc_false rfl ?_
    refine wc_skip ?_
    refine then_go ?_
    refine wc_seq ?_
    refine wc_region ?_
    refine wl_val (v_move' (by conv => (lhs; whnf))) rfl ?_
    refine wl_val (v_nil rfl) rfl ?_
    refine wl_val (v_fa TF.f97_0 rfl) rfl ?_
    refine wl_val (v_load rfl (h.rdN st)) rfl ?_
    refine wl_val (v_eqlF (a := ((Tr.n (.f a b) : Nat) : Int)) (by simp only [Tr.n]; omega) rfl rfl) rfl ?_
    refine wl_val (v_move' (by conv => (lhs; whnf))) rfl ?_
    refine wl_on rfl rfl ?_
    refine wl_val (v_move' (by conv => (lhs; whnf))) rfl ?_
    refine wl_on rfl rfl ?_
    refine wl_val (v_nil rfl) rfl ?_
    refine wl_on rfl rfl ?_
    refine wl_val (v_fa TF.f97_3 rfl) rfl ?_
    refine wl_on rfl rfl ?_
    refine wl_val (v_load rfl (rdLp hm st)) rfl ?_
    refine wl_on rfl rfl ?_
    refine wl_val (v_move' (by conv => (lhs; whnf))) rfl ?_
    refine wl_on rfl rfl ?_
    refine wl_call rfl (iha ha hoa hwa hJ) rfl ?_
    intro v31 w hR
    obtain ⟨bb, rfl, hb1, hb2⟩ : ∃ bb : Bool, v31 = .bool bb ∧ (bb = true → J (i + a.n) w) ∧ (bb = false → Jx w) := by
      rcases hR with ⟨rfl, h⟩ | ⟨rfl, h⟩
      · exact ⟨true, rfl, fun _ => h, (fun h2 => by cases h2)⟩
      · exact ⟨false, rfl, (fun h2 => by cases h2), fun _ => h⟩
    refine wl_on rfl rfl ?_
    refine wl_val (v_move' (by conv => (lhs; whnf))) rfl ?_
    rcases Bool.eq_false_or_eq_true (bb) with hg12 | hg12
    · rw [hg12]
      first
        | (have hJ := hb1 hg12
           have st := St.start (him _ _ hJ))
        | skip
      refine wl_on rfl rfl ?_
      refine wl_val (v_move' (by conv => (lhs; whnf))) rfl ?_
      refine wl_on rfl rfl ?_
      refine wl_val (v_nil rfl) rfl ?_
      refine wl_on rfl rfl ?_
      refine wl_val (v_fa TF.f97_4 rfl) rfl ?_
      refine wl_on rfl rfl ?_
      refine wl_val (v_load rfl (rdRp hm st)) rfl ?_
      refine wl_on rfl rfl ?_
      refine wl_val (v_move' (by conv => (lhs; whnf))) rfl ?_
      refine wl_on rfl rfl ?_
      refine wl_call rfl (ihb hb hob hwb hJ) rfl ?_
      intro v38 w hR
      refine wl_on rfl rfl ?_
      refine wl_val (v_pick rfl) rfl ?_
      refine wl_val (v_pick rfl) rfl ?_
      refine wl_val (v_assign' (by conv => (lhs; whnf))) rfl ?_
      refine wl_nil ?_
      refine then_go ?_
      refine wc_ret ?_
      refine ret1 rfl ?_
      rw [Tr.n, ← Nat.add_assoc]
      exact hR
    · rw [hg12]
      first
        | (have hJ := hb1 hg12
           have st := St.start (him _ _ hJ))
        | skip
      refine wl_off rfl rfl rfl rfl ?_
      refine wl_off rfl rfl rfl rfl ?_
      refine wl_off rfl rfl rfl rfl ?_
      refine wl_off rfl rfl rfl rfl ?_
      refine wl_off rfl rfl rfl rfl ?_
      refine wl_off rfl rfl rfl rfl ?_
      refine wl_on rfl rfl ?_
      refine wl_val (v_pick rfl) rfl ?_
      refine wl_val (v_pick rfl) rfl ?_
      refine wl_val (v_assign' (by conv => (lhs; whnf))) rfl ?_
      refine wl_nil ?_
      refine then_go ?_
      refine wc_ret ?_
      exact ret1 rfl (.inr ⟨rfl, hb2 hg12⟩)
theorem c_all1 {t : Tr} {p b1 : Nat} {W : World} (him : ∀ i W, J i W → Im m1 W) (hdr : ∀ i W, J i W → J i W.drew)
  (hy : ∀ i W x, items[i]? = some x → J i W → YieldR Try.prog l [arr x.1, arr x.2] W fun v W' => (v = .bool true ∧ J (i + 1) W') ∨ (v = .bool false ∧ Jx W'))
  (h : TreeM m1 p t) (hok : t.ok) (hw : ∀ (k : Nat) (x : By × By), t.walk[k]? = some x → items[k]? = some x) (hJ : J 0 W) (hrd : Reads Try.prog W 25 ⟨b1, 0, none⟩ (ptrP p)) :
  Ret Try.prog 54 #[.func (.yield l) #[] #[], .pointer (some ⟨b1, 0, none⟩)] W fun _ W' => J t.n W' ∨ Jx W' := by
 refine ret_of Try.call54 Try.func54 rfl Try.ntmps54 Try.results54 rfl ?_
 refine wc_region ?_
 refine wl_val (v_load rfl hrd) rfl ?_
 refine wl_val (v_move' (by conv => (lhs; whnf))) rfl ?_
 refine wl_call rfl (c_walk him hdr hy h hok (i := 0) (fun k x hk => by rw [Nat.zero_add]; exact hw k x hk) hJ) rfl ?_
 intro v5 w hR
 refine wl_nil ?_
 refine end0 ?_
 rcases hR with ⟨_, h⟩ | ⟨_, h⟩
 ·rw [Nat.zero_add] at h; exact .inl h
 ·exact .inr h
end
section
variable {m : Mem} {wI : World}
theorem c_all {p : Nat} (him : Im m wI) : Ret Try.prog 32 #[ptrP p] wI fun v w' => ∃ b, v = .func (.func 54) #[] #[.pointer (some ⟨b, 0, none⟩)] ∧ Tch wI w' [] [b] ∧ (K.blk b #[ptrP p] 25).holds w' := by
 have st := St.start him
 refine ret_of Try.call32 Try.func32 rfl Try.ntmps32 Try.results32 rfl ?_
 refine wc_seq ?_
 refine wc_region ?_
 refine wl_box (v := ptrP p) rfl st rfl ?_
 intro b1 w st
 refine wl_val (v_assign' (by conv => (lhs; whnf))) rfl ?_
 refine wl_nil ?_
 refine then_go ?_
 refine wc_seq ?_
 refine wc_region ?_
 refine wl_val (v_mkfunc rfl rfl) rfl ?_
 refine wl_val (v_assign' (by conv => (lhs; whnf))) rfl ?_
 refine wl_nil ?_
 refine then_go ?_
 refine wc_ret ?_
 have hf := (St.finish (Es := []) (l := [_]) st).1
 exact ret1 rfl ⟨b1, rfl, ⟨hf.os, hf.tape, hf.output, hf.size, hf.block, fun k hk => hf.out k (by simpa [joinE, K.blk] using hk)⟩, st.at (i := 0) rfl⟩
end
end Go.Proofs.Ytonlmjpenonabaa

namespace Go.Proofs.Ytonlmjpenonabaa
open Go Go.RowKit K SH PT
def wh : Nat → Nat → List (By × By) → By
 | _, _, [] => [0]
 | _, _, [x] => 1 :: (x.1 ++ x.2)
 | 0, _, _ :: _ :: _ => [2]
 | g + 1, d, x :: y :: l => 2 :: (wh g (d + 1) (halfL (x :: y :: l) d false) ++ wh g (d + 1) (halfL (x :: y :: l) d true))
theorem wh_nil {g d : Nat} : wh g d [] = [0] := by cases g <;> rfl
theorem wh_one {g d : Nat} {x : By × By} : wh g d [x] = 1 :: (x.1 ++ x.2) := by cases g <;> rfl
theorem wh_more {g d : Nat} {L : List (By × By)} (h : 2 ≤ L.length) : wh (g + 1) d L = 2 :: (wh g (d + 1) (halfL L d false) ++ wh g (d + 1) (halfL L d true)) := by
 match L, h with
 | x :: y :: l, _ => rfl
theorem wh_pos {g d : Nat} {L : List (By × By)} : 1 ≤ (wh g d L).length := by
 match L, g with
 | [], g => rw [wh_nil]; decide
 | [x], g => rw [wh_one]; simp
 | x :: y :: l, 0 => exact Nat.le_refl 1
 | x :: y :: l, g + 1 => rw [wh_more (by simp)]; simp
def sideB (p : List By) (w : By) (h : List (By × By)) : By := if h.length < 2 then w else 3 :: sum (p.headD [])
def restB (p : List By) (h : List (By × By)) : List By := if h.length < 2 then [] else p
def sv : Nat → Nat → List (By × By) → List By
 | 0, d, L => [wh 0 d L]
 | g + 1, d, L =>
  if (wh (g + 1) d L).length ≤ 512 then [wh (g + 1) d L]
  else (2 :: (sideB (sv g (d + 1) (halfL L d false)) (wh g (d + 1) (halfL L d false)) (halfL L d false) ++ sideB (sv g (d + 1) (halfL L d true)) (wh g (d + 1) (halfL L d true)) (halfL L d true)))
   :: (restB (sv g (d + 1) (halfL L d false)) (halfL L d false) ++ restB (sv g (d + 1) (halfL L d true)) (halfL L d true))
theorem sv_small {g d : Nat} {L : List (By × By)} (h : (wh g d L).length ≤ 512) : sv g d L = [wh g d L] := by
 cases g with
 | zero => rfl
 | succ g => rw [sv, if_pos h]
theorem sv_big {g d : Nat} {L : List (By × By)} (h : ¬ (wh (g + 1) d L).length ≤ 512) : sv (g + 1) d L =
  (2 :: (sideB (sv g (d + 1) (halfL L d false)) (wh g (d + 1) (halfL L d false)) (halfL L d false) ++ sideB (sv g (d + 1) (halfL L d true)) (wh g (d + 1) (halfL L d true)) (halfL L d true)))
   :: (restB (sv g (d + 1) (halfL L d false)) (halfL L d false) ++ restB (sv g (d + 1) (halfL L d true)) (halfL L d true)) := by rw [sv, if_neg h]
theorem sv_ne {g d : Nat} {L : List (By × By)} : ∃ b l, sv g d L = b :: l := by
 cases g with
 | zero => exact ⟨_, _, rfl⟩
 | succ g =>
  by_cases h : (wh (g + 1) d L).length ≤ 512
  ·exact ⟨_, _, sv_small h⟩
  ·exact ⟨_, _, sv_big h⟩
def pg1 (g d : Nat) (L : List (By × By)) : By := (sv g d L).headD []
theorem up_part {d : Nat} {L : List (By × By)} (hU : Up L) (hD : Dst d L) (hd : d < 256) : L = halfL L d false ++ halfL L d true := by
 induction L with
 | nil => rfl
 | cons x L ih =>
  have hD' : Dst d L := ⟨by have := hD.nodup; simp at this; exact this.2, fun y hy => hD.len y (by simp [hy]), fun y hy z hz => hD.agree y (by simp [hy]) z (by simp [hz])⟩
  have ih := ih (List.pairwise_cons.1 hU).2 hD'
  rw [half_app hd, half_app hd]
  cases hb : bit x.1 d with
  | false => simp only [if_true, if_neg (show ¬ (false = true) by decide), List.nil_append, List.cons_append]; rw [← ih]
  | true =>
   have hall : halfL L d false = [] := by
    rw [List.eq_nil_iff_forall_not_mem]
    intro y hy
    obtain ⟨hy1, hy2⟩ := (mem_half hd).1 hy
    have h1 := (List.pairwise_cons.1 hU).1 y hy1
    have h2 := lt_of_bits (hD.len y (by simp [hy1])) (hD.len x (by simp)) (fun k hk => hD.agree y (by simp [hy1]) x (by simp) k hk) hd hy2 hb
    have h3 := lt_trans h1 h2
    rw [lt_irrefl] at h3
    cases h3
   rw [hall] at ih ⊢
   simp only [if_true, if_neg (show ¬ (true = false) by decide), List.nil_append] at ih ⊢
   rw [← ih]
   rfl
theorem up_half {L : List (By × By)} {d : Int} {b : Bool} (h : Up L) : Up (halfL L d b) := List.Pairwise.sublist List.filter_sublist h
theorem wh_halves {g d : Nat} {L : List (By × By)} (h : 2 ≤ L.length) : (wh (g + 1) d L).length = 1 + (wh g (d + 1) (halfL L d false)).length + (wh g (d + 1) (halfL L d true)).length := by
 rw [wh_more h]; simp; omega
end Go.Proofs.Ytonlmjpenonabaa

namespace Go.Proofs.Ytonlmjpenonabaa
open Go Go.RowKit K SH PT
def prC2 (x : By × By) : List Value := bs x.1 ++ bs x.2
def PrsM (m : Mem) (v : Value) (L : List (By × By)) : Prop := LsM m v prC2 64 L ∧ D32p L
theorem PrsM.mono {m m' : Mem} {v : Value} {L : List (By × By)} (h : PrsM m v L) (hm : ∀ k o, m k = some o → m' k = some o) : PrsM m' v L := ⟨h.1.mono hm, h.2⟩
theorem prC2_a {x : By × By} (h : x.1.length = 32) : getV true 32 (prC2 x).toArray 0 = some (arr x.1) := getV_seg (a := []) (b := bs x.1) (c := bs x.2) (by simp [prC2]) rfl (by rw [length_bs, h])
theorem prC2_v {x : By × By} (h : x.1.length = 32) (h2 : x.2.length = 32) : getV true 32 (prC2 x).toArray 32 = some (arr x.2) := getV_seg (a := bs x.1) (b := bs x.2) (c := []) (by simp [prC2]) (by rw [length_bs, h]) (by rw [length_bs, h2])
theorem takeW_len {α : Type} {p : α → Bool} : ∀ {L : List α} {i : Nat}, (∀ x ∈ L.take i, p x = true) → (∀ h : i < L.length, p L[i] = false) → i ≤ L.length → (L.takeWhile p).length = i
 | [], i, _, _, h3 => by simp at h3; simp [h3]
 | x :: L, 0, _, h2, _ => by
  have := h2 (by simp)
  simp at this
  simp [this]
 | x :: L, i + 1, h1, h2, h3 => by
  have hx := h1 x (by simp)
  have := takeW_len (L := L) (i := i) (fun y hy => h1 y (by simp [hy])) (fun h => h2 (Nat.succ_lt_succ h)) (by simpa using h3)
  simp [hx, this]
structure Parts (d : Nat) (L F T : List (By × By)) : Prop where
 eq : L = F ++ T
 off : ∀ x ∈ F, bitI x.1 d = false
 on : ∀ x ∈ T, bitI x.1 d = true
theorem up_parts {d : Nat} {L : List (By × By)} (hU : Up L) (hD : Dst d L) (hd : d < 256) : Parts d L (halfL L d false) (halfL L d true) :=
 ⟨up_part hU hD hd, fun x hx => by have := (List.mem_filter.1 hx).2; simpa using this, fun x hx => by have := (List.mem_filter.1 hx).2; simpa using this⟩
theorem PrsM.cell {m : Mem} {w : World} {b o cap k i j : Nat} {u : Value} {L : List (By × By)} (h : PrsM m (.slice (some ⟨b, o, none⟩) k cap) L) (hi : i < L.length) (hj : (prC2 L[i])[j]? = some u) (him : Im m w) : w.cell? ((⟨b, o + i * 64 + 0 + 0 * 1, none⟩ : Addr).add j) = some u := by
 obtain ⟨_, a', c', he, _, _, hc⟩ := h.1.row
 cases he
 have hj64 : j < 64 := by
  rcases Nat.lt_or_ge j 64 with h' | h'
  ·exact h'
  ·rw [List.getElem?_eq_none (by rw [h.1.len _ (List.getElem_mem hi)]; exact h')] at hj; cases hj
 have e := cellsAt_flat (size := 64) (fun x hx => h.1.len x hx) hi
 have e2 : (L.flatMap prC2)[i * 64 + j]? = some u := by
  rw [← e] at hj
  simp only [cellsAt] at hj
  rw [List.getElem?_take_of_lt hj64, List.getElem?_drop] at hj
  exact hj
 obtain ⟨b', o', c, t, fr, e3, e4, e5⟩ := hc _ _ e2
 cases e3
 rw [add_at, show o + i * 64 + 0 + 0 * 1 + j = o + (i * 64 + j) by omega]
 rw [cell_of_row w b (o + (i * 64 + j)) c t fr (him _ _ e4)]
 exact e5
theorem PrsM.srcA {P : Program} {m : Mem} {w : World} {b o cap k i : Nat} {L : List (By × By)} (h : PrsM m (.slice (some ⟨b, o, none⟩) k cap) L) (hi : i < L.length) (him : Im m w) : Src P w (.slice (some ⟨b, o + i * 64 + 0 + 0 * 1, none⟩) (32 - 0) (32 - 0)) 1 32 (bs L[i].1) := by
 obtain ⟨hx1, hx2⟩ := h.2 _ (List.getElem_mem hi)
 refine Src.slice (by simp [length_bs, hx1]) (fun j u hj => ?_) (one_bs _)
 have hjl : j < 32 := by
  rcases Nat.lt_or_ge j 32 with h' | h'
  ·exact h'
  ·rw [List.getElem?_eq_none (by rw [length_bs, hx1]; exact h')] at hj; cases hj
 exact h.cell hi (j := j) (by simp only [prC2]; rw [List.getElem?_append_left (by rw [length_bs, hx1]; exact hjl)]; exact hj) him
theorem PrsM.srcV {P : Program} {m : Mem} {w : World} {b o cap k i : Nat} {L : List (By × By)} (h : PrsM m (.slice (some ⟨b, o, none⟩) k cap) L) (hi : i < L.length) (him : Im m w) : Src P w (.slice (some ⟨b, o + i * 64 + 32 + 0 * 1, none⟩) (32 - 0) (32 - 0)) 1 32 (bs L[i].2) := by
 obtain ⟨hx1, hx2⟩ := h.2 _ (List.getElem_mem hi)
 refine Src.slice (by simp [length_bs, hx2]) (fun j u hj => ?_) (one_bs _)
 have := h.cell hi (j := 32 + j) (u := u) (by simp only [prC2]; rw [List.getElem?_append_right (by rw [length_bs, hx1]; omega), length_bs, hx1, Nat.add_sub_cancel_left]; exact hj) him
 rw [add_at] at this ⊢
 rw [show o + i * 64 + 32 + 0 * 1 + j = o + i * 64 + (32 + j) by omega]
 rw [show o + i * 64 + 0 + 0 * 1 + (32 + j) = o + i * 64 + (32 + j) by omega] at this
 exact this
section
variable {m : Mem} {wI : World}
theorem c_part {lv : Value} {L F T : List (By × By)} {d : Nat} (him : Im m wI) (hl : PrsM m lv L) (hp : Parts d L F T) (hL : L.length ≤ 1000000) :
  Ret Try.prog 57 #[lv, .int .i64 d] wI fun v' w' => Tch wI w' [] [] ∧ ∃ v1 v2, v' = .tuple #[v1, v2] ∧ PrsM m v1 F ∧ PrsM m v2 T := by
 have st := St.start him
 obtain ⟨la, lc, rfl⟩ := hl.1.sl
 refine ret_of Try.call57 Try.func57 rfl Try.ntmps57 Try.results57 rfl ?_
 refine wc_seq ?_
 refine wc_region ?_
 refine wl_val (v_assign' (by conv => (lhs; whnf))) rfl ?_
 refine wl_val (v_assign' (by conv => (lhs; whnf))) rfl ?_
 refine wl_nil ?_
 refine then_go ?_
 refine wc_seq ?_
 refine wc_region ?_
 refine wl_val (v_assign' (by conv => (lhs; whnf))) rfl ?_
 refine wl_nil ?_
 refine then_go ?_
 refine wc_seq ?_
 refine wc_block ?_
 refine wc_loop (S := Nat) (fun q r w' => ∃ (i : Nat), q + i = L.length ∧ r 0 = .slice la L.length lc ∧ r 1 = .int .i64 d ∧ r 6 = .int .i64 i ∧ (∀ x ∈ L.take i, bitI x.1 d = false) ∧ St m m [] wI w' []) id L.length ⟨0, by omega, rfl, rfl, rfl, by simp, st⟩ ?_
 rintro q r w2 ⟨i, hqi, g0, g1, g6, hoff, st⟩
 refine wc_o 0 g0 (wc_o 1 g1 (wc_o 6 g6 ?_))
 refine wc_seq ?_
 refine wc_seq ?_
 refine wc_region ?_
 refine wl_val (v_move' (by conv => (lhs; whnf))) rfl ?_
 refine wl_val (v_move' (by conv => (lhs; whnf))) rfl ?_
 refine wl_val (v_len_s Try.underlying67 rfl) rfl ?_
 refine wl_val (v_lss rfl rfl) rfl ?_
 refine wl_val (v_move' (by conv => (lhs; whnf))) rfl ?_
 by_cases hg4 : (i : Int) < (L.length : Int)
 ·rw [show decide ((i : Int) < (L.length : Int)) = true from decide_eq_true hg4]
  refine wl_on rfl rfl ?_
  refine wl_val (v_move' (by conv => (lhs; whnf))) rfl ?_
  have hi : i < L.length := by omega
  obtain ⟨lb, lo, hla⟩ := hl.1.ptr (by omega) (by decide)
  subst hla
  refine wl_on rfl rfl ?_
  refine wl_val (v_move' (by conv => (lhs; whnf))) rfl ?_
  refine wl_on rfl rfl ?_
  refine wl_val (v_ias i Try.underlying67 TF.t72 rfl rfl (by first | rfl | omega) (by first | omega | (dsimp only at *; omega))) rfl ?_
  refine wl_on rfl rfl ?_
  refine wl_val (v_fa TF.f72_0 rfl) rfl ?_
  refine wl_on rfl rfl ?_
  refine wl_val (v_load rfl (hl.1.rd rfl hi (by decide) TF.t28 (v' := arr L[i].1) (prC2_a (hl.2 _ (List.getElem_mem hi)).1) st.im)) rfl ?_
  refine wl_on rfl rfl ?_
  refine wl_val (v_move' (by conv => (lhs; whnf))) rfl ?_
  refine wl_on rfl rfl ?_
  refine wl_call rfl (c_bit st.im (hl.2 _ (List.getElem_mem hi)).1) rfl ?_
  rintro v18 w ⟨t18, rfl⟩
  have st := st.pure t18
  refine wl_on rfl rfl ?_
  refine wl_val (v_not rfl) rfl ?_
  refine wl_val (v_pick rfl) rfl ?_
  refine wl_nil ?_
  refine then_go ?_
  refine wc_cond rfl (fun h20 => ?_) (fun h20 => ?_)
  ·refine wc_skip ?_
   refine then_go ?_
   refine wc_block ?_
   refine wc_region ?_
   refine wl_val (v_move' (by conv => (lhs; whnf))) rfl ?_
   refine wl_val (v_add' (c := ((i + 1 : Nat) : Int)) rfl rfl (by omega) (by omega) (by omega)) rfl ?_
   refine wl_val (v_assign' (by conv => (lhs; whnf))) rfl ?_
   refine wl_nil ?_
   refine block_go (then_go ?_)
   refine ⟨q - 1, by simp; omega, i + 1, by omega, rfl, rfl, rfl, fun x hx => ?_, st⟩
   rw [List.take_succ_eq_append_getElem hi] at hx
   rcases List.mem_append.1 hx with h | h
   ·exact hoff x h
   ·rw [List.mem_singleton.1 h]; simpa using h20
  ·refine wc_exit (then_exit (then_exit (block_hit ?_)))
   refine then_go ?_
   refine wc_seq ?_
   have hiL : i ≤ L.length := by omega
   have hn : i = F.length := by
    have h1 : (L.takeWhile fun x => !bitI x.1 d).length = i := by
     refine takeW_len (fun x hx => by simp [hoff x hx]) (fun h => ?_) hiL
     first
      | (simp at h20; simp [h20]; done)
      | exact absurd h (by omega)
    have h2 : (L.takeWhile fun x => !bitI x.1 d).length = F.length := by
     refine takeW_len (fun x hx => ?_) (fun h => ?_) (by rw [hp.eq]; simp)
     ·rw [hp.eq, List.take_left' rfl] at hx; simp [hp.off x hx]
     ·have e : L[F.length] = (F ++ T)[F.length]'(by rw [← hp.eq]; exact h) := by simp only [hp.eq]
      rw [e, List.getElem_append_right (Nat.le_refl _)]
      simp [hp.on _ (List.getElem_mem _)]
    omega
   have k1 := hl.1.sub 0 i (Nat.zero_le _) hiL (by decide)
   have k2 := hl.1.sub i L.length hiL (Nat.le_refl _) (by decide)
   have e1 : (L.drop 0).take (i - 0) = F := by rw [List.drop_zero, Nat.sub_zero, hp.eq, hn, List.take_left' rfl]
   have e2 : (L.drop i).take (L.length - i) = T := by rw [List.take_of_length_le (by simp), hp.eq, hn, List.drop_left' rfl]
   rw [e1] at k1
   rw [e2] at k2
   have q1 : D32p F := fun x hx => hl.2 x (by rw [hp.eq]; exact List.mem_append.2 (.inl hx))
   have q2 : D32p T := fun x hx => hl.2 x (by rw [hp.eq]; exact List.mem_append.2 (.inr hx))
   have hcap : L.length ≤ lc := by obtain ⟨_, _, _, he, hk, _⟩ := hl.1.row; cases he; exact hk
   refine wc_draw TF.mixed ?_
   have st := st.pure (touch_drew _)
   refine fl_val 0 rfl (fun _ => (v_move' (by conv => (lhs; whnf)))) rfl (by kernel_rfl) ?_
   refine fl_val 1 rfl (fun _ => (v_move' (by conv => (lhs; whnf)))) rfl (by kernel_rfl) ?_
   refine fl_val 2 rfl (fun _ => (v_sls 0 i Try.underlying67 TF.t72 rfl rfl ⟨_, _, rfl, rfl⟩ (Nat.zero_le _) (by omega))) rfl (by kernel_rfl) ?_
   refine fl_val 3 rfl (fun _ => (v_move' (by conv => (lhs; whnf)))) rfl (by kernel_rfl) ?_
   refine fl_val 4 rfl (fun _ => (v_move' (by conv => (lhs; whnf)))) rfl (by kernel_rfl) ?_
   refine fl_val 5 rfl (fun _ => (v_sls i L.length Try.underlying67 TF.t72 rfl ⟨_, _, rfl, rfl⟩ rfl hiL hcap)) rfl (by kernel_rfl) ?_
   refine fl_eff1 6 [5, 4, 3] [] (by kernel_rfl) trivial rfl ?_
   refine wl_val (v_assign' (by conv => (lhs; whnf))) rfl ?_
   refine wl_nil ⟨rfl, ?_⟩
   refine fl_eff1 7 [] [] (by kernel_rfl) trivial rfl ?_
   refine wl_val (v_assign' (by conv => (lhs; whnf))) rfl ?_
   refine wl_nil ⟨rfl, ?_⟩
   refine fl_nil (by kernel_rfl) trivial ?_
   refine then_go ?_
   refine wc_ret ?_
   exact ret2 rfl rfl ⟨st.touch, _, _, rfl, ⟨k1, q1⟩, ⟨k2, q2⟩⟩
 ·rw [show decide ((i : Int) < (L.length : Int)) = false from decide_eq_false hg4]
  refine wl_off rfl rfl rfl rfl ?_
  refine wl_off rfl rfl rfl rfl ?_
  refine wl_off rfl rfl rfl rfl ?_
  refine wl_off rfl rfl rfl rfl ?_
  refine wl_off rfl rfl rfl rfl ?_
  refine wl_off rfl rfl rfl rfl ?_
  refine wl_off rfl rfl rfl rfl ?_
  refine wl_off rfl rfl rfl rfl ?_
  refine wl_val (v_pick rfl) rfl ?_
  refine wl_nil ?_
  refine then_go ?_
  refine wc_false rfl ?_
  refine wc_exit (then_exit (then_exit (block_hit ?_)))
  refine then_go ?_
  refine wc_seq ?_
  have hiL : i ≤ L.length := by omega
  have hn : i = F.length := by
   have h1 : (L.takeWhile fun x => !bitI x.1 d).length = i := by
    refine takeW_len (fun x hx => by simp [hoff x hx]) (fun h => ?_) hiL
    first
     | (simp at h20; simp [h20]; done)
     | exact absurd h (by omega)
   have h2 : (L.takeWhile fun x => !bitI x.1 d).length = F.length := by
    refine takeW_len (fun x hx => ?_) (fun h => ?_) (by rw [hp.eq]; simp)
    ·rw [hp.eq, List.take_left' rfl] at hx; simp [hp.off x hx]
    ·have e : L[F.length] = (F ++ T)[F.length]'(by rw [← hp.eq]; exact h) := by simp only [hp.eq]
     rw [e, List.getElem_append_right (Nat.le_refl _)]
     simp [hp.on _ (List.getElem_mem _)]
   omega
  have k1 := hl.1.sub 0 i (Nat.zero_le _) hiL (by decide)
  have k2 := hl.1.sub i L.length hiL (Nat.le_refl _) (by decide)
  have e1 : (L.drop 0).take (i - 0) = F := by rw [List.drop_zero, Nat.sub_zero, hp.eq, hn, List.take_left' rfl]
  have e2 : (L.drop i).take (L.length - i) = T := by rw [List.take_of_length_le (by simp), hp.eq, hn, List.drop_left' rfl]
  rw [e1] at k1
  rw [e2] at k2
  have q1 : D32p F := fun x hx => hl.2 x (by rw [hp.eq]; exact List.mem_append.2 (.inl hx))
  have q2 : D32p T := fun x hx => hl.2 x (by rw [hp.eq]; exact List.mem_append.2 (.inr hx))
  have hcap : L.length ≤ lc := by obtain ⟨_, _, _, he, hk, _⟩ := hl.1.row; cases he; exact hk
  refine wc_draw TF.mixed ?_
  have st := st.pure (touch_drew _)
  refine fl_val 0 rfl (fun _ => (v_move' (by conv => (lhs; whnf)))) rfl (by kernel_rfl) ?_
  refine fl_val 1 rfl (fun _ => (v_move' (by conv => (lhs; whnf)))) rfl (by kernel_rfl) ?_
  refine fl_val 2 rfl (fun _ => (v_sls 0 i Try.underlying67 TF.t72 rfl rfl ⟨_, _, rfl, rfl⟩ (Nat.zero_le _) (by omega))) rfl (by kernel_rfl) ?_
  refine fl_val 3 rfl (fun _ => (v_move' (by conv => (lhs; whnf)))) rfl (by kernel_rfl) ?_
  refine fl_val 4 rfl (fun _ => (v_move' (by conv => (lhs; whnf)))) rfl (by kernel_rfl) ?_
  refine fl_val 5 rfl (fun _ => (v_sls i L.length Try.underlying67 TF.t72 rfl ⟨_, _, rfl, rfl⟩ rfl hiL hcap)) rfl (by kernel_rfl) ?_
  refine fl_eff1 6 [5, 4, 3] [] (by kernel_rfl) trivial rfl ?_
  refine wl_val (v_assign' (by conv => (lhs; whnf))) rfl ?_
  refine wl_nil ⟨rfl, ?_⟩
  refine fl_eff1 7 [] [] (by kernel_rfl) trivial rfl ?_
  refine wl_val (v_assign' (by conv => (lhs; whnf))) rfl ?_
  refine wl_nil ⟨rfl, ?_⟩
  refine fl_nil (by kernel_rfl) trivial ?_
  refine then_go ?_
  refine wc_ret ?_
  exact ret2 rfl rfl ⟨st.touch, _, _, rfl, ⟨k1, q1⟩, ⟨k2, q2⟩⟩
def InlM (m : Mem) (v : Value) (b : By) : Prop := (b.length ≤ 512 → SlM m v 1 b.length (bs b)) ∧ (¬ b.length ≤ 512 → v = .slice none 0 0)
theorem InlM.mono {m m' : Mem} {v : Value} {b : By} (h : InlM m v b) (hm : ∀ k o, m k = some o → m' k = some o) : InlM m' v b := ⟨fun hb => (h.1 hb).mono hm, h.2⟩
theorem InlM.nil {m : Mem} {a : Option Addr} {k c : Nat} {b : By} (h : InlM m (.slice a k c) b) (hb : 1 ≤ b.length) : (a.isNone = true ↔ ¬ b.length ≤ 512) ∧ (b.length ≤ 512 → k = b.length) := by
 by_cases h1 : b.length ≤ 512
 ·obtain ⟨_, a', c', he, hk, hn, _⟩ := h.1 h1
  cases he
  refine ⟨⟨fun h2 => ?_, fun h2 => absurd h1 h2⟩, fun _ => rfl⟩
  have := hn (by simpa using h2)
  omega
 ·have := h.2 h1
  cases this
  exact ⟨⟨fun _ => h1, fun _ => rfl⟩, fun h2 => absurd h2 h1⟩
theorem c_inl {d : Nat} {L F T : List (By × By)} {lv : Value} {a b B : By} (him : Im m wI) (hl : PrsM m lv L) (hL : L.length ≤ 1000000) (hd : d ≤ 1000000) (hp : 2 ≤ L.length → Parts d L F T) (hB0 : L = [] → B = [0]) (hB1 : ∀ x, L = [x] → B = 1 :: (x.1 ++ x.2)) (hB2 : 2 ≤ L.length → B = 2 :: (a ++ b)) (ha : 1 ≤ a.length) (hb : 1 ≤ b.length)
  (ihF : 2 ≤ L.length → ∀ {m : Mem} {w : World} {v : Value}, Im m w → PrsM m v F → Ret Try.prog 56 #[v, .int .i64 ((d + 1 : Nat) : Int)] w fun v' w' => Out m w w' fun m' => InlM m' v' a)
  (ihT : 2 ≤ L.length → ∀ {m : Mem} {w : World} {v : Value}, Im m w → PrsM m v T → Ret Try.prog 56 #[v, .int .i64 ((d + 1 : Nat) : Int)] w fun v' w' => Out m w w' fun m' => InlM m' v' b) :
  Ret Try.prog 56 #[lv, .int .i64 d] wI fun v' w' => Out m wI w' fun m' => InlM m' v' B := by
 have st := St.start him
 obtain ⟨la, lc, rfl⟩ := hl.1.sl
 refine ret_of Try.call56 Try.func56 rfl Try.ntmps56 Try.results56 rfl ?_
 refine wc_seq ?_
 refine wc_region ?_
 refine wl_val (v_assign' (by conv => (lhs; whnf))) rfl ?_
 refine wl_nil ?_
 refine then_go ?_
 refine wc_seq ?_
 refine wc_seq ?_
 refine wc_region ?_
 refine wl_val (v_move' (by conv => (lhs; whnf))) rfl ?_
 refine wl_val (v_len_s Try.underlying67 rfl) rfl ?_
 refine wl_nil ?_
 refine then_go ?_
 refine wc_block ?_
 refine wc_seq ?_
 refine wc_region ?_
 refine wl_val (v_eql rfl rfl) rfl ?_
 refine wl_val (v_assign' (by conv => (lhs; whnf))) rfl ?_
 refine wl_nil ?_
 refine then_go ?_
 refine wc_if rfl (fun h11 => ?_) (fun h11 => ?_)
 ·refine wc_seq ?_
  refine wc_region ?_
  refine wl_byteR 0 Try.underlying37 TF.t5 TF.z5 rfl st rfl ?_
  intro b13 w st
  refine wl_val (v_assign' (by conv => (lhs; whnf))) rfl ?_
  refine wl_nil ?_
  refine then_go ?_
  refine wc_ret (block_ret (then_ret ?_))
  rw [hB0 (List.eq_nil_of_length_eq_zero (by omega))]
  obtain ⟨t1, m1, g1, i1, s1⟩ := st.bytesOut
  exact ret1 rfl ⟨t1, m1, g1, i1, fun _ => s1, fun h => absurd (by decide) h⟩
 ·refine wc_seq ?_
  refine wc_region ?_
  refine wl_val (v_eql rfl rfl) rfl ?_
  refine wl_val (v_assign' (by conv => (lhs; whnf))) rfl ?_
  refine wl_nil ?_
  refine then_go ?_
  refine wc_if rfl (fun h14 => ?_) (fun h14 => ?_)
  ·refine wc_seq ?_
   have h0 : 0 < L.length := by omega
   obtain ⟨lb, lo, hla⟩ := hl.1.ptr h0 (by decide)
   subst hla
   obtain ⟨hx1, hx2⟩ := hl.2 _ (List.getElem_mem h0)
   have hLx : L = [L[0]] := by
    match L, h0, h14 with
    | [x], _, _ => rfl
    | x :: y :: l, _, h => simp at h; omega
   obtain ⟨eb, eo, ecap, hev, hek, herd⟩ := hl.1.row.elem Try.prog (i := 0) h0 (by decide)
   simp only [Value.slice.injEq, Option.some.injEq, Addr.mk.injEq] at hev
   refine wc_draw TF.mixed ?_
   have st := st.pure (touch_drew _)
   refine fl_val 1 rfl (fun _ => (v_move' (by conv => (lhs; whnf)))) rfl (by kernel_rfl) ?_
   refine fl_val 2 rfl (fun _ => (v_ias 0 Try.underlying67 TF.t72 rfl rfl (by first | rfl | omega) (by first | omega | (dsimp only at *; omega)))) rfl (by kernel_rfl) ?_
   refine fl_val 3 rfl (fun _ => (v_fa TF.f72_0 rfl)) rfl (by kernel_rfl) ?_
   refine fl_val 4 rfl (fun _ => (v_sla 0 32 Try.underlying28 TF.t5 rfl rfl rfl (by omega) (by omega) (by omega))) rfl (by kernel_rfl) ?_
   refine fl_val 6 rfl (fun _ => (v_move' (by conv => (lhs; whnf)))) rfl (by kernel_rfl) ?_
   refine fl_val 7 rfl (fun _ => (v_ias 0 Try.underlying67 TF.t72 rfl rfl (by first | rfl | omega) (by first | omega | (dsimp only at *; omega)))) rfl (by kernel_rfl) ?_
   refine fl_val 8 rfl (fun _ => (v_fa TF.f72_1 rfl)) rfl (by kernel_rfl) ?_
   refine fl_val 9 rfl (fun _ => (v_sla 0 32 Try.underlying28 TF.t5 rfl rfl rfl (by omega) (by omega) (by omega))) rfl (by kernel_rfl) ?_
   refine fl_eff1 0 [9, 8, 7, 6, 4, 3, 2, 1] [] (by kernel_rfl) trivial rfl ?_
   refine wl_byteR 1 Try.underlying37 TF.t5 TF.z5 rfl st rfl ?_
   intro b16 w st
   refine wl_nil ⟨rfl, ?_⟩
   refine fl_eff1 5 [9, 8, 7, 6, 3, 2, 1] [] (by kernel_rfl) trivial rfl ?_
   refine wl_appB (l2 := L[0].1) st Try.underlying37 Try.underlying37 (.inr ⟨_, rfl⟩) TF.t5 TF.z5 rfl rfl (hl.srcA h0 st.im) (by simp [hx1]) (by simp [hx1]) rfl ?_
   intro v21 w st hv21
   refine wl_nil ⟨rfl, ?_⟩
   refine fl_eff1 10 [8, 7, 6, 3, 2, 1] [] (by kernel_rfl) trivial rfl ?_
   refine wl_appB (l2 := L[0].2) st Try.underlying37 Try.underlying37 (.inr ⟨_, rfl⟩) TF.t5 TF.z5 rfl rfl (hl.srcV h0 st.im) (by simp [hx1, hx2]) (by simp [hx1, hx2]) rfl ?_
   intro v26 w st hv26
   refine wl_nil ⟨rfl, ?_⟩
   refine fl_eff1 11 [] [] (by kernel_rfl) trivial rfl ?_
   refine wl_val (v_assign' (by conv => (lhs; whnf))) rfl ?_
   refine wl_nil ⟨rfl, ?_⟩
   refine fl_nil (by kernel_rfl) trivial ?_
   refine then_go ?_
   refine wc_ret (block_ret (then_ret ?_))
   rw [hB1 _ hLx]
   obtain ⟨t1, m1, g1, i1, s1⟩ := st.bytesOut
   have e : ([1] : By) ++ L[0].1 ++ L[0].2 = (1 :: (L[0].1 ++ L[0].2) : By) := by simp
   rw [e] at s1
   exact ret1 rfl ⟨t1, m1, g1, i1, fun _ => s1, fun h => absurd (by simp [hx1, hx2]) h⟩
  ·refine wc_skip ?_
   refine block_go (then_go ?_)
   refine wc_seq ?_
   have h2 : 2 ≤ L.length := by omega
   refine wc_region ?_
   refine wl_val (v_move' (by conv => (lhs; whnf))) rfl ?_
   refine wl_val (v_move' (by conv => (lhs; whnf))) rfl ?_
   refine wl_call rfl (c_part st.im hl (hp h2) hL) rfl ?_
   rintro v30 w ⟨t30, v1, v2, rfl, hf, ht⟩
   have st := st.pure t30
   refine wl_val (v_move' (by conv => (lhs; whnf))) rfl ?_
   refine wl_val (v_extract rfl rfl) rfl ?_
   refine wl_val (v_extract rfl rfl) rfl ?_
   refine wl_val (v_assign' (by conv => (lhs; whnf))) rfl ?_
   refine wl_val (v_assign' (by conv => (lhs; whnf))) rfl ?_
   refine wl_nil ?_
   refine then_go ?_
   refine wc_seq ?_
   refine wc_region ?_
   refine wl_val (v_move' (by conv => (lhs; whnf))) rfl ?_
   refine wl_val (v_move' (by conv => (lhs; whnf))) rfl ?_
   refine wl_val (v_add' (c := ((d + 1 : Nat) : Int)) rfl rfl (by omega) (by omega) (by omega)) rfl ?_
   refine wl_call rfl (ihF h2 st.im hf) rfl ?_
   rintro v36 w ⟨t36, mm36, gr36, im36, ha1⟩
   have st := st.grown gr36 t36 im36
   have ht := ht.mono gr36.le
   refine wl_val (v_move' (by conv => (lhs; whnf))) rfl ?_
   refine wl_val (v_move' (by conv => (lhs; whnf))) rfl ?_
   refine wl_val (v_add' (c := ((d + 1 : Nat) : Int)) rfl rfl (by omega) (by omega) (by omega)) rfl ?_
   refine wl_call rfl (ihT h2 st.im ht) rfl ?_
   rintro v40 w ⟨t40, mm40, gr40, im40, hb1⟩
   have st := st.grown gr40 t40 im40
   have ht := ht.mono gr40.le
   have ha1 := ha1.mono gr40.le
   have hs1 : ∃ a1 k1 c1, v36 = .slice a1 k1 c1 := by
    by_cases hq : a.length ≤ 512
    ·obtain ⟨_, a', c', he, _⟩ := ha1.1 hq; exact ⟨_, _, _, he⟩
    ·exact ⟨_, _, _, ha1.2 hq⟩
   have hs2 : ∃ a1 k1 c1, v40 = .slice a1 k1 c1 := by
    by_cases hq : b.length ≤ 512
    ·obtain ⟨_, a', c', he, _⟩ := hb1.1 hq; exact ⟨_, _, _, he⟩
    ·exact ⟨_, _, _, hb1.2 hq⟩
   obtain ⟨xa, xk, xc, rfl⟩ := hs1
   obtain ⟨ya, yk, yc, rfl⟩ := hs2
   obtain ⟨nx, lx⟩ := ha1.nil ha
   obtain ⟨ny, ly⟩ := hb1.nil hb
   have bnd : (xa.isNone || ya.isNone) = false → xk = a.length ∧ yk = b.length ∧ a.length ≤ 512 ∧ b.length ≤ 512 := fun e => by
    simp only [Bool.or_eq_false_iff] at e
    have e1 : a.length ≤ 512 := Decidable.byContradiction fun hc => by have := nx.2 hc; rw [e.1] at this; cases this
    have e2 : b.length ≤ 512 := Decidable.byContradiction fun hc => by have := ny.2 hc; rw [e.2] at this; cases this
    exact ⟨lx e1, ly e2, e1, e2⟩
   refine wl_val (v_assign' (by conv => (lhs; whnf))) rfl ?_
   refine wl_val (v_assign' (by conv => (lhs; whnf))) rfl ?_
   refine wl_nil ?_
   refine then_go ?_
   refine wc_seq ?_
   refine wc_seq ?_
   refine wc_region ?_
   refine wl_val (v_move' (by conv => (lhs; whnf))) rfl ?_
   refine wl_val (v_eq_nilS Try.underlying37 rfl rfl) rfl ?_
   refine wl_val (v_move' (by conv => (lhs; whnf))) rfl ?_
   refine wl_valg rfl rfl (fun e => (v_move' (by conv => (lhs; whnf)))) rfl ?_
   refine wl_valg rfl rfl (fun e => (v_eq_nilS Try.underlying37 (by first | rfl | exact gx e rfl) (by first | rfl | exact gx e rfl))) rfl ?_
   refine wl_val (v_pickO rfl rfl rfl) rfl ?_
   refine wl_val (v_move' (by conv => (lhs; whnf))) rfl ?_
   refine wl_valg rfl rfl (fun e => (v_move' (by conv => (lhs; whnf)))) rfl ?_
   refine wl_valg rfl rfl (fun e => (v_len_s Try.underlying37 (by first | rfl | exact gx e rfl))) rfl ?_
   refine wl_valg rfl rfl (fun e => (v_add' (c := ((1 + xk : Nat) : Int)) (by first | rfl | exact gx e rfl) (by first | rfl | exact gx e rfl) (by omega) (by omega) (by have := bnd e; omega))) rfl ?_
   refine wl_valg rfl rfl (fun e => (v_move' (by conv => (lhs; whnf)))) rfl ?_
   refine wl_valg rfl rfl (fun e => (v_len_s Try.underlying37 (by first | rfl | exact gx e rfl))) rfl ?_
   refine wl_valg rfl rfl (fun e => (v_add' (c := ((1 + xk + yk : Nat) : Int)) (by first | rfl | exact gx e rfl) (by first | rfl | exact gx e rfl) (by omega) (by omega) (by have := bnd e; omega))) rfl ?_
   refine wl_valg rfl rfl (fun e => (v_gtr (by first | rfl | exact gx e rfl) (by first | rfl | exact gx e rfl))) rfl ?_
   refine wl_val (v_pickO rfl rfl rfl) rfl ?_
   refine wl_nil ?_
   refine then_go ?_
   refine wc_cond rfl (fun h55 => ?_) (fun h55 => ?_)
   ·refine wc_seq ?_
    refine wc_region ?_
    refine wl_val (v_assign' (by conv => (lhs; whnf))) rfl ?_
    refine wl_nil ?_
    refine then_go ?_
    refine wc_ret (then_ret ?_)
    rw [hB2 h2]
    refine ret1 rfl ((st.keepOnly (l := []) (List.nil_sublist _)).out ⟨fun h => ?_, fun _ => rfl⟩)
    rw [List.length_cons, List.length_append] at h
    exfalso
    cases hq : (xa.isNone || ya.isNone) with
    | true =>
     simp only [Bool.or_eq_true] at hq
     rcases hq with hq | hq
     ·have := nx.1 hq; omega
     ·have := ny.1 hq; omega
    | false =>
     rw [hq] at h55
     have := bnd hq
     simp at h55
     omega
   ·refine wc_skip ?_
    refine then_go ?_
    refine wc_seq ?_
    have hq : (xa.isNone || ya.isNone) = false := by
     simp only [Bool.or_eq_false_iff] at h55 ⊢
     exact h55.1
    obtain ⟨rfl, rfl, sa5, sb5⟩ := bnd hq
    have hsx := ha1.1 sa5
    have hsy := hb1.1 sb5
    have h512 : 1 + a.length + b.length ≤ 512 := by
     simp only [Bool.or_eq_false_iff, decide_eq_false_iff_not] at h55
     omega
    refine wc_region ?_
    refine wl_byteR 2 Try.underlying37 TF.t5 TF.z5 rfl st rfl ?_
    intro b56 w st
    refine wl_val (v_move' (by conv => (lhs; whnf))) rfl ?_
    refine wl_appB (l2 := a) st Try.underlying37 Try.underlying37 (.inr ⟨_, rfl⟩) TF.t5 TF.z5 rfl rfl (hsx.src st.im (one_bs _)) (by simp; omega) (by simp; omega) rfl ?_
    intro v58 w st hv58
    refine wl_val (v_move' (by conv => (lhs; whnf))) rfl ?_
    refine wl_appB (l2 := b) st Try.underlying37 Try.underlying37 (.inr ⟨_, rfl⟩) TF.t5 TF.z5 rfl rfl (hsy.src st.im (one_bs _)) (by simp; omega) (by simp; omega) rfl ?_
    intro v60 w st hv60
    refine wl_val (v_assign' (by conv => (lhs; whnf))) rfl ?_
    refine wl_nil ?_
    refine then_go ?_
    refine wc_ret ?_
    rw [hB2 h2]
    obtain ⟨t1, m1, g1, i1, s1⟩ := st.bytesOut
    have e : ([2] : By) ++ a ++ b = 2 :: (a ++ b) := by simp
    rw [e] at s1
    exact ret1 rfl ⟨t1, m1, g1, i1, fun _ => s1, fun h => absurd (by rw [List.length_cons, List.length_append]; omega) h⟩
theorem c_inline : ∀ {g d : Nat} {L : List (By × By)} {lv : Value} {m : Mem} {wI : World}, Im m wI → PrsM m lv L → Dst d L → Up L → g + d = 256 → L.length ≤ 1000000 →
  Ret Try.prog 56 #[lv, .int .i64 d] wI fun v' w' => Out m wI w' fun m' => InlM m' v' (wh g d L) := by
 intro g
 induction g with
 | zero =>
  intro d L lv m wI him hl hD hU hgd hL
  have hLs : L.length < 2 := by
   match L, hD with
   | [], _ => simp
   | [x], _ => simp
   | x :: y :: l, hD => rw [show d = 256 by omega] at hD; exact hD.two.elim
  exact c_inl (F := []) (T := []) (a := [0]) (b := [0]) him hl hL (by omega) (fun h => by omega) (fun h => by rw [h, wh_nil]) (fun x h => by rw [h, wh_one]) (fun h => by omega) (by decide) (by decide) (fun h => by omega) (fun h => by omega)
 | succ g ih =>
  intro d L lv m wI him hl hD hU hgd hL
  exact c_inl (F := halfL L d false) (T := halfL L d true) (a := wh g (d + 1) (halfL L d false)) (b := wh g (d + 1) (halfL L d true)) him hl hL (by omega) (fun h => up_parts hU hD (by omega)) (fun h => by rw [h, wh_nil]) (fun x h => by rw [h, wh_one]) (fun h => wh_more h) wh_pos wh_pos
   (fun _ _ _ _ him' hf => ih him' hf (hD.half (by omega) false) (up_half hU) (by omega) (Nat.le_trans (List.length_filter_le ..) hL))
   (fun _ _ _ _ him' hf => ih him' hf (hD.half (by omega) true) (up_half hU) (by omega) (Nat.le_trans (List.length_filter_le ..) hL))
end
end Go.Proofs.Ytonlmjpenonabaa

namespace Go.Proofs.Ytonlmjpenonabaa
open Go Go.RowKit K SH PT
def PgsOk (m : Mem) (P : List (By × Value)) : Prop := ∀ x ∈ P, SlM m x.2 1 x.1.length (bs x.1)
theorem PgsOk.mono {m m' : Mem} {P : List (By × Value)} (h : PgsOk m P) (hm : ∀ k o, m k = some o → m' k = some o) : PgsOk m' P := fun x hx => (h x hx).mono hm
def wrL (wb : Nat) (lv : Value) (P : List (By × Value)) : List Ent := [K.blk wb #[lv] 75, rowE lv 37 1 P.length (P.map (·.2))]
theorem sv_len : ∀ {g d : Nat} {L : List (By × By)}, (sv g d L).length ≤ 1 + g * L.length
 | 0, d, L => by simp [sv]
 | g + 1, d, L => by
  by_cases h : (wh (g + 1) d L).length ≤ 512
  ·rw [sv_small h]; simp
  ·rw [sv_big h]
   have h1 := sv_len (g := g) (d := d + 1) (L := halfL L d false)
   have h2 := sv_len (g := g) (d := d + 1) (L := halfL L d true)
   have h3 : (halfL L d false).length + (halfL L d true).length = L.length := by
    have q0 : halfL L d false = L.filter fun x => !bitI x.1 d := List.filter_congr fun x _ => by cases bitI x.1 d <;> rfl
    have q1 : halfL L d true = L.filter fun x => bitI x.1 d := List.filter_congr fun x _ => by cases bitI x.1 d <;> rfl
    rw [q0, q1]
    exact length_split (fun x : By × By => bitI x.1 d) L
   have e1 : ∀ (p : List By) (q : List (By × By)), p.length ≤ 1 + g * q.length → (restB p q).length ≤ g * q.length + (if q.length < 2 then 0 else 1) := by
    intro p q hq
    unfold restB
    split <;> (try simp only [List.length_nil]) <;> omega
   have k1 := e1 _ _ h1
   have k2 := e1 _ _ h2
   have e2 : g * (halfL L d false).length + g * (halfL L d true).length = g * L.length := by rw [← Nat.mul_add, h3]
   rw [List.length_cons, List.length_append, Nat.succ_mul]
   split at k1 <;> split at k2 <;> omega
theorem wh_lt2 {g d : Nat} {L : List (By × By)} (h : L.length < 2) (hL : D32p L) : (wh g d L).length ≤ 65 := by
 match L, h with
 | [], _ => rw [wh_nil]; decide
 | [x], _ =>
  rw [wh_one]
  have := hL x (by simp)
  simp [this.1, this.2]
theorem sideB_len {g d : Nat} {L : List (By × By)} (hL : D32p L) : (sideB (sv g d L) (wh g d L) L).length ≤ 65 := by
 unfold sideB
 split
 ·exact wh_lt2 ‹_› hL
 ·simp [length_sum]
theorem sv_eq {g d : Nat} {L : List (By × By)} : sv g d L = pg1 g d L :: (sv g d L).tail := by
 obtain ⟨b, l, h⟩ := sv_ne (g := g) (d := d) (L := L)
 unfold pg1
 rw [h]
 rfl
theorem D32p.half {L : List (By × By)} {d : Int} {b : Bool} (h : D32p L) : D32p (halfL L d b) := fun x hx => h x (List.mem_filter.1 hx).1
theorem pg1_len {g d : Nat} {L : List (By × By)} (hL : D32p L) : (pg1 g d L).length ≤ 512 := by
 unfold pg1
 by_cases h : (wh g d L).length ≤ 512
 ·rw [sv_small h]; exact h
 ·cases g with
  | zero =>
   exfalso
   apply h
   match L with
   | [] => rw [wh_nil]; decide
   | [x] => rw [wh_one]; have := hL x (by simp); simp [this.1, this.2]
   | x :: y :: l => exact (by decide : 1 ≤ 512)
  | succ g =>
   rw [sv_big h]
   have h1 := sideB_len (g := g) (d := d + 1) (hL.half (d := d) (b := false))
   have h2 := sideB_len (g := g) (d := d + 1) (hL.half (d := d) (b := true))
   simp only [List.headD_cons, List.length_cons, List.length_append]
   omega
theorem take_set {A B : List Value} {sp : List Value} {x y : Value} {n : Nat} (h : n = A.length) : (((A ++ [y] ++ B) ++ sp).toArray.setIfInBounds n x).toList.take (A ++ [x] ++ B).length = A ++ [x] ++ B := by
 subst h
 have : ((A ++ [y] ++ B) ++ sp).set A.length x = (A ++ [x] ++ B) ++ sp := by simp
 rw [Array.toList_setIfInBounds, List.toList_toArray, this, List.take_left' rfl]
def PgOut (m : Mem) (w w' : World) (foot : List Nat) (wb : Nat) (P : List (By × Value)) (S : List By) (X : Mem → Prop) : Prop :=
 OutE m w w' foot fun m' E' => ∃ lv' N, E' = joinE (wrL wb lv' (P ++ N)) ∧ N.map (·.1) = S ∧ PgsOk m' N ∧ X m'
def PageC (g : Nat) : Prop := ∀ {d : Nat} {L : List (By × By)} {lv hv : Value} {P : List (By × Value)} {wb : Nat} {m : Mem} {w : World}, Im m w → (joinE (wrL wb lv P)).holds w → (∀ k ∈ (joinE (wrL wb lv P)).foot, m k = none) → PrsM m hv L → Dst d L → Up L → g + d = 256 → L.length ≤ 1000000 → P.length + (sv g d L).length ≤ 1000000000 →
 Ret Try.prog 33 #[.pointer (some ⟨wb, 0, none⟩), hv, .int .i64 d] w fun v' w' => PgOut m w w' (joinE (wrL wb lv P)).foot wb P (sv g d L) fun _ => v' = arr (sum (pg1 g d L))
section
variable {m : Mem} {wI : World}
theorem c_side {g d : Nat} {h : List (By × By)} {lv hv : Value} {P : List (By × Value)} {wb : Nat} (hp : PageC g) (him : Im m wI) (hE : (joinE (wrL wb lv P)).holds wI) (hm : ∀ k ∈ (joinE (wrL wb lv P)).foot, m k = none) (hl : PrsM m hv h) (hD : Dst d h) (hU : Up h) (hgd : g + d = 256) (hL : h.length ≤ 1000000) (hPl : P.length + (restB (sv g d h) h).length ≤ 1000000000) :
  Ret Try.prog 58 #[.pointer (some ⟨wb, 0, none⟩), hv, .int .i64 d] wI fun v' w' => PgOut m wI w' (joinE (wrL wb lv P)).foot wb P (restB (sv g d h) h) fun m' => SlM m' v' 1 (sideB (sv g d h) (wh g d h) h).length (bs (sideB (sv g d h) (wh g d h) h)) := by
 have st := St.begin him hE hm
 have hF := (joinE (wrL wb lv P)).live hE
 obtain ⟨ha, hc, rfl⟩ := hl.1.sl
 refine ret_of Try.call58 Try.func58 rfl Try.ntmps58 Try.results58 rfl ?_
 refine wc_seq ?_
 refine wc_region ?_
 refine wl_val (v_assign' (by conv => (lhs; whnf))) rfl ?_
 refine wl_nil ?_
 refine then_go ?_
 refine wc_seq ?_
 refine wc_seq ?_
 refine wc_region ?_
 refine wl_val (v_move' (by conv => (lhs; whnf))) rfl ?_
 refine wl_val (v_len_s Try.underlying67 rfl) rfl ?_
 refine wl_val (v_lss rfl rfl) rfl ?_
 refine wl_nil ?_
 refine then_go ?_
 refine wc_if rfl (fun h10 => ?_) (fun h10 => ?_)
 ·refine wc_seq ?_
  refine wc_region ?_
  refine wl_val (v_move' (by conv => (lhs; whnf))) rfl ?_
  refine wl_val (v_move' (by conv => (lhs; whnf))) rfl ?_
  refine wl_call rfl (c_inline (g := g) st.im hl hD hU hgd hL) rfl ?_
  rintro v13 w ⟨t13, mm13, gr13, im13, hin⟩
  have st := st.grown gr13 t13 im13
  refine wl_val (v_assign' (by conv => (lhs; whnf))) rfl ?_
  refine wl_nil ?_
  refine then_go ?_
  refine wc_ret (then_ret ?_)
  have h2 : h.length < 2 := by omega
  have hs := hin.1 (Nat.le_trans (wh_lt2 h2 hl.2) (by decide))
  refine ret1 rfl (K.St.outE (l := wrL wb lv P) (Es := []) st ⟨lv, [], by rw [List.append_nil], by rw [restB, if_pos h2]; rfl, (fun x hx => by cases hx), ?_⟩)
  rw [sideB, if_pos h2]
  exact hs
 ·refine wc_skip ?_
  refine then_go ?_
  refine wc_seq ?_
  have h2 : ¬ h.length < 2 := by omega
  have st := K.St.joinLast (pre := []) (l := wrL wb lv P) st
  refine wc_region ?_
  refine wl_val (v_move' (by conv => (lhs; whnf))) rfl ?_
  refine wl_val (v_move' (by conv => (lhs; whnf))) rfl ?_
  refine wl_val (v_move' (by conv => (lhs; whnf))) rfl ?_
  refine wl_call rfl (hp st.im (st.at (i := 0) rfl) (st.none (i := 0) rfl) hl hD hU hgd hL (by rw [restB, if_neg h2] at hPl; exact hPl)) rfl ?_
  rintro v17 w ⟨m1, E1, t17, hE1, hg1, im1, hn1, lv1, N, rfl, hN, hok, rfl⟩
  have st := st.callE 0 rfl t17 hE1 hg1 im1 hn1
  have st := K.St.splitLast (pre := []) (l := wrL wb lv1 (P ++ N)) st
  refine wl_alloc TF.z28 st rfl ?_
  intro b7 w st
  refine wl_storeW 0 st rfl TF.t28 rfl rfl (by rw [List.size_toArray, length_bs, length_sum]) rfl (one_bs _) ?_
  intro w st
  refine wl_nil ?_
  refine then_go ?_
  refine wc_seq ?_
  refine wc_region ?_
  refine wl_byteN 3 Try.underlying37 TF.t5 TF.z5 rfl st rfl ?_
  intro b18 w hN18 st
  refine wl_val (v_sla 0 32 Try.underlying28 TF.t5 rfl rfl rfl (by omega) (by omega) (by omega)) rfl ?_
  refine wl_appBN 0 (l2 := sum (pg1 g d h)) st rfl hN18 Try.underlying37 Try.underlying37 (.inr ⟨_, rfl⟩) TF.t5 TF.z5 rfl rfl (st.srcArr (off := 0) 1 rfl (by rw [length_bs, length_sum]) (fun j u hj => by simpa using hj) (one_bs _)) (by simp [length_sum]) (by simp [length_sum]) rfl ?_
  intro v20 w hN20 st hv20
  obtain ⟨m2, hg2, hs2, st⟩ := st.keepN (i := 0) rfl hF hN20
  have hok := hok.mono hg2.le
  refine wl_val (v_assign' (by conv => (lhs; whnf))) rfl ?_
  refine wl_nil ?_
  refine then_go ?_
  refine wc_ret ?_
  refine ret1 rfl (K.St.outE (l := wrL wb lv1 (P ++ N)) (Es := []) (st.drop 0) ⟨lv1, N, rfl, by rw [restB, if_neg h2]; exact hN, hok, ?_⟩)
  rw [sideB, if_neg h2]
  exact hs2
theorem c_page0 {g d : Nat} {L : List (By × By)} {lv hv : Value} {P : List (By × Value)} {wb : Nat} (hside : ∀ g', g = g' + 1 → PageC g') (him : Im m wI) (hE : (joinE (wrL wb lv P)).holds wI) (hm : ∀ k ∈ (joinE (wrL wb lv P)).foot, m k = none) (hl : PrsM m hv L) (hD : Dst d L) (hU : Up L) (hgd : g + d = 256) (hL : L.length ≤ 1000000) (hPl : P.length + (sv g d L).length ≤ 1000000000) :
  Ret Try.prog 33 #[.pointer (some ⟨wb, 0, none⟩), hv, .int .i64 d] wI fun v' w' => PgOut m wI w' (joinE (wrL wb lv P)).foot wb P (sv g d L) fun _ => v' = arr (sum (pg1 g d L)) := by
 have st := St.begin him hE hm
 have hF := (joinE (wrL wb lv P)).live hE
 obtain ⟨ha, hc, rfl⟩ := hl.1.sl
 obtain ⟨la, lc, hlv⟩ := row_sl (st.at (i := 1) rfl)
 subst hlv
 have hP0 : P.length ≤ 1000000000 := by omega
 refine ret_of Try.call33 Try.func33 rfl Try.ntmps33 Try.results33 rfl ?_
 refine wc_seq ?_
 refine wc_region ?_
 refine wl_alloc TF.z28 st rfl ?_
 intro b6 w st
 refine wl_nil ?_
 refine then_go ?_
 refine wc_seq ?_
 refine wc_region ?_
 refine wl_val (v_move' (by conv => (lhs; whnf))) rfl ?_
 refine wl_val (v_nil rfl) rfl ?_
 refine wl_val (v_fa TF.f75_0 rfl) rfl ?_
 refine wl_val (v_load rfl (st.reads 1 rfl TF.t29 rfl)) rfl ?_
 refine wl_val (v_len_s Try.underlying29 rfl) rfl ?_
 refine wl_val (v_assign' (by conv => (lhs; whnf))) rfl ?_
 refine wl_nil ?_
 refine then_go ?_
 refine wc_seq ?_
 refine wc_region ?_
 refine wl_val (v_move' (by conv => (lhs; whnf))) rfl ?_
 refine wl_val (v_move' (by conv => (lhs; whnf))) rfl ?_
 refine wl_val (v_nil rfl) rfl ?_
 refine wl_val (v_fa TF.f75_0 rfl) rfl ?_
 refine wl_val (v_load rfl (st.reads 1 rfl TF.t29 rfl)) rfl ?_
 refine wl_svOne (v := .slice none 0 0) Try.underlying29 TF.t37 TF.z37 rfl rfl st rfl ?_
 intro b21 w st
 refine wl_append (news := [.slice none 0 0]) 3 st rfl Try.underlying29 Try.underlying29 (.inr ⟨_, rfl⟩) TF.t37 TF.z37 rfl rfl rfl (st.srcArr (off := 0) 0 rfl rfl (fun j u hj => by simpa using hj) (by simp [Value.oneCell'])) (by omega) (by omega) rfl ?_
 intro lv1 w _ st
 have st := st.drop 0
 have e1 : P.map (·.2) ++ [.slice none 0 0] = (P ++ [(([] : By), Value.slice none 0 0)]).map (·.2) := by simp
 have e2 : P.length + 1 = (P ++ [(([] : By), Value.slice none 0 0)]).length := by simp
 change St _ _ _ _ _ [_, _, rowE lv1 _ _ (P.length + 1) (P.map (·.2) ++ [.slice none 0 0])] at st
 rw [e1, e2] at st
 obtain ⟨la1, lc1, hlv1⟩ := row_sl (st.at (i := 2) rfl)
 refine wl_val (v_nil rfl) rfl ?_
 refine wl_val (v_fa TF.f75_0 rfl) rfl ?_
 refine wl_store1 1 st rfl TF.t29 rfl rfl (by rw [hlv1]; rfl) (lt_ok rfl) ?_
 intro w st
 change St _ _ _ _ _ [_, K.blk wb #[lv1] _, _] at st
 refine wl_nil ?_
 refine then_go ?_
 refine wc_seq ?_
 refine wc_region ?_
 refine wl_val (v_move' (by conv => (lhs; whnf))) rfl ?_
 refine wl_val (v_move' (by conv => (lhs; whnf))) rfl ?_
 refine wl_call rfl (c_inline (g := g) st.im hl hD hU hgd hL) rfl ?_
 rintro v27 w ⟨t27, mm27, gr27, im27, hin⟩
 have st := st.grown gr27 t27 im27
 have hl := hl.mono gr27.le
 obtain ⟨xa, xk, xc, hx⟩ : ∃ a1 k1 c1, v27 = .slice a1 k1 c1 := by
  by_cases hq : (wh g d L).length ≤ 512
  ·obtain ⟨_, a', c', he, _⟩ := hin.1 hq; exact ⟨_, _, _, he⟩
  ·exact ⟨_, _, _, hin.2 hq⟩
 subst hx
 obtain ⟨nx, lx⟩ := hin.nil wh_pos
 refine wl_val (v_assign' (by conv => (lhs; whnf))) rfl ?_
 refine wl_nil ?_
 refine then_go ?_
 refine wc_seq ?_
 refine wc_seq ?_
 refine wc_region ?_
 refine wl_val (v_move' (by conv => (lhs; whnf))) rfl ?_
 refine wl_val (v_eq_nilS Try.underlying37 rfl rfl) rfl ?_
 refine wl_nil ?_
 refine then_go ?_
 refine wc_mid (fun r w' => ∃ (lvq vb c6v : Value) (c6 : Array Value) (N : List (By × Value)) (m2 : Mem), r 0 = .pointer (some ⟨wb, 0, none⟩) ∧ r 6 = .pointer (some ⟨b6, 0, none⟩) ∧ r 7 = .int .i64 P.length ∧ r 8 = vb ∧ c6.size = 32 ∧ N.map (·.1) = (sv g d L).tail ∧ PgsOk m2 N ∧ SlM m2 vb 1 (pg1 g d L).length (bs (pg1 g d L)) ∧ c6v = c6v ∧
  St m m2 (joinE (wrL wb (.slice la P.length lc) P)).foot wI w' [K.blk b6 c6 28, K.blk wb #[lvq] 75, rowE lvq 37 1 (P ++ [(([] : By), Value.slice none 0 0)] ++ N).length ((P ++ [(([] : By), Value.slice none 0 0)] ++ N).map (·.2))]) ?_ ?_
 ·refine wc_cond rfl (fun h29 => ?_) (fun h29 => ?_)
  ·refine wc_seq ?_
   have hbig : ¬ (wh g d L).length ≤ 512 := nx.1 h29
   have h2 : 2 ≤ L.length := Decidable.byContradiction fun hc => hbig (Nat.le_trans (wh_lt2 (by omega) hl.2) (by decide))
   obtain ⟨g', hg'⟩ : ∃ g', g = g' + 1 := by
    cases g with
    | zero =>
     match L, h2, hD with
     | x :: y :: l, _, hD => rw [show d = 256 by omega] at hD; exact hD.two.elim
    | succ g' => exact ⟨g', rfl⟩
   subst hg'
   have hP : PageC g' := hside g' rfl
   have hsv := sv_big hbig
   refine wc_region ?_
   refine wl_val (v_move' (by conv => (lhs; whnf))) rfl ?_
   refine wl_val (v_move' (by conv => (lhs; whnf))) rfl ?_
   refine wl_call rfl (c_part st.im hl (up_parts hU hD (by omega)) hL) rfl ?_
   rintro v33 w ⟨t33, vf, vt, rfl, hf, ht⟩
   have st := st.pure t33
   refine wl_val (v_move' (by conv => (lhs; whnf))) rfl ?_
   refine wl_val (v_extract rfl rfl) rfl ?_
   refine wl_val (v_extract rfl rfl) rfl ?_
   refine wl_val (v_assign' (by conv => (lhs; whnf))) rfl ?_
   refine wl_val (v_assign' (by conv => (lhs; whnf))) rfl ?_
   refine wl_nil ?_
   refine then_go ?_
   refine wc_seq ?_
   refine wc_region ?_
   refine wl_byteN 2 Try.underlying37 TF.t5 TF.z5 rfl st rfl ?_
   intro b36 w hN36 st
   refine wl_val (v_move' (by conv => (lhs; whnf))) rfl ?_
   refine wl_val (v_move' (by conv => (lhs; whnf))) rfl ?_
   refine wl_val (v_move' (by conv => (lhs; whnf))) rfl ?_
   refine wl_val (v_add' (c := ((d + 1 : Nat) : Int)) rfl rfl (by omega) (by omega) (by omega)) rfl ?_
   have hq : (sv (g' + 1) d L).length = 1 + (restB (sv g' (d + 1) (halfL L d false)) (halfL L d false)).length + (restB (sv g' (d + 1) (halfL L d true)) (halfL L d true)).length := by rw [hsv]; simp; omega
   have st := K.St.joinLast (pre := [_, _]) (l := wrL wb lv1 (P ++ [(([] : By), Value.slice none 0 0)])) st
   refine wl_call rfl (c_side (g := g') (d := d + 1) hP st.im (st.at (i := 2) rfl) (st.none (i := 2) rfl) hf (hD.half (by omega) false) (up_half hU) (by omega) (Nat.le_trans (List.length_filter_le ..) hL) (by simp; omega)) rfl ?_
   rintro v41 w ⟨m1, E1, t41, hE1, hg1, im1, hn1, lv2, N1, rfl, hN1, hok1, hs1⟩
   have st := st.callE 2 rfl t41 hE1 hg1 im1 hn1
   have ht := ht.mono hg1.le
   have st := K.St.splitLast (pre := [_, _]) (l := wrL wb lv2 (P ++ [(([] : By), Value.slice none 0 0)] ++ N1)) st
   refine wl_appBN 0 (l2 := sideB (sv g' (d + 1) (halfL L d false)) (wh g' (d + 1) (halfL L d false)) (halfL L d false)) st rfl hN36 Try.underlying37 Try.underlying37 (.inr ⟨_, rfl⟩) TF.t5 TF.z5 rfl rfl (hs1.src st.im (one_bs _)) (by have := sideB_len (g := g') (d := d + 1) hf.2; simp; omega) (by have := sideB_len (g := g') (d := d + 1) hf.2; simp; omega) rfl ?_
   intro v42 w hN42 st hv42
   refine wl_val (v_assign' (by conv => (lhs; whnf))) rfl ?_
   refine wl_nil ?_
   refine then_go ?_
   refine wc_region ?_
   refine wl_val (v_move' (by conv => (lhs; whnf))) rfl ?_
   refine wl_val (v_move' (by conv => (lhs; whnf))) rfl ?_
   refine wl_val (v_move' (by conv => (lhs; whnf))) rfl ?_
   refine wl_val (v_move' (by conv => (lhs; whnf))) rfl ?_
   refine wl_val (v_add' (c := ((d + 1 : Nat) : Int)) rfl rfl (by omega) (by omega) (by omega)) rfl ?_
   have st := K.St.joinLast (pre := [_, _]) (l := wrL wb lv2 (P ++ [(([] : By), Value.slice none 0 0)] ++ N1)) st
   have hN1l : N1.length = (restB (sv g' (d + 1) (halfL L d false)) (halfL L d false)).length := by rw [← hN1, List.length_map]
   refine wl_call rfl (c_side (g := g') (d := d + 1) hP st.im (st.at (i := 2) rfl) (st.none (i := 2) rfl) ht (hD.half (by omega) true) (up_half hU) (by omega) (Nat.le_trans (List.length_filter_le ..) hL) (by simp; omega)) rfl ?_
   rintro v48 w ⟨m2, E2, t48, hE2, hg2, im2, hn2, lv3, N2, rfl, hN2, hok2, hs2⟩
   have st := st.callE 2 rfl t48 hE2 hg2 im2 hn2
   have hok1 := hok1.mono hg2.le
   have st := K.St.splitLast (pre := [_, _]) (l := wrL wb lv3 (P ++ [(([] : By), Value.slice none 0 0)] ++ N1 ++ N2)) st
   refine wl_appBN 0 (l2 := sideB (sv g' (d + 1) (halfL L d true)) (wh g' (d + 1) (halfL L d true)) (halfL L d true)) st rfl hN42 Try.underlying37 Try.underlying37 (.inr ⟨_, rfl⟩) TF.t5 TF.z5 rfl rfl (hs2.src st.im (one_bs _)) (by have := sideB_len (g := g') (d := d + 1) hf.2; have := sideB_len (g := g') (d := d + 1) ht.2; simp; omega) (by have := sideB_len (g := g') (d := d + 1) hf.2; have := sideB_len (g := g') (d := d + 1) ht.2; simp; omega) rfl ?_
   intro v49 w hN49 st hv49
   obtain ⟨m3, hg3, hs3, st⟩ := st.keepN (i := 0) rfl hF hN49
   have hok1 := hok1.mono hg3.le
   have hok2 := hok2.mono hg3.le
   refine wl_val (v_assign' (by conv => (lhs; whnf))) rfl ?_
   refine wl_nil ?_
   refine then_go ?_
   refine ⟨lv3, v49, .bool true, _, N1 ++ N2, m3, rfl, rfl, rfl, rfl, rfl, ?_, ?_, ?_, rfl, by rw [← List.append_assoc]; exact st⟩
   ·rw [List.map_append, hN1, hN2, hsv]; rfl
   ·intro x hx
    rcases List.mem_append.1 hx with h | h
    ·exact hok1 x h
    ·exact hok2 x h
   ·have e : ([2] : By) ++ sideB (sv g' (d + 1) (halfL L d false)) (wh g' (d + 1) (halfL L d false)) (halfL L d false) ++ sideB (sv g' (d + 1) (halfL L d true)) (wh g' (d + 1) (halfL L d true)) (halfL L d true) = pg1 (g' + 1) d L := by unfold pg1; rw [hsv]; simp
    rw [e] at hs3
    exact hs3
  ·refine wc_skip ?_
   refine then_go ?_
   have hsm : (wh g d L).length ≤ 512 := Decidable.byContradiction fun hc => by have := nx.2 hc; rw [h29] at this; cases this
   refine ⟨lv1, .slice xa xk xc, .bool true, _, [], mm27, rfl, rfl, rfl, rfl, rfl, ?_, (fun x hx => by cases hx), ?_, rfl, by rw [List.append_nil]; exact st⟩
   ·rw [sv_small hsm]; rfl
   ·have e : pg1 g d L = wh g d L := by unfold pg1; rw [sv_small hsm]; rfl
    rw [e]
    exact hin.1 hsm
 ·have hl2 := hl.2
  clear st hin hl
  rintro r w ⟨lvq, vb, _, c6, N, m2, g0, g6, g7, g8, hc6, hN, hok, hpg, _, st⟩
  refine wc_o 0 g0 (wc_o 6 g6 (wc_o 7 g7 (wc_o 8 g8 ?_)))
  obtain ⟨gb, gcap, gsp, hgv, hgk, hgs, hgc, st⟩ := st.rowOpen 2 rfl (by simp; omega)
  subst hgv
  refine wc_seq ?_
  refine wc_region ?_
  refine wl_val (v_move' (by conv => (lhs; whnf))) rfl ?_
  refine wl_val (v_nil rfl) rfl ?_
  refine wl_val (v_fa TF.f75_0 rfl) rfl ?_
  refine wl_val (v_load rfl (st.reads 1 rfl TF.t29 rfl)) rfl ?_
  refine wl_val (v_move' (by conv => (lhs; whnf))) rfl ?_
  refine wl_val (v_move' (by conv => (lhs; whnf))) rfl ?_
  refine wl_val (v_ias (P.length) Try.underlying29 TF.t37 rfl rfl (by first | rfl | omega) (by simp)) rfl ?_
  have hvo : vb.oneCell' = true := SlM.one1 hpg
  refine wl_store1 2 st rfl TF.t37 rfl rfl hvo (by rw [List.size_toArray, hgs]; simp at hgk ⊢; omega) ?_
  intro w st
  have st := st.rowShut 2 (b := gb) (k := (P ++ [(([] : By), Value.slice none 0 0)] ++ N).length) (cap := gcap) (size := 1) (xs := (P ++ ((pg1 g d L, vb) :: N)).map (·.2)) rfl hgk (by rw [Array.size_setIfInBounds, List.size_toArray, hgs]) hgc (by
   have e4 : (P ++ [(([] : By), Value.slice none 0 0)] ++ N).map (·.2) = P.map (·.2) ++ [.slice none 0 0] ++ N.map (·.2) := by simp
   have e5 : (P ++ ((pg1 g d L, vb) :: N)).map (·.2) = P.map (·.2) ++ [vb] ++ N.map (·.2) := by simp
   rw [e4, e5, show (P ++ [(([] : By), Value.slice none 0 0)] ++ N).length * 1 = (P.map (·.2) ++ [vb] ++ N.map (·.2)).length by simp]
   exact take_set (by simp))
  have st : St m m2 _ wI w [K.blk b6 c6 28, K.blk wb #[.slice (some ⟨gb, 0, none⟩) (P ++ [(([] : By), Value.slice none 0 0)] ++ N).length gcap] 75, rowE (.slice (some ⟨gb, 0, none⟩) (P ++ [(([] : By), Value.slice none 0 0)] ++ N).length gcap) 37 1 (P ++ [(([] : By), Value.slice none 0 0)] ++ N).length ((P ++ ((pg1 g d L, vb) :: N)).map (·.2))] := st
  refine wl_nil ?_
  refine then_go ?_
  refine wc_seq ?_
  refine wc_region ?_
  refine wl_val (v_move' (by conv => (lhs; whnf))) rfl ?_
  refine wl_call rfl (c_tagsof st.im hpg (Nat.le_trans (pg1_len hl2) (by decide))) rfl ?_
  rintro v58 w ⟨t58, rfl⟩
  have st := st.pure t58
  refine wl_storeW 0 st rfl TF.t28 rfl rfl (by rw [List.size_toArray, length_bs, length_sum]) hc6 (one_bs _) ?_
  intro w st
  refine wl_nil ?_
  refine then_go ?_
  refine wc_ret ?_
  have e3 : (P ++ [(([] : By), Value.slice none 0 0)] ++ N).length = (P ++ ((pg1 g d L, vb) :: N)).length := by simp
  rw [e3] at st
  refine ret1c rfl (st.reads 0 rfl TF.t28 (getV_all (by simp [length_bs, length_sum]))) ?_
  refine K.St.outE (l := wrL wb _ (P ++ ((pg1 g d L, vb) :: N))) (Es := []) (st.drop 0) ⟨_, (pg1 g d L, vb) :: N, rfl, ?_, ?_, rfl⟩
  ·rw [List.map_cons, hN, ← sv_eq]
  ·intro x hx
   rcases List.mem_cons.1 hx with h | h
   ·rw [h]; exact hpg
   ·exact hok x h
theorem c_page : ∀ {g : Nat}, PageC g := by
 intro g
 induction g with
 | zero => intro d L lv hv P wb m w him hE hm hl hD hU hgd hL hPl; exact c_page0 (fun g' h => by cases h) him hE hm hl hD hU hgd hL hPl
 | succ g ih => intro d L lv hv P wb m w him hE hm hl hD hU hgd hL hPl; exact c_page0 (fun g' h => by cases h; exact ih) him hE hm hl hD hU hgd hL hPl
end
end Go.Proofs.Ytonlmjpenonabaa

namespace Go.Proofs.Ytonlmjpenonabaa
open Go Go.RowKit K SH PT
theorem fill_pr2 {x : By × By} (h1 : x.1.length = 32) (h2 : x.2.length = 32) : FillR (#[(0, 32), (32, 32)][·]?) (Value.agg (List.replicate 32 (Value.int .u8 0) ++ List.replicate 32 (Value.int .u8 0)).toArray).cells [(0, arr x.1), (1, arr x.2)] (prC2 x).toArray := by
 refine fill_one [] (bs z32) (bs z32) rfl rfl (by rw [size_arr, h1]; rfl) ?_
 refine fill_one (bs x.1) (bs z32) [] (by simp [arr, Value.cells]) (by simp [length_bs, h1]; rfl) (by rw [size_arr, h2]; rfl) ?_
 simp [FillR, prC2, arr, Value.cells]
theorem one_prC2 {x : By × By} : ∀ u ∈ prC2 x, u.oneCell' = true := one_app (one_bs _) (one_bs _)
theorem len_prC2 {x : By × By} (h1 : x.1.length = 32) (h2 : x.2.length = 32) : (prC2 x).length = 64 := by simp [prC2, length_bs, h1, h2]
section
variable {m : Mem} {wI : World}
theorem c_save {p : Nat} {L : List (By × By)} (him : Im m wI) (hp : TreeM m p (treeOf L)) (hD : Dst 0 L) (hU : Up L) (hdp : D32p L) (hL : L.length ≤ 100000) :
  Ret Try.prog 15 #[ptrP p] wI fun v' w' => Out m wI w' fun m' => ∃ v2 N, v' = .tuple #[arr (sum (pg1 256 0 L)), v2] ∧ PcsM m' v2 N ∧ N.map (·.1) = sv 256 0 L := by
 have st := St.start him
 refine ret_ofX Try.call15 Try.func15 rfl Try.ntmps15 Try.results15 rfl ?_
 refine wx_seqc ?_
 refine wc_region ?_
 refine wl_alloc TF.z28 st rfl ?_
 intro b2 w st
 refine wl_val (v_assign' (by conv => (lhs; whnf))) rfl ?_
 refine wl_nil ?_
 refine then_go ?_
 refine wx_seqc ?_
 refine wc_region ?_
 refine wl_alloc TF.z67 st rfl ?_
 intro b4 w st
 refine wl_nil ?_
 refine then_go ?_
 refine wx_cut (fun ds r w' => ∃ (D l : Nat) (o : Obj) (v : Value) (m3 : Mem), ds = [K.mark D] ∧ r 2 = .pointer (some ⟨b2, 0, none⟩) ∧ r 4 = .pointer (some ⟨b4, 0, none⟩) ∧ St m m3 [] wI w' [objE l o, objE D (.deferred (some [])), lsE 72 64 prC2 v L, K.blk b4 #[v] 67, K.blk b2 (bs z32).toArray 28]) ?_ ?_
 ·refine wx_seqc ?_
  refine wc_region ?_
  refine wl_val (v_move' (by conv => (lhs; whnf))) rfl ?_
  refine wl_call rfl (c_all st.im) rfl ?_
  rintro v10 w ⟨b9, rfl, t26, hE⟩
  have st := st.new (E := K.blk b9 _ _) t26 hE
  obtain ⟨m3, hg3, hm3, st⟩ := st.freeze (i := 0) rfl (by simp)
  have hp := hp.mono hg3.le
  have st : St m m3 [] wI w [K.blk b4 #[.slice none 0 0] 67, K.blk b2 (bs z32).toArray 28] := st
  have st := nilRow st 72 64
  refine wl_nil ?_
  refine then_go ?_
  refine wx_block ?_
  refine wx_range (lb := [.pointer (some ⟨b9, 0, none⟩)]) rfl Try.call54 st ?_
  intro l D fn tmps rec w1 hrec htm hval st
  have hwk := walk_treeOf hD hU
  refine Calls.mono (c_all1 (l := l) (items := L) (m1 := m3)
   (J := fun i W => ∃ v, St m m3 [] wI W [objE l (.loop (rec .ready none)), objE D (.deferred (some [])), lsE 72 64 prC2 v (L.take i), K.blk b4 #[v] 67, K.blk b2 (bs z32).toArray 28])
   (Jx := fun _ => False)
   (fun _ _ h => by obtain ⟨_, h⟩ := h; exact h.im) (fun _ _ h => by obtain ⟨v, h⟩ := h; exact ⟨v, h.pure (touch_drew _)⟩) ?_ hp (treeOf_fine hD (by omega)).1 (by intro k x hk; rw [hwk] at hk; exact hk) ⟨.slice none 0 0, st⟩ (st.readm hm3 TF.t25 rfl)).2 ?_
  rintro i W y hyi ⟨v, st⟩
  have hi : i < L.length := by
   rcases Nat.lt_or_ge i L.length with h' | h'
   ·exact h'
   ·rw [List.getElem?_eq_none h'] at hyi; cases hyi
  obtain rfl : L[i] = y := by rw [List.getElem?_eq_getElem hi] at hyi; exact Option.some.inj hyi
  obtain ⟨q1, q2⟩ := hdp _ (List.getElem_mem hi)
  refine yield_round hrec (st.at (i := 0) rfl) rfl htm hval rfl ?_
  ·refine wi_seq ?_
   refine wi_region (by kernel_rfl) (fun _ _ h => h) ?_
   refine wl_alloc TF.z28 st rfl ?_
   intro b5 w st
   refine wl_storeW (cs := (bs L[i].1).toArray) 0 st rfl TF.t28 rfl rfl (by simp [length_bs, q1]) rfl (one_bs _) ?_
   intro w st
   refine wl_nil ?_
   refine then_go ?_
   refine wi_region (by kernel_rfl) (fun _ _ h => h) ?_
   refine wl_alloc TF.z28 st rfl ?_
   intro b6 w st
   refine wl_storeW (cs := (bs L[i].2).toArray) 0 st rfl TF.t28 rfl rfl (by simp [length_bs, q2]) rfl (one_bs _) ?_
   intro w st
   refine wl_nil ?_
   refine then_go ⟨st.at (i := 2) rfl, ?_⟩
   have st := st.putObj 2 (.loop (rec .busy none)) rfl
   refine wi_block ?_
   refine wi_region (by kernel_rfl) (fun _ _ h => h) ?_
   refine wl_val (v_load rfl (st.reads 5 rfl TF.t67 rfl)) rfl ?_
   refine wl_val (v_load rfl (st.reads (v := arr L[i].1) 1 rfl TF.t28 (getV_all (by simp [length_bs, q1])))) rfl ?_
   refine wl_val (v_load rfl (st.reads (v := arr L[i].2) 0 rfl TF.t28 (getV_all (by simp [length_bs, q2])))) rfl ?_
   refine wl_val (v_build (c' := (prC2 L[i]).toArray) [(0, arr L[i].1), (1, arr L[i].2)] TF.z72 TF.p72 rfl (fill_pr2 q1 q2)) rfl ?_
   refine wl_lsOne (prC2 L[i]) Try.underlying67 TF.t72 TF.z72 (by decide) (by decide) (len_prC2 q1 q2) rfl st rfl ?_
   intro b17 w st
   refine wl_lsApp 4 (c := prC2) (e := L[i]) st rfl Try.underlying67 TF.t72 TF.z72 rfl (len_prC2 q1 q2) one_prC2 rfl rfl (by simp; omega) (by simp; omega) rfl ?_
   intro v2 w st hv2
   rw [← List.take_succ_eq_append_getElem hi] at st
   refine wl_store1 5 st rfl TF.t67 rfl rfl hv2 (lt_ok rfl) ?_
   intro w st
   refine wl_nil ?_
   refine block_go ?_
   exact ⟨st.at (i := 2) rfl, .inl ⟨rfl, v2, ((st.putObj 2 _ rfl).drop 0).drop 0⟩⟩
  rintro e W ⟨v, rfl, ⟨u, st⟩ | hF⟩
  ·have st2 := st.putObj 0 (.loop (rec .exhausted none)) rfl
   have hn := (treeOf_fine hD (by omega)).2.1
   rw [hn, List.take_length] at st2
   exact ⟨v, rfl, .ready, none, by simp, st.at (i := 0) rfl, D, l, _, u, m3, rfl, rfl, rfl, st2⟩
  ·exact hF.elim
 ·clear st
  rintro ds r w ⟨D, l, o, v, m3, rfl, h2, h4, st⟩
  refine wx_of_wc (wc_o 2 h2 (wc_o 4 h4 ?_))
  obtain ⟨m4, hg4, hq4, st⟩ := st.keepLs (i := 2) rfl (fun x hx => len_prC2 (hdp x hx).1 (hdp x hx).2)
  have st : St m m4 [] wI w [objE l o, objE D (.deferred (some [])), K.blk b4 #[v] 67, K.blk b2 (bs z32).toArray 28] := st
  have hprs : PrsM m4 v L := ⟨hq4, hdp⟩
  have hvo : v.oneCell' = true := LsM.one1 hq4
  have st := nilRow st 37 1
  refine wc_seq ?_
  refine wc_region ?_
  refine wl_val (v_build (c' := #[.slice none 0 0]) [] TF.z75 TF.p75 rfl rfl) rfl ?_
  refine wl_box (v := .agg #[.slice none 0 0]) rfl st rfl ?_
  intro b20 w st
  refine wl_val (v_assign' (by conv => (lhs; whnf))) rfl ?_
  refine wl_nil ?_
  refine then_go ?_
  refine wc_seq ?_
  refine wc_region ?_
  refine wl_val (v_move' (by conv => (lhs; whnf))) rfl ?_
  refine wl_val (v_load rfl (st.reads (v := v) 4 rfl TF.t67 rfl)) rfl ?_
  have st := K.St.join (l := wrL b20 (.slice none 0 0) []) st
  refine wl_call rfl (c_page (g := 256) (d := 0) st.im (st.at (i := 0) rfl) (st.none (i := 0) rfl) hprs hD hU rfl (by omega) (by have := sv_len (g := 256) (d := 0) (L := L); simp; omega)) rfl ?_
  rintro v23 w ⟨m5, E5, t23, hE5, hg5, im5, hn5, lv, N, rfl, hN, hok, rfl⟩
  have st := st.callE 0 rfl t23 hE5 hg5 im5 hn5
  have st := K.St.split (l := wrL b20 lv ([] ++ N)) st
  rw [List.nil_append] at st
  obtain ⟨na, nc, hlv⟩ := row_sl (st.at (i := 1) rfl)
  subst hlv
  refine wl_alloc TF.z28 st rfl ?_
  intro b8 w st
  refine wl_storeW (cs := (bs (sum (pg1 256 0 L))).toArray) 0 st rfl TF.t28 rfl rfl (by simp [length_bs, length_sum]) rfl (one_bs _) ?_
  intro w st
  refine wl_nil ?_
  refine then_go ?_
  refine wc_seq ?_
  refine wc_draw TF.mixed ?_
  have st := st.pure (touch_drew _)
  refine fl_ld 0 rfl (v_load rfl (st.reads (v := arr (sum (pg1 256 0 L))) 0 rfl TF.t28 (getV_all (by simp [length_bs, length_sum])))) (by kernel_rfl) ?_
  refine fl_val 1 rfl (fun _ => (v_move' (by conv => (lhs; whnf)))) rfl (by kernel_rfl) ?_
  refine fl_val 2 rfl (fun _ => (v_nil rfl)) rfl (by kernel_rfl) ?_
  refine fl_val 3 rfl (fun _ => (v_fa TF.f75_0 rfl)) rfl (by kernel_rfl) ?_
  refine fl_ld 4 rfl (v_load rfl (st.reads (v := .slice na N.length nc) 1 rfl TF.t29 rfl)) (by kernel_rfl) ?_
  refine fl_eff1 5 [3, 2, 1] [4] (by kernel_rfl) ⟨obl_ld rfl rfl rfl (v_load rfl (st.reads (v := .slice na N.length nc) 1 rfl TF.t29 rfl)), obl_ld rfl rfl rfl (v_load rfl (st.reads (v := arr (sum (pg1 256 0 L))) 0 rfl TF.t28 (getV_all (by simp [length_bs, length_sum])))), trivial⟩ rfl ?_
  refine wl_storeW (cs := (bs (sum (pg1 256 0 L))).toArray) 6 st rfl TF.t28 rfl rfl (by simp [length_bs, length_sum]) rfl (one_bs _) ?_
  intro w st
  refine wl_nil ⟨rfl, ?_⟩
  refine fl_eff1 6 [] [] (by kernel_rfl) ⟨obl_ld rfl rfl rfl (v_load rfl (st.reads (v := .slice na N.length nc) 1 rfl TF.t29 rfl)), trivial⟩ rfl ?_
  refine wl_val (v_assign' (by conv => (lhs; whnf))) rfl ?_
  refine wl_nil ⟨rfl, ?_⟩
  refine fl_nil (by kernel_rfl) trivial ?_
  refine then_go ?_
  refine wc_ret ?_
  obtain ⟨m6, hg6, hm6, st6⟩ := st.freezeR (i := 2) rfl (by simp)
  have hrow := row_SlM (m := m6) (st.at (i := 2) rfl) hm6
  have hD' := st6.at (i := 3) rfl
  have st7 := st6.putObj 3 (.deferred none) rfl
  exact retX1 hD' (ret2c rfl (st7.reads (v := arr (sum (pg1 256 0 L))) 5 rfl TF.t28 (getV_all (by simp [length_bs, length_sum]))) rfl ((st7.keepOnly (l := []) (List.nil_sublist _)).out ⟨_, N, rfl, ⟨hrow, hok.mono hg6.le⟩, hN⟩))
end
end Go.Proofs.Ytonlmjpenonabaa

namespace Go.Proofs.Ytonlmjpenonabaa
open Go Go.RowKit K SH PT
section
variable {P : Program} {r : Fr} {w : World} {ty : TypeId} {T U : TypeId} {x y : Operand}
theorem v_or8 {a : UInt8} (b : UInt8) {n : Int} (hx : ev r x = u8 a) (hy : ev r y = .int .u8 n) (hn : n = b.toNat) : Val P (.binOp .or T x y U) ty r w (u8 (a ||| b)) w := by
 subst hn
 have h := v_or (P := P) (w := w) (ty := ty) (T := T) (U := U) hx hy
 have ha := a.toNat_lt
 have hb := b.toNat_lt
 have e : IntKind.u8.wrap ((BitVec.ofInt IntKind.u8.bits (a.toNat : Int) ||| BitVec.ofInt IntKind.u8.bits (b.toNat : Int)).toNat) = ((a ||| b).toNat : Int) := by
  rw [show IntKind.u8.bits = 8 from rfl, BitVec.ofInt_natCast, BitVec.ofInt_natCast, BitVec.toNat_or, BitVec.toNat_ofNat, BitVec.toNat_ofNat, Nat.mod_eq_of_lt (by omega), Nat.mod_eq_of_lt (by omega), wrap_u8, UInt8.toNat_ofNat', Nat.mod_eq_of_lt (Nat.or_lt_two_pow (n := 8) ha hb), UInt8.toNat_or]
 rw [e] at h
 exact h
theorem v_xor8 {a : UInt8} (b : UInt8) {n : Int} (hx : ev r x = u8 a) (hy : ev r y = .int .u8 n) (hn : n = b.toNat) : Val P (.binOp .xor T x y U) ty r w (u8 (a ^^^ b)) w := by
 subst hn
 have h := v_xor (P := P) (w := w) (ty := ty) (T := T) (U := U) hx hy
 have ha := a.toNat_lt
 have hb := b.toNat_lt
 have e : IntKind.u8.wrap ((BitVec.ofInt IntKind.u8.bits (a.toNat : Int) ^^^ BitVec.ofInt IntKind.u8.bits (b.toNat : Int)).toNat) = ((a ^^^ b).toNat : Int) := by
  rw [show IntKind.u8.bits = 8 from rfl, BitVec.ofInt_natCast, BitVec.ofInt_natCast, BitVec.toNat_xor, BitVec.toNat_ofNat, BitVec.toNat_ofNat, Nat.mod_eq_of_lt (by omega), Nat.mod_eq_of_lt (by omega), wrap_u8, UInt8.toNat_ofNat', Nat.mod_eq_of_lt (Nat.xor_lt_two_pow (n := 8) ha hb), UInt8.toNat_xor]
 rw [e] at h
 exact h
end
def m8 (i : Nat) : UInt8 := UInt8.ofNat (2 ^ (7 - i % 8))
theorem m8_nat {i : Nat} : (m8 i).toNat = 2 ^ (7 - i % 8) := by
 unfold m8
 rw [UInt8.toNat_ofNat', Nat.mod_eq_of_lt (Nat.lt_of_le_of_lt (Nat.pow_le_pow_right (by decide) (Nat.sub_le _ _)) (by decide))]
def setB (d : By) (i : Nat) (on : Bool) : By :=
 if i < 256 then d.set (i / 8) (if on then d.getD (i / 8) 0 ||| m8 i else (d.getD (i / 8) 0 ||| m8 i) ^^^ m8 i) else d
theorem len_setB {d : By} {i : Nat} {on : Bool} : (setB d i on).length = d.length := by
 unfold setB; split <;> simp
theorem bit_setB {d : By} {i k : Nat} {on : Bool} (hd : d.length = 32) (hi : i < 256) (hk : k < 256) : bit (setB d i on) k = if k = i then on else bit d k := by
 unfold setB bit
 rw [if_pos hi]
 by_cases h8 : k / 8 = i / 8
 ·have hlt : i / 8 < d.length := by omega
  have e1 : ∀ x : UInt8, (d.set (i / 8) x).getD (i / 8) 0 = x := fun x => by simp [List.getD, hlt]
  rw [h8, e1]
  have hm : ∀ j, (m8 i).toNat.testBit j = decide (7 - i % 8 = j) := fun j => by rw [m8_nat, Nat.testBit_two_pow]
  by_cases hki : k = i
  ·subst hki
   cases on
   ·simp [UInt8.toNat_or, UInt8.toNat_xor, Nat.testBit_or, Nat.testBit_xor, hm]
   ·simp [UInt8.toNat_or, Nat.testBit_or, hm]
  ·have hne : ¬ (7 - i % 8 = 7 - k % 8) := by omega
   cases on
   ·simp [UInt8.toNat_or, UInt8.toNat_xor, Nat.testBit_or, Nat.testBit_xor, hm, hne, hki]
   ·simp [UInt8.toNat_or, Nat.testBit_or, hm, hne, hki]
 ·have e2 : ∀ x : UInt8, (d.set (i / 8) x).getD (k / 8) 0 = d.getD (k / 8) 0 := fun x => by simp [List.getD, List.getElem?_set, Ne.symm h8]
  rw [e2, if_neg (fun e => h8 (by rw [e]))]
theorem bs_set {d : By} {j : Nat} {x : UInt8} : (bs d).toArray.setIfInBounds j (u8 x) = (bs (d.set j x)).toArray := by
 apply Array.ext'
 simp [bs, List.map_set]
def failE (e c : Nat) : Nat := if e = 0 then c else e
def dgF (b : By) (e : Nat) : By × By × Nat := if b.length < 32 then (z32, [], failE e 15) else (b.take 32, b.drop 32, e)
theorem dgF_len {b : By} {e : Nat} : (dgF b e).1.length = 32 := by
 unfold dgF
 split
 ·rfl
 ·simp; omega
section
variable {m : Mem} {wI : World}
theorem c_set {d : By} {i : Nat} {on : Bool} (him : Im m wI) (hd : d.length = 32) (hi : i ≤ 1000) : Ret Try.prog 84 #[arr d, .int .i64 i, .bool on] wI fun v w' => Tch wI w' [] [] ∧ v = arr (setB d i on) := by
 have st := St.start him
 refine ret_of Try.call84 Try.func84 rfl Try.ntmps84 Try.results84 rfl ?_
 refine wc_seq ?_
 refine wc_region ?_
 refine wl_box (v := arr d) rfl st rfl ?_
 intro b3 w st
 refine wl_alloc TF.z28 st rfl ?_
 intro b6 w st
 refine wl_nil ?_
 refine then_go ?_
 refine wc_seq ?_
 refine wc_seq ?_
 by_cases h0 : i < 256
 ·refine wc_region ?_
  refine wl_val (v_move' (by conv => (lhs; whnf))) rfl ?_
  refine wl_val (v_lss rfl rfl) rfl ?_
  rw [show decide ((i : Int) < 0) = false from decide_eq_false (by omega)]
  refine wl_val (v_move' (by conv => (lhs; whnf))) rfl ?_
  refine wl_on rfl rfl ?_
  refine wl_val (v_move' (by conv => (lhs; whnf))) rfl ?_
  refine wl_on rfl rfl ?_
  refine wl_val (v_geq rfl rfl) rfl ?_
  rw [show decide ((256 : Int) ≤ (i : Int)) = false from decide_eq_false (by omega)]
  refine wl_val (v_pick rfl) rfl ?_
  refine wl_nil ?_
  refine then_go ?_
  refine wc_false rfl ?_
  refine wc_skip ?_
  refine then_go ?_
  refine wc_seq ?_
  refine wc_seq ?_
  have hi8 : i / 8 < d.length := by omega
  refine wc_draw TF.mixed ?_
  have st := st.pure (touch_drew _)
  refine fl_val 0 rfl (fun _ => (v_move' (by conv => (lhs; whnf)))) rfl (by kernel_rfl) ?_
  refine fl_val 1 rfl (fun _ => (v_quo' (c := ((i / 8 : Nat) : Int)) rfl rfl (by omega) (by omega) (by omega) (by omega))) rfl (by kernel_rfl) ?_
  refine fl_val 2 rfl (fun _ => (v_iaa (i / 8) Try.underlying28 TF.t5 rfl rfl (by first | rfl | omega) (by first | omega | (dsimp only at *; omega)))) rfl (by kernel_rfl) ?_
  refine fl_ld 3 rfl (v_load rfl (st.reads (v := u8 (d.getD (i / 8) 0)) 1 rfl TF.t5 (getV_bsd (j := i / 8) (by omega) (by omega)))) (by kernel_rfl) ?_
  refine fl_val 4 rfl (fun _ => (v_move' (by conv => (lhs; whnf)))) rfl (by kernel_rfl) ?_
  refine fl_val 5 rfl (fun _ => (v_rem' (c := ((i % 8 : Nat) : Int)) rfl rfl (by omega) (by omega) (by omega))) rfl (by kernel_rfl) ?_
  refine fl_val 6 rfl (fun _ => (v_shr128 (i % 8) rfl rfl (by omega))) rfl (by kernel_rfl) ?_
  refine fl_val 7 rfl (fun _ => (v_or8 (m8 i) rfl rfl (by rw [m8_nat]))) rfl (by kernel_rfl) ?_
  refine fl_val 8 rfl (fun _ => (v_iaa (i / 8) Try.underlying28 TF.t5 rfl rfl (by first | rfl | omega) (by first | omega | (dsimp only at *; omega)))) rfl (by kernel_rfl) ?_
  refine fl_eff1 9 [] [] (by kernel_rfl) ⟨obl_ld rfl rfl rfl (v_load rfl (st.reads (v := u8 (d.getD (i / 8) 0)) 1 rfl TF.t5 (getV_bsd (j := i / 8) (by omega) (by omega)))), trivial⟩ rfl ?_
  refine wl_store1 1 st rfl TF.t5 rfl rfl rfl (by rw [size_arr]; omega) ?_
  intro w st
  change St _ _ _ _ _ [_, K.blk b3 ((bs d).toArray.setIfInBounds (0 + i / 8 * 1) (u8 (d.getD (i / 8) 0 ||| m8 i))) 28] at st
  rw [Nat.zero_add, Nat.mul_one, bs_set] at st
  refine wl_nil ⟨rfl, ?_⟩
  refine fl_nil (by kernel_rfl) trivial ?_
  refine then_go ?_
  refine wc_seq ?_
  refine wc_region ?_
  refine wl_val (v_move' (by conv => (lhs; whnf))) rfl ?_
  refine wl_val (v_not rfl) rfl ?_
  refine wl_nil ?_
  refine then_go ?_
  refine wc_cond rfl (fun h24 => ?_) (fun h24 => ?_)
  ·refine wc_draw TF.mixed ?_
   have st := st.pure (touch_drew _)
   refine fl_val 0 rfl (fun _ => (v_move' (by conv => (lhs; whnf)))) rfl (by kernel_rfl) ?_
   refine fl_val 1 rfl (fun _ => (v_quo' (c := ((i / 8 : Nat) : Int)) rfl rfl (by omega) (by omega) (by omega) (by omega))) rfl (by kernel_rfl) ?_
   refine fl_val 2 rfl (fun _ => (v_iaa (i / 8) Try.underlying28 TF.t5 rfl rfl (by first | rfl | omega) (by first | omega | (dsimp only at *; omega)))) rfl (by kernel_rfl) ?_
   refine fl_ld 3 rfl (v_load rfl (st.reads (v := u8 (d.getD (i / 8) 0 ||| m8 i)) 1 rfl TF.t5 (by rw [getV_bsd (j := i / 8) (by omega) (by simp; omega)]; simp [List.getD, hi8]))) (by kernel_rfl) ?_
   refine fl_val 4 rfl (fun _ => (v_move' (by conv => (lhs; whnf)))) rfl (by kernel_rfl) ?_
   refine fl_val 5 rfl (fun _ => (v_rem' (c := ((i % 8 : Nat) : Int)) rfl rfl (by omega) (by omega) (by omega))) rfl (by kernel_rfl) ?_
   refine fl_val 6 rfl (fun _ => (v_shr128 (i % 8) rfl rfl (by omega))) rfl (by kernel_rfl) ?_
   refine fl_val 7 rfl (fun _ => (v_xor8 (m8 i) rfl rfl (by rw [m8_nat]))) rfl (by kernel_rfl) ?_
   refine fl_val 8 rfl (fun _ => (v_iaa (i / 8) Try.underlying28 TF.t5 rfl rfl (by first | rfl | omega) (by first | omega | (dsimp only at *; omega)))) rfl (by kernel_rfl) ?_
   refine fl_eff1 9 [] [] (by kernel_rfl) ⟨obl_ld rfl rfl rfl (v_load rfl (st.reads (v := u8 (d.getD (i / 8) 0 ||| m8 i)) 1 rfl TF.t5 (by rw [getV_bsd (j := i / 8) (by omega) (by simp; omega)]; simp [List.getD, hi8]))), trivial⟩ rfl ?_
   refine wl_store1 1 st rfl TF.t5 rfl rfl rfl (by simp [length_bs]; omega) ?_
   intro w st
   change St _ _ _ _ _ [_, K.blk b3 ((bs (d.set (i / 8) (d.getD (i / 8) 0 ||| m8 i))).toArray.setIfInBounds (0 + i / 8 * 1) (u8 ((d.getD (i / 8) 0 ||| m8 i) ^^^ m8 i))) 28] at st
   rw [Nat.zero_add, Nat.mul_one, bs_set, List.set_set] at st
   refine wl_nil ⟨rfl, ?_⟩
   refine fl_nil (by kernel_rfl) trivial ?_
   refine then_go ?_
   refine wc_seq ?_
   refine wc_region ?_
   refine wl_val (v_load rfl (st.reads 1 rfl TF.t28 (getV_all (by simp [length_bs, hd])))) rfl ?_
   refine wl_storeW 0 st rfl TF.t28 rfl rfl (by simp [length_bs, hd]) rfl (one_bs _) ?_
   intro w st
   refine wl_nil ?_
   refine then_go ?_
   refine wc_ret ?_
   exact ret1c rfl (st.reads 0 rfl TF.t28 (getV_all (by simp [length_bs, hd]))) ⟨(st.keepOnly (l := []) (List.nil_sublist _)).touch, by unfold setB; rw [if_pos h0]; simp_all [arr]⟩
  ·refine wc_skip ?_
   refine then_go ?_
   refine wc_seq ?_
   refine wc_region ?_
   refine wl_val (v_load rfl (st.reads 1 rfl TF.t28 (getV_all (by simp [length_bs, hd])))) rfl ?_
   refine wl_storeW 0 st rfl TF.t28 rfl rfl (by simp [length_bs, hd]) rfl (one_bs _) ?_
   intro w st
   refine wl_nil ?_
   refine then_go ?_
   refine wc_ret ?_
   exact ret1c rfl (st.reads 0 rfl TF.t28 (getV_all (by simp [length_bs, hd]))) ⟨(st.keepOnly (l := []) (List.nil_sublist _)).touch, by unfold setB; rw [if_pos h0]; simp_all [arr]⟩
 ·refine wc_region ?_
  refine wl_val (v_move' (by conv => (lhs; whnf))) rfl ?_
  refine wl_val (v_lss rfl rfl) rfl ?_
  rw [show decide ((i : Int) < 0) = false from decide_eq_false (by omega)]
  refine wl_val (v_move' (by conv => (lhs; whnf))) rfl ?_
  refine wl_on rfl rfl ?_
  refine wl_val (v_move' (by conv => (lhs; whnf))) rfl ?_
  refine wl_on rfl rfl ?_
  refine wl_val (v_geq rfl rfl) rfl ?_
  rw [show decide ((256 : Int) ≤ (i : Int)) = true from decide_eq_true (by omega)]
  refine wl_val (v_pick rfl) rfl ?_
  refine wl_nil ?_
  refine then_go ?_
  refine wc_true rfl ?_
  refine wc_seq ?_
  refine wc_region ?_
  refine wl_val (v_load rfl (st.reads (v := arr d) 1 rfl TF.t28 (getV_all (by rw [size_arr]; exact hd)))) rfl ?_
  refine wl_storeW (cs := (bs d).toArray) 0 st rfl TF.t28 rfl rfl (by simp [length_bs, hd]) rfl (one_bs _) ?_
  intro w st
  refine wl_nil ?_
  refine then_go ?_
  refine wc_ret (then_ret ?_)
  exact ret1c (v := arr d) rfl (st.reads 0 rfl TF.t28 (getV_all (by simp [length_bs, hd]))) ⟨(st.keepOnly (l := []) (List.nil_sublist _)).touch, by unfold setB; rw [if_neg h0]⟩
theorem c_pathunder {d p : By} {n : Nat} (him : Im m wI) (hd : d.length = 32) (hp : p.length = 32) : Ret Try.prog 83 #[arr d, arr p, .int .i64 n] wI fun v w' => Tch wI w' [] [] ∧ v = .bool (decide (n ≤ common d p)) := by
 have st := St.start him
 refine ret_of Try.call83 Try.func83 rfl Try.ntmps83 Try.results83 rfl ?_
 refine wc_seq ?_
 refine wc_region ?_
 refine wl_box (v := arr d) rfl st rfl ?_
 intro b3 w st
 refine wl_box (v := arr p) rfl st rfl ?_
 intro b4 w st
 refine wl_val (v_assign' (by conv => (lhs; whnf))) rfl ?_
 refine wl_nil ?_
 refine then_go ?_
 refine wc_seq ?_
 refine wc_region ?_
 refine wl_val (v_load rfl (by first | exact st.rdp 1 rfl (by exact rfl) TF.t28 (by exact (getV_all (by rw [size_arr]; assumption))))) rfl ?_
 refine wl_val (v_load rfl (by first | exact st.rdp 0 rfl (by exact rfl) TF.t28 (by exact (getV_all (by rw [size_arr]; assumption))))) rfl ?_
 refine wl_call rfl (c_common st.im hd hp) rfl ?_
 rintro v9 w ⟨t9, rfl⟩
 have st := st.pure t9
 refine wl_val (v_move' (by conv => (lhs; whnf))) rfl ?_
 refine wl_val (v_geq rfl rfl) rfl ?_
 refine wl_val (v_assign' (by conv => (lhs; whnf))) rfl ?_
 refine wl_nil ?_
 refine then_go ?_
 refine wc_ret ?_
 refine ret1 rfl ⟨(st.keepOnly (l := []) (List.nil_sublist _)).touch, ?_⟩
 exact congrArg Value.bool (decide_eq_decide.2 (by omega))
abbrev rdB (rb mb : Nat) (lv : Value) (e : Nat) : Ent := K.blk rb #[.map (some mb), lv, .int .i64 e] 84
theorem c_rfail {rb mb : Nat} {lv : Value} {e c : Nat} (him : Im m wI) (hE : (rdB rb mb lv e).holds wI) (hm : ∀ k ∈ [rb], m k = none) :
    Ret Try.prog 63 #[.pointer (some ⟨rb, 0, none⟩), .int .i64 c] wI fun _ w' => Tch wI w' [rb] [rb] ∧ (rdB rb mb lv (failE e c)).holds w' := by
  have st := St.startE him hE hm
  refine ret_of Try.call63 Try.func63 rfl Try.ntmps63 Try.results63 rfl ?_
  refine wc_seq ?_
  refine wc_region ?_
  refine wl_val (v_move' (by conv => (lhs; whnf))) rfl ?_
  refine wl_val (v_nil rfl) rfl ?_
  refine wl_val (v_fa TF.f84_2 rfl) rfl ?_
  refine wl_val (v_load rfl (st.reads 0 rfl TF.t41 rfl)) rfl ?_
  refine wl_val (v_eql rfl rfl) rfl ?_
  refine wl_nil ?_
  refine then_go ?_
  refine wc_cond rfl (fun h8 => ?_) (fun h8 => ?_)
  · refine wc_region ?_
    refine wl_val (v_move' (by conv => (lhs; whnf))) rfl ?_
    refine wl_val (v_move' (by conv => (lhs; whnf))) rfl ?_
    refine wl_val (v_nil rfl) rfl ?_
    refine wl_val (v_fa TF.f84_2 rfl) rfl ?_
    refine wl_store1 0 st rfl TF.t41 rfl rfl rfl (lt_ok rfl) ?_
    intro w st
    refine wl_nil ?_
    refine end0 ⟨st.touch, ?_⟩
    have h := st.at (i := 0) rfl
    first
    | (have e0 : e = 0 := (by simpa using h8)
       rw [failE, if_pos e0]; exact h)
    | (have e0 : ¬ e = 0 := (by simpa using h8)
       rw [failE, if_neg e0]; exact h)
  · refine wc_skip ?_
    refine end0 ⟨st.touch, ?_⟩
    have h := st.at (i := 0) rfl
    first
    | (have e0 : e = 0 := (by simpa using h8)
       rw [failE, if_pos e0]; exact h)
    | (have e0 : ¬ e = 0 := (by simpa using h8)
       rw [failE, if_neg e0]; exact h)
theorem c_rdig {rb mb : Nat} {lv bv : Value} {e : Nat} {b : By} (him : Im m wI) (hE : (rdB rb mb lv e).holds wI) (hm : ∀ k ∈ [rb], m k = none) (hb : SlM m bv 1 b.length (bs b)) (hbl : b.length ≤ 1000000000) :
  Ret Try.prog 82 #[.pointer (some ⟨rb, 0, none⟩), bv] wI fun v' w' => Tch wI w' [rb] [rb] ∧ (rdB rb mb lv (dgF b e).2.2).holds w' ∧ ∃ v2, v' = .tuple #[arr (dgF b e).1, v2] ∧ SlM m v2 1 (dgF b e).2.1.length (bs (dgF b e).2.1) := by
 have st := St.startE him hE hm
 obtain ⟨ba, bc, hbv, hbc⟩ : ∃ a c, bv = .slice a b.length c ∧ b.length ≤ c := by obtain ⟨_, a, c, h, h2, _⟩ := hb; exact ⟨a, c, h, h2⟩
 subst hbv
 refine ret_of Try.call82 Try.func82 rfl Try.ntmps82 Try.results82 rfl ?_
 refine wc_seq ?_
 refine wc_region ?_
 refine wl_alloc TF.z28 st rfl ?_
 intro b4 w st
 refine wl_val (v_assign' (by conv => (lhs; whnf))) rfl ?_
 refine wl_nil ?_
 refine then_go ?_
 refine wc_seq ?_
 refine wc_region ?_
 refine wl_alloc TF.z28 st rfl ?_
 intro b6 w st
 refine wl_nil ?_
 refine then_go ?_
 refine wc_seq ?_
 refine wc_seq ?_
 refine wc_region ?_
 refine wl_val (v_move' (by conv => (lhs; whnf))) rfl ?_
 refine wl_val (v_len_s Try.underlying37 rfl) rfl ?_
 refine wl_val (v_lss rfl rfl) rfl ?_
 refine wl_nil ?_
 refine then_go ?_
 refine wc_if rfl (fun h9 => ?_) (fun h9 => ?_)
 ·refine wc_seq ?_
  refine wc_region ?_
  refine wl_val (v_move' (by conv => (lhs; whnf))) rfl ?_
  have hl : b.length < 32 := by omega
  refine wl_call rfl (c_rfail (c := 15) st.im (st.at (i := 2) rfl) (st.none (i := 2) rfl)) rfl ?_
  rintro v11 w ⟨t11, hE11⟩
  have st := st.step 2 rfl t11 hE11
  have ed : dgF b e = (z32, [], failE e 15) := by rw [dgF, if_pos hl]
  refine wl_nil ?_
  refine then_go ?_
  refine wc_seq ?_
  refine wc_region ?_
  refine wl_val (v_load rfl (st.reads (v := arr z32) 0 rfl TF.t28 (getV_all rfl))) rfl ?_
  refine wl_storeW (cs := (bs z32).toArray) 1 st rfl TF.t28 rfl rfl rfl rfl (one_bs _) ?_
  intro w st
  refine wl_val (v_assign' (by conv => (lhs; whnf))) rfl ?_
  refine wl_nil ?_
  refine then_go ?_
  refine wc_ret (then_ret ?_)
  exact ret2c rfl (st.reads (v := arr z32) 1 rfl TF.t28 (getV_all rfl)) rfl ⟨st.touch, by rw [ed]; exact st.at (i := 2) rfl, _, by rw [ed], by rw [ed]; exact SlM.nil⟩
 ·refine wc_skip ?_
  refine then_go ?_
  refine wc_seq ?_
  refine wc_region ?_
  refine wl_val (v_sla 0 32 Try.underlying28 TF.t5 rfl rfl rfl (by omega) (by omega) (by omega)) rfl ?_
  refine wl_val (v_move' (by conv => (lhs; whnf))) rfl ?_
  have hl : ¬ b.length < 32 := by omega
  have ed : dgF b e = (b.take 32, b.drop 32, e) := by rw [dgF, if_neg hl]
  have hsub := hb.subB 32 b.length (by omega) (Nat.le_refl _)
  rw [List.take_of_length_le (l := b.drop 32) (by rw [List.length_drop]; omega)] at hsub
  refine wl_copy (size := 1) (b := b6) (off := 0) 0 st rfl Try.underlying37 TF.t5 rfl rfl (hb.src st.im (one_bs _)) (by have : (Value.agg (Array.replicate 32 (Value.int .u8 0))).cells.size = 32 := rfl; rw [this]; omega) rfl ?_
  intro w st
  have ec : setSeg (Value.agg (Array.replicate 32 (Value.int .u8 0))).cells 0 ((bs b).take (min b.length (32 - 0) * 1)) = (bs (b.take 32)).toArray := by
   have e1 : min b.length (32 - 0) * 1 = 32 := by omega
   rw [e1, setSeg_all (by rw [List.length_take, length_bs]; show _ = 32; omega)]
   simp [bs, List.map_take]
  change St _ _ _ _ _ [K.blk b6 (setSeg (Value.agg (Array.replicate 32 (Value.int .u8 0))).cells 0 ((bs b).take (min b.length (32 - 0) * 1))) _, _, _] at st
  rw [ec] at st
  refine wl_nil ?_
  refine then_go ?_
  refine wc_seq ?_
  refine wc_draw TF.mixed ?_
  have st := st.pure (touch_drew _)
  refine fl_ld 0 rfl (v_load rfl (st.reads (v := arr (b.take 32)) 0 rfl TF.t28 (getV_all (by simp [length_bs]; omega)))) (by kernel_rfl) ?_
  refine fl_val 1 rfl (fun _ => (v_move' (by conv => (lhs; whnf)))) rfl (by kernel_rfl) ?_
  refine fl_val 2 rfl (fun _ => (v_sls 32 b.length Try.underlying37 TF.t5 rfl ⟨_, _, rfl, rfl⟩ rfl (by omega) (by omega))) rfl (by kernel_rfl) ?_
  refine fl_eff1 3 [2, 1] [] (by kernel_rfl) ⟨obl_ld rfl rfl rfl (v_load rfl (st.reads (v := arr (b.take 32)) 0 rfl TF.t28 (getV_all (by simp [length_bs]; omega)))), trivial⟩ rfl ?_
  refine wl_storeW (cs := (bs (b.take 32)).toArray) 1 st rfl TF.t28 rfl rfl (by simp [length_bs]; omega) rfl (one_bs _) ?_
  intro w st
  refine wl_nil ⟨rfl, ?_⟩
  refine fl_eff1 4 [] [] (by kernel_rfl) trivial rfl ?_
  refine wl_val (v_assign' (by conv => (lhs; whnf))) rfl ?_
  refine wl_nil ⟨rfl, ?_⟩
  refine fl_nil (by kernel_rfl) trivial ?_
  refine then_go ?_
  refine wc_ret ?_
  exact ret2c rfl (st.reads (v := arr (b.take 32)) 1 rfl TF.t28 (getV_all (by simp [length_bs]; omega))) rfl ⟨st.touch, by rw [ed]; exact st.at (i := 2) rfl, _, by rw [ed], by rw [ed]; show SlM _ _ _ (b.drop 32).length _; rw [List.length_drop]; exact hsub⟩
end
end Go.Proofs.Ytonlmjpenonabaa
