/-
  The tree's fork2, join, put and Put.
-/
import Derived.Test.YtkbmhhbclbgdpaaUa
namespace Go.Proofs.Ytkbmhhbclbgdpaa
open Go Go.RowKit K SH PT

theorem comF_le (a b : By) : ∀ f k, comF a b f k ≤ f + k
  | 0, k => by simp [comF]
  | f + 1, k => by
    rw [comF]
    split
    · have := comF_le a b f (k + 1); omega
    · omega
theorem common_le (a b : By) : common a b ≤ 256 := comF_le a b 256 0

namespace Tr
def fork2 (i : By) (x y : Tr) (k : Int) : Tr := if bitI i k = true then .f y x else .f x y
def wrap (i : By) (d : Nat) (t : Tr) : Tr := if bitI i d = true then .f .e t else .f t .e
def joinW (i : By) (d : Nat) : Nat → Tr → Tr
  | 0, t => t
  | k + 1, t => joinW i d k (wrap i (d + k) t)
def join (i v j u : By) (d : Nat) : Tr := joinW i d (common i j - d) (fork2 i (.l i v) (.l j u) (common i j))
def put (j u : By) : Tr → Nat → Tr
  | .e, _ => .l j u
  | .l i v, d => if i = j then .l j u else join i v j u d
  | .f a b, d => if bitI j d = true then .f a (put j u b (d + 1)) else .f (put j u a (d + 1)) b
/-- Two leaves or more below each fork. -/
inductive ok : Tr → Prop
  | mkE : ok .e
  | mkL {i v : By} : ok (.l i v)
  | mkF {a b : Tr} : 2 ≤ a.n + b.n → ok a → ok b → ok (.f a b)
theorem ok.fork {a b : Tr} (h : (Tr.f a b).ok) : 2 ≤ a.n + b.n ∧ a.ok ∧ b.ok := by
  cases h with
  | mkF h1 h2 h3 => exact ⟨h1, h2, h3⟩
theorem n_fork2 {i : By} {x y : Tr} {k : Int} : (fork2 i x y k).n = x.n + y.n := by unfold fork2; split <;> simp [n, Nat.add_comm]
theorem n_wrap {i : By} {d : Nat} {t : Tr} : (wrap i d t).n = t.n := by unfold wrap; split <;> simp [n]
theorem n_joinW {i : By} {d : Nat} : ∀ {k : Nat} {t : Tr}, (joinW i d k t).n = t.n
  | 0, _ => rfl
  | k + 1, t => by rw [joinW, n_joinW, n_wrap]
theorem n_join {i v j u : By} {d : Nat} : (join i v j u d).n = 2 := by rw [join, n_joinW, n_fork2]; rfl
theorem n_put {j u : By} : ∀ {t : Tr} {d : Nat}, (put j u t d).n ≤ t.n + 1
  | .e, _ => by simp [put, n]
  | .l _ _, _ => by rw [put]; split <;> simp [n, n_join]
  | .f a b, d => by
    rw [put]
    have h1 := n_put (j := j) (u := u) (t := a) (d := d + 1)
    have h2 := n_put (j := j) (u := u) (t := b) (d := d + 1)
    split <;> simp only [n] <;> omega
end Tr

section
variable {P : Program} {r : Fr} {w : World} {ty : TypeId}
theorem v_eqlF {T U : TypeId} {x y : Operand} {k : IntKind} {a b : Int} (h : ¬ a = b) (hx : ev r x = .int k a) (hy : ev r y = .int k b) : Val P (.binOp .eql T x y U) ty r w (.bool false) w := by
  have := v_eql (P := P) (T := T) (U := U) (ty := ty) (w := w) hx hy
  rwa [decide_eq_false h] at this
theorem v_eqlT {T U : TypeId} {x y : Operand} {k : IntKind} {a b : Int} (h : a = b) (hx : ev r x = .int k a) (hy : ev r y = .int k b) : Val P (.binOp .eql T x y U) ty r w (.bool true) w := by
  have := v_eql (P := P) (T := T) (U := U) (ty := ty) (w := w) hx hy
  rwa [decide_eq_true h] at this
end

section
variable {m : Mem} {wI : World}

theorem c_fork2 {pa pb : Nat} {i v : By} {b : Tr} {k : Int} (him : Im m wI) (ha : TreeM m pa (.l i v)) (hb : TreeM m pb b) (hn : b.n < 4611686018427387) : Ret Try.prog 51 #[ptrP pa, ptrP pb, .int .i64 k] wI fun v' w' => Out m wI w' fun m' => ∃ p, v' = ptrP p ∧ TreeM m' p (Tr.fork2 i (.l i v) b k) := by
  have st := St.start him
  refine ret_of Try.call51 Try.func51 rfl Try.ntmps51 Try.results51 rfl ?_
  refine wc_seq ?_
  refine wc_region ?_
  refine wl_val (v_assign' (by conv => (lhs; whnf))) rfl ?_
  refine wl_nil ?_
  refine then_go ?_
  refine wc_seq ?_
  refine wc_seq ?_
  refine wc_region ?_
  refine wl_val (v_move' (by conv => (lhs; whnf))) rfl ?_
  refine wl_val (v_nil rfl) rfl ?_
  refine wl_val (v_fa TF.f56_1 rfl) rfl ?_
  refine wl_val (v_load rfl (ha.rdI st)) rfl ?_
  refine wl_val (v_move' (by conv => (lhs; whnf))) rfl ?_
  refine wl_call rfl (c_bit st.im ha.leaf.1) rfl ?_
  rintro v12 w ⟨t, rfl⟩
  have st := st.pure t
  refine wl_nil ?_
  refine then_go ?_
  refine wc_cond rfl (fun h12 => ?_) (fun h12 => ?_)
  · refine wc_seq ?_
    refine wc_region ?_
    refine wl_val (v_move' (by conv => (lhs; whnf))) rfl ?_
    refine wl_val (v_move' (by conv => (lhs; whnf))) rfl ?_
    refine wl_call rfl (c_fork st.im hb ha (by simp only [Tr.n]; omega)) rfl ?_
    rintro v15 w ⟨t, m1, hg1, hi1, p, rfl, hp⟩
    have st := st.grown hg1 t hi1
    refine wl_val (v_assign' (by conv => (lhs; whnf))) rfl ?_
    refine wl_nil ?_
    refine then_go ?_
    refine wc_ret (then_ret ?_)
    exact ret1 rfl (st.out ⟨p, rfl, by rw [Tr.fork2, if_pos h12]; exact hp⟩)
  · refine wc_skip ?_
    refine then_go ?_
    refine wc_seq ?_
    refine wc_region ?_
    refine wl_val (v_move' (by conv => (lhs; whnf))) rfl ?_
    refine wl_val (v_move' (by conv => (lhs; whnf))) rfl ?_
    refine wl_call rfl (c_fork st.im ha hb (by simp only [Tr.n]; omega)) rfl ?_
    rintro v15 w ⟨t, m1, hg1, hi1, p, rfl, hp⟩
    have st := st.grown hg1 t hi1
    refine wl_val (v_assign' (by conv => (lhs; whnf))) rfl ?_
    refine wl_nil ?_
    refine then_go ?_
    refine wc_ret ?_
    exact ret1 rfl (st.out ⟨p, rfl, by rw [Tr.fork2, if_neg (by rw [h12]; simp)]; exact hp⟩)

theorem c_tjoin {pa pb : Nat} {i v j u : By} {d : Nat} (him : Im m wI) (ha : TreeM m pa (.l i v)) (hb : TreeM m pb (.l j u)) (hd : d < 4611686018427387904) : Ret Try.prog 43 #[ptrP pa, ptrP pb, .int .i64 d] wI fun v' w' => Out m wI w' fun m' => ∃ p, v' = ptrP p ∧ TreeM m' p (Tr.join i v j u d) := by
  have st := St.start him
  have hc := common_le i j
  obtain ⟨c, hcj⟩ : ∃ c, c = common i j := ⟨_, rfl⟩
  rw [← hcj] at hc
  have hj0 : Tr.joinW i d (c - d) (Tr.fork2 i (.l i v) (.l j u) (c : Int)) = Tr.join i v j u d := by unfold Tr.join; rw [hcj]
  have hn0 : (Tr.fork2 i (.l i v) (.l j u) (c : Int)).n = 2 := by rw [Tr.n_fork2]; rfl
  refine ret_of Try.call43 Try.func43 rfl Try.ntmps43 Try.results43 rfl ?_
  refine wc_seq ?_
  refine wc_region ?_
  refine wl_val (v_assign' (by conv => (lhs; whnf))) rfl ?_
  refine wl_nil ?_
  refine then_go ?_
  refine wc_seq ?_
  refine wc_draw TF.mixed ?_
  have st := st.pure (touch_drew _)
  refine fl_val 0 rfl (fun _ => (v_move' (by conv => (lhs; whnf)))) rfl (by kernel_rfl) ?_
  refine fl_val 1 rfl (fun _ => (v_move' (by conv => (lhs; whnf)))) rfl (by kernel_rfl) ?_
  refine fl_val 2 rfl (fun _ => (v_move' (by conv => (lhs; whnf)))) rfl (by kernel_rfl) ?_
  refine fl_val 3 rfl (fun _ => (v_nil rfl)) rfl (by kernel_rfl) ?_
  refine fl_val 4 rfl (fun _ => (v_fa TF.f56_1 rfl)) rfl (by kernel_rfl) ?_
  refine fl_ld 5 rfl (v_load rfl (ha.rdI st)) (by kernel_rfl) ?_
  refine fl_val 6 rfl (fun _ => (v_move' (by conv => (lhs; whnf)))) rfl (by kernel_rfl) ?_
  refine fl_val 7 rfl (fun _ => (v_nil rfl)) rfl (by kernel_rfl) ?_
  refine fl_val 8 rfl (fun _ => (v_fa TF.f56_1 rfl)) rfl (by kernel_rfl) ?_
  refine fl_ld 9 rfl (v_load rfl (hb.rdI st)) (by kernel_rfl) ?_
  refine fl_eff1 10 [8, 7, 6, 4, 3, 2, 1, 0] [] (by kernel_rfl) ⟨obl_ld rfl rfl rfl (v_load rfl (hb.rdI st)), obl_ld rfl rfl rfl (v_load rfl (ha.rdI st)), trivial⟩ rfl ?_
  refine wl_call rfl (c_common st.im ha.leaf.1 hb.leaf.1) rfl ?_
  rintro v19 w ⟨t, rfl⟩
  rw [← hcj]
  have st := st.pure t
  refine wl_nil ⟨rfl, ?_⟩
  refine fl_eff1 11 [8, 7, 6, 4, 3, 2] [] (by kernel_rfl) trivial rfl ?_
  refine wl_call rfl (c_fork2 st.im ha hb (by simp [Tr.n])) rfl ?_
  rintro v20 w ⟨t, m1, hg1, hi1, p1, rfl, hp1⟩
  have st := st.grown hg1 t hi1
  have ha := ha.mono hg1.le
  have hb := hb.mono hg1.le
  refine wl_nil ⟨rfl, ?_⟩
  refine fl_eff1 12 [] [] (by kernel_rfl) trivial rfl ?_
  refine wl_val (v_assign' (by conv => (lhs; whnf))) rfl ?_
  refine wl_nil ⟨rfl, ?_⟩
  refine fl_nil (by kernel_rfl) trivial ?_
  refine then_go ?_
  refine wc_seq ?_
  refine wc_seq ?_
  refine wc_draw TF.mixed ?_
  have st := st.pure (touch_drew _)
  refine fl_val 0 rfl (fun _ => (v_move' (by conv => (lhs; whnf)))) rfl (by kernel_rfl) ?_
  refine fl_val 1 rfl (fun _ => (v_nil rfl)) rfl (by kernel_rfl) ?_
  refine fl_val 2 rfl (fun _ => (v_fa TF.f56_1 rfl)) rfl (by kernel_rfl) ?_
  refine fl_ld 3 rfl (v_load rfl (ha.rdI st)) (by kernel_rfl) ?_
  refine fl_val 4 rfl (fun _ => (v_move' (by conv => (lhs; whnf)))) rfl (by kernel_rfl) ?_
  refine fl_val 5 rfl (fun _ => (v_nil rfl)) rfl (by kernel_rfl) ?_
  refine fl_val 6 rfl (fun _ => (v_fa TF.f56_1 rfl)) rfl (by kernel_rfl) ?_
  refine fl_ld 7 rfl (v_load rfl (hb.rdI st)) (by kernel_rfl) ?_
  refine fl_eff1 8 [6, 5, 4, 2, 1, 0] [] (by kernel_rfl) ⟨obl_ld rfl rfl rfl (v_load rfl (hb.rdI st)), obl_ld rfl rfl rfl (v_load rfl (ha.rdI st)), trivial⟩ rfl ?_
  refine wl_call rfl (c_common st.im ha.leaf.1 hb.leaf.1) rfl ?_
  rintro v19 w ⟨t, rfl⟩
  rw [← hcj]
  have st := st.pure t
  refine wl_nil ⟨rfl, ?_⟩
  refine fl_val 9 rfl (fun _ => (v_sub' rfl rfl rfl (by first | omega | (dsimp only at *; omega)) (by first | omega | (dsimp only at *; omega)))) rfl (by kernel_rfl) ?_
  refine fl_eff1 10 [] [] (by kernel_rfl) trivial rfl ?_
  refine wl_val (v_assign' (by conv => (lhs; whnf))) rfl ?_
  refine wl_nil ⟨rfl, ?_⟩
  refine fl_nil (by kernel_rfl) trivial ?_
  refine then_go ?_
  refine wc_block ?_
  refine wc_loop (S := Nat) (fun q r w' => ∃ (m2 : Mem) (k : Nat) (z : Int) (t : Tr) (p : Nat), q = k ∧ r 0 = ptrP pa ∧ r 2 = .int .i64 d ∧ r 7 = ptrP p ∧ r 8 = .int .i64 z ∧ (z = d + k - 1 ∨ k = 0 ∧ z < d ∧ -1 ≤ z) ∧ k ≤ 256 ∧ t.n = 2 ∧ Tr.joinW i d k t = Tr.join i v j u d ∧ TreeM m2 pa (.l i v) ∧ TreeM m2 p t ∧ St m m2 [] wI w' []) id (c - d) ⟨m1, c - d, (c : Int) - 1, Tr.fork2 i (.l i v) (.l j u) (c : Int), p1, rfl, rfl, rfl, rfl, rfl, by omega, by omega, hn0, hj0, ha, hp1, st⟩ ?_
  rintro q r w2 ⟨m2, k, z, t, p, hqk, h0, h2, h7, h8, hz, hk, htn, htj, ha, hp, st⟩
  refine wc_o 0 h0 (wc_o 2 h2 (wc_o 7 h7 (wc_o 8 h8 ?_)))
  refine wc_seq ?_
  refine wc_seq ?_
  refine wc_region ?_
  refine wl_val (v_move' (by conv => (lhs; whnf))) rfl ?_
  refine wl_val (v_move' (by conv => (lhs; whnf))) rfl ?_
  refine wl_val (v_geq rfl rfl) rfl ?_
  refine wl_nil ?_
  refine then_go ?_
  refine wc_if rfl (fun h33 => ?_) (fun h33 => ?_)
  · refine wc_skip ?_
    refine then_go ?_
    refine wc_seq ?_
    refine wc_block ?_
    refine wc_seq ?_
    obtain ⟨k', rfl⟩ : ∃ k', k = k' + 1 := ⟨k - 1, by omega⟩
    have hz' : z = ((d + k' : Nat) : Int) := by omega
    rw [Tr.joinW] at htj
    refine wc_region ?_
    refine wl_val (v_move' (by conv => (lhs; whnf))) rfl ?_
    refine wl_val (v_nil rfl) rfl ?_
    refine wl_val (v_fa TF.f56_1 rfl) rfl ?_
    refine wl_val (v_load rfl (ha.rdI st)) rfl ?_
    refine wl_val (v_move' (by conv => (lhs; whnf))) rfl ?_
    refine wl_call rfl (c_bit st.im ha.leaf.1) rfl ?_
    rintro v41 w ⟨t41, rfl⟩
    have st := st.pure t41
    refine wl_nil ?_
    refine then_go ?_
    refine wc_cond rfl (fun h41 => ?_) (fun h41 => ?_)
    · refine wc_region ?_
      refine wl_call rfl (c_tempty st.im) rfl ?_
      rintro v42 w ⟨t42, m3, hg3, hi3, p3, rfl, hp3⟩
      have st := st.grown hg3 t42 hi3
      have ha := ha.mono hg3.le
      have hp := hp.mono hg3.le
      refine wl_val (v_move' (by conv => (lhs; whnf))) rfl ?_
      refine wl_call rfl (c_fork st.im hp3 hp (by simp only [Tr.n]; omega)) rfl ?_
      rintro v44 w ⟨t44, m4, hg4, hi4, p4, rfl, hp4⟩
      have st := st.grown hg4 t44 hi4
      have ha := ha.mono hg4.le
      rw [Tr.wrap, if_pos (by rw [← hz']; exact h41)] at htj
      refine wl_val (v_assign' (by conv => (lhs; whnf))) rfl ?_
      refine wl_nil ?_
      refine block_go (then_go ?_)
      refine wc_region ?_
      refine wl_val (v_move' (by conv => (lhs; whnf))) rfl ?_
      refine wl_val (v_sub' rfl rfl rfl (by first | omega | (dsimp only at *; omega)) (by first | omega | (dsimp only at *; omega))) rfl ?_
      refine wl_val (v_assign' (by conv => (lhs; whnf))) rfl ?_
      refine wl_nil ?_
      refine then_go ?_
      exact ⟨k', by simp; omega, m4, k', _, _, p4, rfl, rfl, rfl, rfl, rfl, by omega, by omega, by simp only [Tr.n]; omega, htj, ha, hp4, st⟩
    · refine wc_region ?_
      refine wl_val (v_move' (by conv => (lhs; whnf))) rfl ?_
      refine wl_call rfl (c_tempty st.im) rfl ?_
      rintro v42 w ⟨t42, m3, hg3, hi3, p3, rfl, hp3⟩
      have st := st.grown hg3 t42 hi3
      have ha := ha.mono hg3.le
      have hp := hp.mono hg3.le
      refine wl_call rfl (c_fork st.im hp hp3 (by simp only [Tr.n]; omega)) rfl ?_
      rintro v44 w ⟨t44, m4, hg4, hi4, p4, rfl, hp4⟩
      have st := st.grown hg4 t44 hi4
      have ha := ha.mono hg4.le
      rw [Tr.wrap, if_neg (by rw [← hz', h41]; simp)] at htj
      refine wl_val (v_assign' (by conv => (lhs; whnf))) rfl ?_
      refine wl_nil ?_
      refine block_go (then_go ?_)
      refine wc_region ?_
      refine wl_val (v_move' (by conv => (lhs; whnf))) rfl ?_
      refine wl_val (v_sub' rfl rfl rfl (by first | omega | (dsimp only at *; omega)) (by first | omega | (dsimp only at *; omega))) rfl ?_
      refine wl_val (v_assign' (by conv => (lhs; whnf))) rfl ?_
      refine wl_nil ?_
      refine then_go ?_
      exact ⟨k', by simp; omega, m4, k', _, _, p4, rfl, rfl, rfl, rfl, rfl, by omega, by omega, by simp only [Tr.n]; omega, htj, ha, hp4, st⟩
  · refine wc_exit (then_exit (then_exit (block_hit ?_)))
    refine then_go ?_
    refine wc_seq ?_
    refine wc_region ?_
    refine wl_val (v_move' (by conv => (lhs; whnf))) rfl ?_
    refine wl_val (v_assign' (by conv => (lhs; whnf))) rfl ?_
    refine wl_nil ?_
    refine then_go ?_
    refine wc_ret ?_
    have hk0 : k = 0 := by omega
    subst hk0
    exact ret1 rfl (st.out ⟨p, rfl, by rw [← htj]; exact hp⟩)
end
end Go.Proofs.Ytkbmhhbclbgdpaa
