/-
  The tree's put and Put.
-/
import Derived.Test.YtkbmhhbclbgdpaaUb
namespace Go.Proofs.Ytkbmhhbclbgdpaa
open Go Go.RowKit K SH PT

section
variable {j u : By} {px : Nat}

theorem c_put : ∀ {t : Tr} {p d : Nat} {m : Mem} {wI : World}, Im m wI → TreeM m p t → TreeM m px (.l j u) → t.ok → t.n < 4611686018427386 → d + t.ht < 4611686018427386 →
    Ret Try.prog 31 #[ptrP p, ptrP px, .int .i64 d] wI fun v' w' => Out m wI w' fun m' => ∃ q, v' = ptrP q ∧ TreeM m' q (Tr.put j u t d) := by
  intro t
  induction t with
  | e =>
    intro p d m wI him h hx _ hn hd
    have st := St.start him
    refine ret_of Try.call31 Try.func31 rfl Try.ntmps31 Try.results31 rfl ?_
    refine wc_seq ?_
    refine wc_region ?_
    refine wl_val (v_assign' (by conv => (lhs; whnf))) rfl ?_
    refine wl_nil ?_
    refine then_go ?_
    refine wc_seq ?_
    refine wc_block ?_
    refine wc_seq ?_
    refine wc_draw TF.mixed ?_
    have st := st.pure (touch_drew _)
    refine fl_val 0 rfl (fun _ => (v_move' (by conv => (lhs; whnf)))) rfl (by kernel_rfl) ?_
    refine fl_val 1 rfl (fun _ => (v_nil rfl)) rfl (by kernel_rfl) ?_
    refine fl_val 2 rfl (fun _ => (v_fa TF.f56_0 rfl)) rfl (by kernel_rfl) ?_
    refine fl_ld 3 rfl (v_load rfl (h.rdN st)) (by kernel_rfl) ?_
    refine fl_val 4 rfl (fun _ => (v_eqlT (a := ((Tr.n .e : Nat) : Int)) rfl rfl rfl)) rfl (by kernel_rfl) ?_
    refine fl_val 5 rfl (fun _ => (v_move' (by conv => (lhs; whnf)))) rfl (by kernel_rfl) ?_
    refine fl_off 6 rfl rfl rfl rfl rfl rfl (by kernel_rfl) ?_
    refine fl_off 7 rfl rfl rfl rfl rfl rfl (by kernel_rfl) ?_
    refine fl_off 8 rfl rfl rfl rfl rfl rfl (by kernel_rfl) ?_
    refine fl_offd 9 rfl rfl rfl rfl rfl rfl (by kernel_rfl) ?_
    refine fl_off 10 rfl rfl rfl rfl rfl rfl (by kernel_rfl) ?_
    refine fl_off 11 rfl rfl rfl rfl rfl rfl (by kernel_rfl) ?_
    refine fl_u 12 rfl rfl rfl rfl rfl (by kernel_rfl) ?_
    refine fl_u 13 rfl rfl rfl rfl rfl (by kernel_rfl) ?_
    refine fl_u 14 rfl rfl rfl rfl rfl (by kernel_rfl) ?_
    refine fl_ud 15 rfl rfl rfl rfl rfl (by kernel_rfl) ?_
    refine fl_u 16 rfl rfl rfl rfl rfl (by kernel_rfl) ?_
    refine fl_u 17 rfl rfl rfl rfl rfl (by kernel_rfl) ?_
    refine fl_u 18 rfl rfl rfl rfl rfl (by kernel_rfl) ?_
    refine fl_ud 19 rfl rfl rfl rfl rfl (by kernel_rfl) ?_
    refine fl_u 20 rfl rfl rfl rfl rfl (by kernel_rfl) ?_
    refine fl_off 21 rfl rfl rfl rfl rfl rfl (by kernel_rfl) ?_
    refine fl_val 22 rfl (fun _ => (v_pick rfl)) rfl (by kernel_rfl) ?_
    refine fl_eff1 23 [21, 20, 18, 17, 16, 14, 13, 12, 10, 8, 7, 6, 5, 4, 2, 1, 0] [19, 15, 9, 3] (by kernel_rfl) ⟨obl_u rfl rfl rfl rfl rfl, obl_u rfl rfl rfl rfl rfl, obl_off rfl rfl rfl rfl rfl rfl, obl_ld rfl rfl rfl (v_load rfl (h.rdN st)), trivial⟩ rfl ?_
    refine wl_val (v_assign' (by conv => (lhs; whnf))) rfl ?_
    refine wl_nil ⟨rfl, ?_⟩
    refine fl_nil (by kernel_rfl) ⟨obl_u rfl rfl rfl rfl rfl, obl_u rfl rfl rfl rfl rfl, obl_off rfl rfl rfl rfl rfl rfl, obl_ld rfl rfl rfl (v_load rfl (h.rdN st)), trivial⟩ ?_
    refine then_go ?_
    refine wc_true rfl ?_
    refine wc_seq ?_
    refine wc_region ?_
    refine wl_val (v_move' (by conv => (lhs; whnf))) rfl ?_
    refine wl_val (v_assign' (by conv => (lhs; whnf))) rfl ?_
    refine wl_nil ?_
    refine then_go ?_
    refine wc_ret (block_ret (then_ret ?_))
    exact ret1 rfl (st.out ⟨px, rfl, hx⟩)
  | l i v =>
    intro p d m wI him h hx _ hn hd
    have st := St.start him
    refine ret_of Try.call31 Try.func31 rfl Try.ntmps31 Try.results31 rfl ?_
    refine wc_seq ?_
    refine wc_region ?_
    refine wl_val (v_assign' (by conv => (lhs; whnf))) rfl ?_
    refine wl_nil ?_
    refine then_go ?_
    refine wc_seq ?_
    refine wc_block ?_
    refine wc_seq ?_
    refine wc_draw TF.mixed ?_
    have st := st.pure (touch_drew _)
    refine fl_val 0 rfl (fun _ => (v_move' (by conv => (lhs; whnf)))) rfl (by kernel_rfl) ?_
    refine fl_val 1 rfl (fun _ => (v_nil rfl)) rfl (by kernel_rfl) ?_
    refine fl_val 2 rfl (fun _ => (v_fa TF.f56_0 rfl)) rfl (by kernel_rfl) ?_
    refine fl_ld 3 rfl (v_load rfl (h.rdN st)) (by kernel_rfl) ?_
    refine fl_val 4 rfl (fun _ => (v_eqlF (a := ((Tr.n (.l i v) : Nat) : Int)) (by simp [Tr.n]) rfl rfl)) rfl (by kernel_rfl) ?_
    refine fl_val 5 rfl (fun _ => (v_move' (by conv => (lhs; whnf)))) rfl (by kernel_rfl) ?_
    refine fl_on 6 rfl rfl rfl rfl (fun _ => (v_move' (by conv => (lhs; whnf)))) rfl (by kernel_rfl) ?_
    refine fl_on 7 rfl rfl rfl rfl (fun _ => (v_nil rfl)) rfl (by kernel_rfl) ?_
    refine fl_on 8 rfl rfl rfl rfl (fun _ => (v_fa TF.f56_0 rfl)) rfl (by kernel_rfl) ?_
    refine fl_ond 9 rfl rfl rfl rfl (v_load rfl (h.rdN st)) rfl (by kernel_rfl) ?_
    refine fl_on 10 rfl rfl rfl rfl (fun _ => (v_eqlT (a := ((Tr.n (.l i v) : Nat) : Int)) rfl rfl rfl)) rfl (by kernel_rfl) ?_
    refine fl_on 11 rfl rfl rfl rfl (fun _ => (v_move' (by conv => (lhs; whnf)))) rfl (by kernel_rfl) ?_
    refine fl_on 12 rfl rfl rfl rfl (fun _ => (v_move' (by conv => (lhs; whnf)))) rfl (by kernel_rfl) ?_
    refine fl_on 13 rfl rfl rfl rfl (fun _ => (v_nil rfl)) rfl (by kernel_rfl) ?_
    refine fl_on 14 rfl rfl rfl rfl (fun _ => (v_fa TF.f56_1 rfl)) rfl (by kernel_rfl) ?_
    refine fl_ond 15 rfl rfl rfl rfl (v_load rfl (h.rdI st)) rfl (by kernel_rfl) ?_
    refine fl_on 16 rfl rfl rfl rfl (fun _ => (v_move' (by conv => (lhs; whnf)))) rfl (by kernel_rfl) ?_
    refine fl_on 17 rfl rfl rfl rfl (fun _ => (v_nil rfl)) rfl (by kernel_rfl) ?_
    refine fl_on 18 rfl rfl rfl rfl (fun _ => (v_fa TF.f56_1 rfl)) rfl (by kernel_rfl) ?_
    refine fl_ond 19 rfl rfl rfl rfl (v_load rfl (hx.rdI st)) rfl (by kernel_rfl) ?_
    refine fl_on 20 rfl rfl rfl rfl (fun _ => (v_eq_arr Try.underlying24 TF.t5 Try.underlying5 TF.e24 rfl rfl h.leaf.1 hx.leaf.1)) rfl (by kernel_rfl) ?_
    refine fl_on 21 rfl rfl rfl rfl (fun _ => (v_pick rfl)) rfl (by kernel_rfl) ?_
    refine fl_val 22 rfl (fun _ => (v_pick rfl)) rfl (by kernel_rfl) ?_
    refine fl_eff1 23 [21, 20, 18, 17, 16, 14, 13, 12, 10, 8, 7, 6, 5, 4, 2, 1, 0] [19, 15, 9, 3] (by kernel_rfl) ⟨obl_on rfl rfl rfl rfl rfl (v_load rfl (hx.rdI st)), obl_on rfl rfl rfl rfl rfl (v_load rfl (h.rdI st)), obl_on rfl rfl rfl rfl rfl (v_load rfl (h.rdN st)), obl_ld rfl rfl rfl (v_load rfl (h.rdN st)), trivial⟩ rfl ?_
    refine wl_val (v_assign' (by conv => (lhs; whnf))) rfl ?_
    refine wl_nil ⟨rfl, ?_⟩
    refine fl_nil (by kernel_rfl) ⟨obl_on rfl rfl rfl rfl rfl (v_load rfl (hx.rdI st)), obl_on rfl rfl rfl rfl rfl (v_load rfl (h.rdI st)), obl_on rfl rfl rfl rfl rfl (v_load rfl (h.rdN st)), obl_ld rfl rfl rfl (v_load rfl (h.rdN st)), trivial⟩ ?_
    refine then_go ?_
    refine wc_if rfl (fun h7 => ?_) (fun h7 => ?_)
    · refine wc_seq ?_
      refine wc_region ?_
      refine wl_val (v_move' (by conv => (lhs; whnf))) rfl ?_
      refine wl_val (v_assign' (by conv => (lhs; whnf))) rfl ?_
      refine wl_nil ?_
      refine then_go ?_
      refine wc_ret (block_ret (then_ret ?_))
      exact ret1 rfl (st.out ⟨px, rfl, by rw [Tr.put, if_pos h7]; exact hx⟩)
    · refine wc_seq ?_
      refine wc_region ?_
      refine wl_val (v_move' (by conv => (lhs; whnf))) rfl ?_
      refine wl_val (v_nil rfl) rfl ?_
      refine wl_val (v_fa TF.f56_0 rfl) rfl ?_
      refine wl_val (v_load rfl (h.rdN st)) rfl ?_
      refine wl_val (v_eqlT (a := ((Tr.n (.l i v) : Nat) : Int)) rfl rfl rfl) rfl ?_
      refine wl_val (v_assign' (by conv => (lhs; whnf))) rfl ?_
      refine wl_nil ?_
      refine then_go ?_
      refine wc_true rfl ?_
      refine wc_seq ?_
      refine wc_region ?_
      refine wl_val (v_move' (by conv => (lhs; whnf))) rfl ?_
      refine wl_val (v_move' (by conv => (lhs; whnf))) rfl ?_
      refine wl_val (v_move' (by conv => (lhs; whnf))) rfl ?_
      refine wl_call rfl (c_tjoin st.im h hx (by omega)) rfl ?_
      rintro v41 w ⟨t, m1, hg1, hi1, q, rfl, hq⟩
      have st := st.grown hg1 t hi1
      refine wl_val (v_assign' (by conv => (lhs; whnf))) rfl ?_
      refine wl_nil ?_
      refine then_go ?_
      refine wc_ret (block_ret (then_ret ?_))
      exact ret1 rfl (st.out ⟨q, rfl, by rw [Tr.put, if_neg h7]; exact hq⟩)
  | f a b iha ihb =>
    intro p d m wI him h hx hok hn hd
    have st := St.start him
    obtain ⟨h2, hoa, hob⟩ := hok.fork
    obtain ⟨pa, pb, ha, hb, hm⟩ := h.fork
    have hna : a.n < 4611686018427386 := by simp only [Tr.n] at hn; omega
    have hnb : b.n < 4611686018427386 := by simp only [Tr.n] at hn; omega
    have hha : d + 1 + a.ht < 4611686018427386 := by simp only [Tr.ht] at hd; omega
    have hhb : d + 1 + b.ht < 4611686018427386 := by simp only [Tr.ht] at hd; omega
    have hpa := Tr.n_put (j := j) (u := u) (t := a) (d := d + 1)
    have hpb := Tr.n_put (j := j) (u := u) (t := b) (d := d + 1)
    refine ret_of Try.call31 Try.func31 rfl Try.ntmps31 Try.results31 rfl ?_
    refine wc_seq ?_
    refine wc_region ?_
    refine wl_val (v_assign' (by conv => (lhs; whnf))) rfl ?_
    refine wl_nil ?_
    refine then_go ?_
    refine wc_seq ?_
    refine wc_block ?_
    refine wc_seq ?_
    refine wc_draw TF.mixed ?_
    have st := st.pure (touch_drew _)
    refine fl_val 0 rfl (fun _ => (v_move' (by conv => (lhs; whnf)))) rfl (by kernel_rfl) ?_
    refine fl_val 1 rfl (fun _ => (v_nil rfl)) rfl (by kernel_rfl) ?_
    refine fl_val 2 rfl (fun _ => (v_fa TF.f56_0 rfl)) rfl (by kernel_rfl) ?_
    refine fl_ld 3 rfl (v_load rfl (h.rdN st)) (by kernel_rfl) ?_
    refine fl_val 4 rfl (fun _ => (v_eqlF (a := ((Tr.n (.f a b) : Nat) : Int)) (by simp only [Tr.n]; omega) rfl rfl)) rfl (by kernel_rfl) ?_
    refine fl_val 5 rfl (fun _ => (v_move' (by conv => (lhs; whnf)))) rfl (by kernel_rfl) ?_
    refine fl_on 6 rfl rfl rfl rfl (fun _ => (v_move' (by conv => (lhs; whnf)))) rfl (by kernel_rfl) ?_
    refine fl_on 7 rfl rfl rfl rfl (fun _ => (v_nil rfl)) rfl (by kernel_rfl) ?_
    refine fl_on 8 rfl rfl rfl rfl (fun _ => (v_fa TF.f56_0 rfl)) rfl (by kernel_rfl) ?_
    refine fl_ond 9 rfl rfl rfl rfl (v_load rfl (h.rdN st)) rfl (by kernel_rfl) ?_
    refine fl_on 10 rfl rfl rfl rfl (fun _ => (v_eqlF (a := ((Tr.n (.f a b) : Nat) : Int)) (by simp only [Tr.n]; omega) rfl rfl)) rfl (by kernel_rfl) ?_
    refine fl_on 11 rfl rfl rfl rfl (fun _ => (v_move' (by conv => (lhs; whnf)))) rfl (by kernel_rfl) ?_
    refine fl_off 12 rfl rfl rfl rfl rfl rfl (by kernel_rfl) ?_
    refine fl_off 13 rfl rfl rfl rfl rfl rfl (by kernel_rfl) ?_
    refine fl_off 14 rfl rfl rfl rfl rfl rfl (by kernel_rfl) ?_
    refine fl_offd 15 rfl rfl rfl rfl rfl rfl (by kernel_rfl) ?_
    refine fl_off 16 rfl rfl rfl rfl rfl rfl (by kernel_rfl) ?_
    refine fl_off 17 rfl rfl rfl rfl rfl rfl (by kernel_rfl) ?_
    refine fl_off 18 rfl rfl rfl rfl rfl rfl (by kernel_rfl) ?_
    refine fl_offd 19 rfl rfl rfl rfl rfl rfl (by kernel_rfl) ?_
    refine fl_off 20 rfl rfl rfl rfl rfl rfl (by kernel_rfl) ?_
    refine fl_on 21 rfl rfl rfl rfl (fun _ => (v_pick rfl)) rfl (by kernel_rfl) ?_
    refine fl_val 22 rfl (fun _ => (v_pick rfl)) rfl (by kernel_rfl) ?_
    refine fl_eff1 23 [21, 20, 18, 17, 16, 14, 13, 12, 10, 8, 7, 6, 5, 4, 2, 1, 0] [19, 15, 9, 3] (by kernel_rfl) ⟨obl_off rfl rfl rfl rfl rfl rfl, obl_off rfl rfl rfl rfl rfl rfl, obl_on rfl rfl rfl rfl rfl (v_load rfl (h.rdN st)), obl_ld rfl rfl rfl (v_load rfl (h.rdN st)), trivial⟩ rfl ?_
    refine wl_val (v_assign' (by conv => (lhs; whnf))) rfl ?_
    refine wl_nil ⟨rfl, ?_⟩
    refine fl_nil (by kernel_rfl) ⟨obl_off rfl rfl rfl rfl rfl rfl, obl_off rfl rfl rfl rfl rfl rfl, obl_on rfl rfl rfl rfl rfl (v_load rfl (h.rdN st)), obl_ld rfl rfl rfl (v_load rfl (h.rdN st)), trivial⟩ ?_
    refine then_go ?_
    refine wc_false rfl ?_
    refine wc_seq ?_
    refine wc_region ?_
    refine wl_val (v_move' (by conv => (lhs; whnf))) rfl ?_
    refine wl_val (v_nil rfl) rfl ?_
    refine wl_val (v_fa TF.f56_0 rfl) rfl ?_
    refine wl_val (v_load rfl (h.rdN st)) rfl ?_
    refine wl_val (v_eqlF (a := ((Tr.n (.f a b) : Nat) : Int)) (by simp only [Tr.n]; omega) rfl rfl) rfl ?_
    refine wl_val (v_assign' (by conv => (lhs; whnf))) rfl ?_
    refine wl_nil ?_
    refine then_go ?_
    refine wc_false rfl ?_
    refine wc_seq ?_
    refine wc_region ?_
    refine wl_val (v_move' (by conv => (lhs; whnf))) rfl ?_
    refine wl_val (v_nil rfl) rfl ?_
    refine wl_val (v_fa TF.f56_1 rfl) rfl ?_
    refine wl_val (v_load rfl (hx.rdI st)) rfl ?_
    refine wl_val (v_move' (by conv => (lhs; whnf))) rfl ?_
    refine wl_call rfl (c_bit st.im hx.leaf.1) rfl ?_
    rintro v48 w ⟨t48, rfl⟩
    have st := st.pure t48
    refine wl_val (v_assign' (by conv => (lhs; whnf))) rfl ?_
    refine wl_nil ?_
    refine then_go ?_
    refine wc_cond rfl (fun h42 => ?_) (fun h42 => ?_)
    · refine wc_seq ?_
      refine wc_draw TF.mixed ?_
      have st := st.pure (touch_drew _)
      refine fl_val 0 rfl (fun _ => (v_move' (by conv => (lhs; whnf)))) rfl (by kernel_rfl) ?_
      refine fl_val 1 rfl (fun _ => (v_nil rfl)) rfl (by kernel_rfl) ?_
      refine fl_val 2 rfl (fun _ => (v_fa TF.f56_3 rfl)) rfl (by kernel_rfl) ?_
      refine fl_ld 3 rfl (v_load rfl (rdLp hm st)) (by kernel_rfl) ?_
      refine fl_val 4 rfl (fun _ => (v_move' (by conv => (lhs; whnf)))) rfl (by kernel_rfl) ?_
      refine fl_val 5 rfl (fun _ => (v_nil rfl)) rfl (by kernel_rfl) ?_
      refine fl_val 6 rfl (fun _ => (v_fa TF.f56_4 rfl)) rfl (by kernel_rfl) ?_
      refine fl_ld 7 rfl (v_load rfl (rdRp hm st)) (by kernel_rfl) ?_
      refine fl_val 8 rfl (fun _ => (v_move' (by conv => (lhs; whnf)))) rfl (by kernel_rfl) ?_
      refine fl_val 9 rfl (fun _ => (v_move' (by conv => (lhs; whnf)))) rfl (by kernel_rfl) ?_
      refine fl_val 10 rfl (fun _ => (v_add' rfl rfl rfl (by first | omega | (dsimp only at *; omega)) (by first | omega | (dsimp only at *; omega)))) rfl (by kernel_rfl) ?_
      refine fl_eff1 11 [9, 6, 5, 4, 2, 1, 0] [3] (by kernel_rfl) ⟨obl_ld rfl rfl rfl (v_load rfl (rdRp hm st)), obl_ld rfl rfl rfl (v_load rfl (rdLp hm st)), trivial⟩ rfl ?_
      refine wl_call rfl (ihb (d := d + 1) st.im hb hx hob hnb hhb) rfl ?_
      rintro v60 w ⟨t60, m1, hg1, hi1, q, rfl, hq⟩
      have st := st.grown hg1 t60 hi1
      have hm := hg1.le _ _ hm
      have ha := ha.mono hg1.le
      refine wl_nil ⟨rfl, ?_⟩
      refine fl_eff1 12 [9, 6, 5, 4, 2, 1, 0] [] (by kernel_rfl) ⟨obl_ld rfl rfl rfl (v_load rfl (rdLp hm st)), trivial⟩ rfl ?_
      refine wl_call rfl (c_fork st.im ha hq (by simp only [Tr.n] at hn; omega)) rfl ?_
      rintro v61 w ⟨t61, m2, hg2, hi2, q2, rfl, hq2⟩
      have st := st.grown hg2 t61 hi2
      have hm := hg2.le _ _ hm
      refine wl_nil ⟨rfl, ?_⟩
      refine fl_eff1 13 [] [] (by kernel_rfl) trivial rfl ?_
      refine wl_val (v_assign' (by conv => (lhs; whnf))) rfl ?_
      refine wl_nil ⟨rfl, ?_⟩
      refine fl_nil (by kernel_rfl) trivial ?_
      refine then_go ?_
      refine wc_ret (block_ret (then_ret ?_))
      exact ret1 rfl (st.out ⟨q2, rfl, by rw [Tr.put, if_pos h42]; exact hq2⟩)
    · refine wc_skip ?_
      refine block_go (then_go ?_)
      refine wc_seq ?_
      refine wc_draw TF.mixed ?_
      have st := st.pure (touch_drew _)
      refine fl_val 0 rfl (fun _ => (v_move' (by conv => (lhs; whnf)))) rfl (by kernel_rfl) ?_
      refine fl_val 1 rfl (fun _ => (v_nil rfl)) rfl (by kernel_rfl) ?_
      refine fl_val 2 rfl (fun _ => (v_fa TF.f56_3 rfl)) rfl (by kernel_rfl) ?_
      refine fl_ld 3 rfl (v_load rfl (rdLp hm st)) (by kernel_rfl) ?_
      refine fl_val 4 rfl (fun _ => (v_move' (by conv => (lhs; whnf)))) rfl (by kernel_rfl) ?_
      refine fl_val 5 rfl (fun _ => (v_move' (by conv => (lhs; whnf)))) rfl (by kernel_rfl) ?_
      refine fl_val 6 rfl (fun _ => (v_add' rfl rfl rfl (by first | omega | (dsimp only at *; omega)) (by first | omega | (dsimp only at *; omega)))) rfl (by kernel_rfl) ?_
      refine fl_val 8 rfl (fun _ => (v_move' (by conv => (lhs; whnf)))) rfl (by kernel_rfl) ?_
      refine fl_val 9 rfl (fun _ => (v_nil rfl)) rfl (by kernel_rfl) ?_
      refine fl_val 10 rfl (fun _ => (v_fa TF.f56_4 rfl)) rfl (by kernel_rfl) ?_
      refine fl_ld 11 rfl (v_load rfl (rdRp hm st)) (by kernel_rfl) ?_
      refine fl_eff1 7 [10, 9, 8, 5, 2, 1, 0] [11] (by kernel_rfl) ⟨obl_ld rfl rfl rfl (v_load rfl (rdRp hm st)), obl_ld rfl rfl rfl (v_load rfl (rdLp hm st)), trivial⟩ rfl ?_
      refine wl_call rfl (iha (d := d + 1) st.im ha hx hoa hna hha) rfl ?_
      rintro v60 w ⟨t60, m1, hg1, hi1, q, rfl, hq⟩
      have st := st.grown hg1 t60 hi1
      have hm := hg1.le _ _ hm
      have hb := hb.mono hg1.le
      refine wl_nil ⟨rfl, ?_⟩
      refine fl_eff1 12 [10, 9, 8, 5, 2, 1, 0] [] (by kernel_rfl) ⟨obl_ld rfl rfl rfl (v_load rfl (rdRp hm st)), trivial⟩ rfl ?_
      refine wl_call rfl (c_fork st.im hq hb (by simp only [Tr.n] at hn; omega)) rfl ?_
      rintro v61 w ⟨t61, m2, hg2, hi2, q2, rfl, hq2⟩
      have st := st.grown hg2 t61 hi2
      have hm := hg2.le _ _ hm
      refine wl_nil ⟨rfl, ?_⟩
      refine fl_eff1 13 [] [] (by kernel_rfl) trivial rfl ?_
      refine wl_val (v_assign' (by conv => (lhs; whnf))) rfl ?_
      refine wl_nil ⟨rfl, ?_⟩
      refine fl_nil (by kernel_rfl) trivial ?_
      refine then_go ?_
      refine wc_ret ?_
      exact ret1 rfl (st.out ⟨q2, rfl, by rw [Tr.put, if_neg (by rw [h42]; simp)]; exact hq2⟩)

theorem c_tput {t : Tr} {p : Nat} {m : Mem} {wI : World} (him : Im m wI) (h : TreeM m p t) (hj : j.length = 32) (hu : u.length = 32) (hok : t.ok) (hn : t.n < 4611686018427386) (hh : t.ht < 4611686018427386) :
    Ret Try.prog 21 #[ptrP p, arr j, arr u] wI fun v' w' => Out m wI w' fun m' => ∃ q, v' = ptrP q ∧ TreeM m' q (Tr.put j u t 0) := by
  have st := St.start him
  refine ret_of Try.call21 Try.func21 rfl Try.ntmps21 Try.results21 rfl ?_
  refine wc_seq ?_
  refine wc_region ?_
  refine wl_box (v := arr j) rfl st rfl ?_
  intro b4 w st
  refine wl_box (v := arr u) rfl st rfl ?_
  intro b5 w st
  refine wl_val (v_assign' (by conv => (lhs; whnf))) rfl ?_
  refine wl_nil ?_
  refine then_go ?_
  refine wc_seq ?_
  refine wc_region ?_
  refine wl_val (v_move' (by conv => (lhs; whnf))) rfl ?_
  refine wl_val (v_load rfl (st.reads 1 rfl TF.t24 (getV_all (by rw [size_arr, hj])))) rfl ?_
  refine wl_val (v_load rfl (st.reads 0 rfl TF.t24 (getV_all (by rw [size_arr, hu])))) rfl ?_
  refine wl_call rfl (c_tleaf st.im hj hu) rfl ?_
  rintro v10 w ⟨t10, m1, hg1, hi1, q, rfl, hq⟩
  have st := st.grown hg1 t10 hi1
  have h := h.mono hg1.le
  refine wl_call rfl (c_put (d := 0) st.im h hq hok hn (by omega)) rfl ?_
  rintro v11 w ⟨t11, m2, hg2, hi2, q2, rfl, hq2⟩
  have st := st.grown hg2 t11 hi2
  refine wl_val (v_assign' (by conv => (lhs; whnf))) rfl ?_
  refine wl_nil ?_
  refine then_go ?_
  refine wc_ret ?_
  exact ret1 rfl ((st.keepOnly (l := []) (List.nil_sublist _)).out ⟨q2, rfl, hq2⟩)
end
end Go.Proofs.Ytkbmhhbclbgdpaa
