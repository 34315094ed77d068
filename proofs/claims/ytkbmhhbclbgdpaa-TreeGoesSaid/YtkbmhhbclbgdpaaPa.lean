/-
  Bits of a digest: the program's and the reference's.
-/
import Derived.Test.YtkbmhhbclbgdpaaTb
namespace Go.Proofs.Ytkbmhhbclbgdpaa
open Go Go.RowKit K

abbrev By := List UInt8

namespace PT
def bitN (x j : Nat) : Bool := x.testBit j
/-- A digest's bit, the highest one of its first byte first. -/
def bit (d : By) (i : Nat) : Bool := (d.getD (i / 8) 0).toNat.testBit (7 - i % 8)
def bitI (d : By) (i : Int) : Bool := if 0 ≤ i ∧ i < 256 then bit d i.toNat else false
end PT
open PT

section
variable {P : Program} {r : Fr} {w : World} {ty : TypeId} {T U : TypeId} {x y : Operand}

theorem v_shr128 {k : IntKind} (j : Nat) (hx : ev r x = .int .u8 128) (hy : ev r y = .int k j) (hj : j < 8) : Val P (.binOp .shr T x y U) ty r w (.int .u8 (2 ^ (7 - j) : Nat)) w := by
  have h := v_shr (P := P) (w := w) (ty := ty) (T := T) (U := U) hx hy (by omega)
  have e : (128 : Int).fdiv (2 ^ (min ((j : Int).toNat) IntKind.u8.bits)) = ((2 ^ (7 - j) : Nat) : Int) := by
    rw [Int.toNat_natCast]
    match j, hj with
    | 0, _ => rfl
    | 1, _ => rfl
    | 2, _ => rfl
    | 3, _ => rfl
    | 4, _ => rfl
    | 5, _ => rfl
    | 6, _ => rfl
    | 7, _ => rfl
  rw [e] at h
  exact h

theorem v_and8 {a : UInt8} (n : Nat) (hn : n < 256) (hx : ev r x = u8 a) (hy : ev r y = .int .u8 n) : Val P (.binOp .and T x y U) ty r w (.int .u8 (a.toNat &&& n : Nat)) w := by
  have h := v_and (P := P) (w := w) (ty := ty) (T := T) (U := U) hx hy
  have ha := a.toNat_lt
  have e : IntKind.u8.wrap ((BitVec.ofInt IntKind.u8.bits (a.toNat : Int) &&& BitVec.ofInt IntKind.u8.bits (n : Int)).toNat) = ((a.toNat &&& n : Nat) : Int) := by
    rw [show IntKind.u8.bits = 8 from rfl, BitVec.ofInt_natCast, BitVec.ofInt_natCast, BitVec.toNat_and, BitVec.toNat_ofNat, BitVec.toNat_ofNat, Nat.mod_eq_of_lt (by omega), Nat.mod_eq_of_lt (by omega), wrap_u8, UInt8.toNat_ofNat', Nat.mod_eq_of_lt]
    exact Nat.lt_of_le_of_lt Nat.and_le_right hn
  rw [e] at h
  exact h

theorem and_bit (a j : Nat) : decide (¬ ((a &&& 2 ^ j : Nat) : Int) = 0) = a.testBit j := by
  cases h : a.testBit j with
  | false =>
    have e : a &&& 2 ^ j = 0 := by
      apply Nat.eq_of_testBit_eq
      intro i
      rw [Nat.testBit_and, Nat.testBit_two_pow, Nat.zero_testBit]
      by_cases hij : j = i
      · subst hij; simp [h]
      · simp [hij]
    simp [e]
  | true =>
    have e : a &&& 2 ^ j ≠ 0 := fun e => by
      have h2 : (a &&& 2 ^ j).testBit j = true := by rw [Nat.testBit_and, Nat.testBit_two_pow]; simp [h]
      rw [e, Nat.zero_testBit] at h2
      cases h2
    simp only [decide_eq_true_eq]
    omega

theorem getV_bsd {l : By} {o j : Nat} (ho : o = j) (hj : j < l.length) : getV false 1 (bs l).toArray o = some (u8 (l.getD j 0)) := by
  subst ho
  unfold getV
  simp [bs, List.getD, hj]
end

section
variable {m : Mem} {wI : World}

theorem c_bit {d : By} {i : Int} (him : Im m wI) (hd : d.length = 32) : Ret Try.prog 44 #[arr d, .int .i64 i] wI fun v w' => Tch wI w' [] [] ∧ v = .bool (bitI d i) := by
  have st := St.start him
  refine ret_of Try.call44 Try.func44 rfl Try.ntmps44 Try.results44 rfl ?_
  refine wc_seq ?_
  refine wc_region ?_
  refine wl_box (v := arr d) rfl st rfl ?_
  intro b2 w st
  refine wl_val (v_assign' (by conv => (lhs; whnf))) rfl ?_
  refine wl_nil ?_
  refine then_go ?_
  refine wc_seq ?_
  by_cases h0 : 0 ≤ i
  · obtain ⟨k, rfl⟩ := Int.eq_ofNat_of_zero_le h0
    by_cases h1 : k < 256
    · refine wc_draw TF.mixed ?_
      have st := st.pure (touch_drew _)
      refine fl_val 0 rfl (fun _ => (v_move' (by conv => (lhs; whnf)))) rfl (by kernel_rfl) ?_
      refine fl_val 1 rfl (fun _ => (v_geq rfl rfl)) rfl (by kernel_rfl) ?_
      rw [show decide ((0 : Int) ≤ (k : Int)) = true from decide_eq_true h0]
      refine fl_val 2 rfl (fun _ => (v_move' (by conv => (lhs; whnf)))) rfl (by kernel_rfl) ?_
      refine fl_on 3 rfl rfl rfl rfl (fun _ => (v_move' (by conv => (lhs; whnf)))) rfl (by kernel_rfl) ?_
      refine fl_on 4 rfl rfl rfl rfl (fun _ => (v_lss rfl rfl)) rfl (by kernel_rfl) ?_
      rw [show decide ((k : Int) < 256) = true from decide_eq_true (by omega)]
      refine fl_val 5 rfl (fun _ => (v_pick rfl)) rfl (by kernel_rfl) ?_
      refine fl_val 6 rfl (fun _ => (v_move' (by conv => (lhs; whnf)))) rfl (by kernel_rfl) ?_
      refine fl_on 7 rfl rfl rfl rfl (fun _ => (v_move' (by conv => (lhs; whnf)))) rfl (by kernel_rfl) ?_
      refine fl_on 8 rfl rfl rfl rfl (fun _ => (v_quo' (c := ((k / 8 : Nat) : Int)) rfl rfl (by omega) (by omega) (by omega) (by omega))) rfl (by kernel_rfl) ?_
      refine fl_on 9 rfl rfl rfl rfl (fun _ => (v_iaa (k / 8) Try.underlying24 TF.t5 rfl rfl (by first | rfl | omega) (by first | omega | (dsimp only at *; omega)))) rfl (by kernel_rfl) ?_
      refine fl_ond 10 rfl rfl rfl rfl (v_load rfl (st.reads (v := u8 (d.getD (k / 8) 0)) 0 rfl TF.t5 (getV_bsd (j := k / 8) (by omega) (by omega)))) rfl (by kernel_rfl) ?_
      refine fl_on 11 rfl rfl rfl rfl (fun _ => (v_move' (by conv => (lhs; whnf)))) rfl (by kernel_rfl) ?_
      refine fl_on 12 rfl rfl rfl rfl (fun _ => (v_rem' (c := ((k % 8 : Nat) : Int)) rfl rfl (by omega) (by omega) (by omega))) rfl (by kernel_rfl) ?_
      refine fl_on 13 rfl rfl rfl rfl (fun _ => (v_shr128 (k % 8) rfl rfl (by omega))) rfl (by kernel_rfl) ?_
      refine fl_on 14 rfl rfl rfl rfl (fun _ => (v_and8 (2 ^ (7 - k % 8)) (Nat.lt_of_le_of_lt (Nat.pow_le_pow_right (by decide) (Nat.sub_le _ _)) (by decide)) rfl rfl)) rfl (by kernel_rfl) ?_
      refine fl_on 15 rfl rfl rfl rfl (fun _ => (v_neq rfl rfl)) rfl (by kernel_rfl) ?_
      rw [and_bit]
      refine fl_val 16 rfl (fun _ => (v_pick rfl)) rfl (by kernel_rfl) ?_
      refine fl_eff1 17 [] [] (by kernel_rfl) ⟨obl_on rfl rfl rfl rfl rfl (v_load rfl (st.reads (v := u8 (d.getD (k / 8) 0)) 0 rfl TF.t5 (getV_bsd (j := k / 8) (by omega) (by omega)))), trivial⟩ rfl ?_
      refine wl_val (v_assign' (by conv => (lhs; whnf))) rfl ?_
      refine wl_nil ⟨rfl, ?_⟩
      refine fl_nil (by kernel_rfl) trivial ?_
      refine then_go ?_
      refine wc_ret ?_
      exact ret1 rfl ⟨(st.keepOnly (l := []) (List.nil_sublist _)).touch, by rw [bitI, if_pos ⟨h0, by omega⟩]; rfl⟩
    · refine wc_draw TF.mixed ?_
      have st := st.pure (touch_drew _)
      refine fl_val 0 rfl (fun _ => (v_move' (by conv => (lhs; whnf)))) rfl (by kernel_rfl) ?_
      refine fl_val 1 rfl (fun _ => (v_geq rfl rfl)) rfl (by kernel_rfl) ?_
      rw [show decide ((0 : Int) ≤ (k : Int)) = true from decide_eq_true h0]
      refine fl_val 2 rfl (fun _ => (v_move' (by conv => (lhs; whnf)))) rfl (by kernel_rfl) ?_
      refine fl_on 3 rfl rfl rfl rfl (fun _ => (v_move' (by conv => (lhs; whnf)))) rfl (by kernel_rfl) ?_
      refine fl_on 4 rfl rfl rfl rfl (fun _ => (v_lss rfl rfl)) rfl (by kernel_rfl) ?_
      rw [show decide ((k : Int) < 256) = false from decide_eq_false (by omega)]
      refine fl_val 5 rfl (fun _ => (v_pick rfl)) rfl (by kernel_rfl) ?_
      refine fl_val 6 rfl (fun _ => (v_move' (by conv => (lhs; whnf)))) rfl (by kernel_rfl) ?_
      refine fl_off 7 rfl rfl rfl rfl rfl rfl (by kernel_rfl) ?_
      refine fl_off 8 rfl rfl rfl rfl rfl rfl (by kernel_rfl) ?_
      refine fl_off 9 rfl rfl rfl rfl rfl rfl (by kernel_rfl) ?_
      refine fl_offd 10 rfl rfl rfl rfl rfl rfl (by kernel_rfl) ?_
      refine fl_off 11 rfl rfl rfl rfl rfl rfl (by kernel_rfl) ?_
      refine fl_off 12 rfl rfl rfl rfl rfl rfl (by kernel_rfl) ?_
      refine fl_off 13 rfl rfl rfl rfl rfl rfl (by kernel_rfl) ?_
      refine fl_off 14 rfl rfl rfl rfl rfl rfl (by kernel_rfl) ?_
      refine fl_off 15 rfl rfl rfl rfl rfl rfl (by kernel_rfl) ?_
      refine fl_val 16 rfl (fun _ => (v_pick rfl)) rfl (by kernel_rfl) ?_
      refine fl_eff1 17 [] [] (by kernel_rfl) ⟨obl_off rfl rfl rfl rfl rfl rfl, trivial⟩ rfl ?_
      refine wl_val (v_assign' (by conv => (lhs; whnf))) rfl ?_
      refine wl_nil ⟨rfl, ?_⟩
      refine fl_nil (by kernel_rfl) trivial ?_
      refine then_go ?_
      refine wc_ret ?_
      exact ret1 rfl ⟨(st.keepOnly (l := []) (List.nil_sublist _)).touch, by rw [bitI, if_neg (by omega)]; rfl⟩
  · refine wc_draw TF.mixed ?_
    have st := st.pure (touch_drew _)
    refine fl_val 0 rfl (fun _ => (v_move' (by conv => (lhs; whnf)))) rfl (by kernel_rfl) ?_
    refine fl_val 1 rfl (fun _ => (v_geq rfl rfl)) rfl (by kernel_rfl) ?_
    rw [show decide ((0 : Int) ≤ i) = false from decide_eq_false h0]
    refine fl_val 2 rfl (fun _ => (v_move' (by conv => (lhs; whnf)))) rfl (by kernel_rfl) ?_
    refine fl_off 3 rfl rfl rfl rfl rfl rfl (by kernel_rfl) ?_
    refine fl_off 4 rfl rfl rfl rfl rfl rfl (by kernel_rfl) ?_
    refine fl_val 5 rfl (fun _ => (v_pick rfl)) rfl (by kernel_rfl) ?_
    refine fl_val 6 rfl (fun _ => (v_move' (by conv => (lhs; whnf)))) rfl (by kernel_rfl) ?_
    refine fl_off 7 rfl rfl rfl rfl rfl rfl (by kernel_rfl) ?_
    refine fl_off 8 rfl rfl rfl rfl rfl rfl (by kernel_rfl) ?_
    refine fl_off 9 rfl rfl rfl rfl rfl rfl (by kernel_rfl) ?_
    refine fl_offd 10 rfl rfl rfl rfl rfl rfl (by kernel_rfl) ?_
    refine fl_off 11 rfl rfl rfl rfl rfl rfl (by kernel_rfl) ?_
    refine fl_off 12 rfl rfl rfl rfl rfl rfl (by kernel_rfl) ?_
    refine fl_off 13 rfl rfl rfl rfl rfl rfl (by kernel_rfl) ?_
    refine fl_off 14 rfl rfl rfl rfl rfl rfl (by kernel_rfl) ?_
    refine fl_off 15 rfl rfl rfl rfl rfl rfl (by kernel_rfl) ?_
    refine fl_val 16 rfl (fun _ => (v_pick rfl)) rfl (by kernel_rfl) ?_
    refine fl_eff1 17 [] [] (by kernel_rfl) ⟨obl_off rfl rfl rfl rfl rfl rfl, trivial⟩ rfl ?_
    refine wl_val (v_assign' (by conv => (lhs; whnf))) rfl ?_
    refine wl_nil ⟨rfl, ?_⟩
    refine fl_nil (by kernel_rfl) trivial ?_
    refine then_go ?_
    refine wc_ret ?_
    exact ret1 rfl ⟨(st.keepOnly (l := []) (List.nil_sublist _)).touch, by rw [bitI, if_neg (by omega)]; rfl⟩

theorem div_bit (x s : Nat) : decide (((x / 2 ^ s % 2 : Nat) : Int) = 1) = x.testBit s := by
  rw [Nat.testBit_eq_decide_div_mod_eq]
  exact decide_eq_decide.2 (by omega)

theorem c_rbit {d : By} {i : Int} (him : Im m wI) (hd : d.length = 32) : Ret Try.prog 30 #[arr d, .int .i64 i] wI fun v w' => Tch wI w' [] [] ∧ v = .bool (bitI d i) := by
  have st := St.start him
  refine ret_of Try.call30 Try.func30 rfl Try.ntmps30 Try.results30 rfl ?_
  refine wc_seq ?_
  refine wc_region ?_
  refine wl_box (v := arr d) rfl st rfl ?_
  intro b2 w st
  refine wl_val (v_assign' (by conv => (lhs; whnf))) rfl ?_
  refine wl_nil ?_
  refine then_go ?_
  refine wc_seq ?_
  refine wc_seq ?_
  refine wc_region ?_
  refine wl_val (v_move' (by conv => (lhs; whnf))) rfl ?_
  refine wl_val (v_lss rfl rfl) rfl ?_
  refine wl_val (v_move' (by conv => (lhs; whnf))) rfl ?_
  by_cases hg2 : i < 0
  · rw [show decide (i < 0) = true from decide_eq_true hg2]
    refine wl_off rfl rfl rfl rfl ?_
    refine wl_off rfl rfl rfl rfl ?_
    refine wl_val (v_pick rfl) rfl ?_
    refine wl_nil ?_
    refine then_go ?_
    refine wc_true rfl ?_
    refine wc_seq ?_
    refine wc_region ?_
    refine wl_val (v_assign' (by conv => (lhs; whnf))) rfl ?_
    refine wl_nil ?_
    refine then_go ?_
    refine wc_ret (then_ret ?_)
    exact ret1 rfl ⟨(st.keepOnly (l := []) (List.nil_sublist _)).touch, by rw [bitI, if_neg (by omega)]; rfl⟩
  · rw [show decide (i < 0) = false from decide_eq_false hg2]
    refine wl_on rfl rfl ?_
    refine wl_val (v_move' (by conv => (lhs; whnf))) rfl ?_
    refine wl_on rfl rfl ?_
    refine wl_val (v_gtr rfl rfl) rfl ?_
    refine wl_val (v_pick rfl) rfl ?_
    refine wl_nil ?_
    refine then_go ?_
    refine wc_if rfl (fun h12 => ?_) (fun h12 => ?_)
    · refine wc_seq ?_
      refine wc_region ?_
      refine wl_val (v_assign' (by conv => (lhs; whnf))) rfl ?_
      refine wl_nil ?_
      refine then_go ?_
      refine wc_ret (then_ret ?_)
      exact ret1 rfl ⟨(st.keepOnly (l := []) (List.nil_sublist _)).touch, by rw [bitI, if_neg (by omega)]; rfl⟩
    · refine wc_skip ?_
      refine then_go ?_
      refine wc_seq ?_
      obtain ⟨k, rfl⟩ := Int.eq_ofNat_of_zero_le (show 0 ≤ i by omega)
      have hk : k < 256 := by omega
      obtain ⟨x, hx⟩ : ∃ x, x = (d.getD (k / 8) 0).toNat := ⟨_, rfl⟩
      have hx256 : x < 256 := by rw [hx]; exact (d.getD (k / 8) 0).toNat_lt
      refine wc_region ?_
      refine wl_val (v_move' (by conv => (lhs; whnf))) rfl ?_
      refine wl_val (v_quo' (c := ((k / 8 : Nat) : Int)) rfl rfl (by omega) (by omega) (by omega) (by omega)) rfl ?_
      refine wl_val (v_iaa (k / 8) Try.underlying24 TF.t5 rfl rfl (by first | rfl | omega) (by first | omega | (dsimp only at *; omega))) rfl ?_
      refine wl_val (v_load rfl (st.reads (v := u8 (d.getD (k / 8) 0)) 0 rfl TF.t5 (getV_bsd (j := k / 8) (by omega) (by omega)))) rfl ?_
      refine wl_val (v_conv Try.underlying5 Try.underlying3 rfl) rfl ?_
      rw [← hx, wrap_i64 (by omega) (by omega)]
      refine wl_val (v_assign' (by conv => (lhs; whnf))) rfl ?_
      refine wl_nil ?_
      refine then_go ?_
      refine wc_seq ?_
      refine wc_seq ?_
      refine wc_region ?_
      refine wl_val (v_assign' (by conv => (lhs; whnf))) rfl ?_
      refine wl_nil ?_
      refine then_go ?_
      refine wc_block ?_
      refine wc_loop (S := Nat) (fun q r w' => ∃ j, q + j = 7 - k % 8 ∧ r 1 = .int .i64 k ∧ r 5 = .int .i64 (x / 2 ^ j : Nat) ∧ r 6 = .int .i64 (7 - j : Nat) ∧ St m m [] wI w' [K.blk b2 (arr d).cells 24]) id (7 - k % 8) ⟨0, rfl, rfl, by rw [Nat.pow_zero, Nat.div_one]; rfl, rfl, st⟩ ?_
      rintro q r w2 ⟨j, hqj, h1, h5, h6, st⟩
      refine wc_o 1 h1 (wc_o 5 h5 (wc_o 6 h6 ?_))
      refine wc_seq ?_
      refine wc_seq ?_
      refine wc_region ?_
      refine wl_val (v_move' (by conv => (lhs; whnf))) rfl ?_
      refine wl_val (v_move' (by conv => (lhs; whnf))) rfl ?_
      refine wl_val (v_rem' (c := ((k % 8 : Nat) : Int)) rfl rfl (by omega) (by omega) (by omega)) rfl ?_
      refine wl_val (v_gtr rfl rfl) rfl ?_
      refine wl_nil ?_
      refine then_go ?_
      refine wc_if rfl (fun h21 => ?_) (fun h21 => ?_)
      · refine wc_skip ?_
        refine then_go ?_
        refine wc_seq ?_
        refine wc_block ?_
        have hxj : x / 2 ^ j ≤ x := Nat.div_le_self _ _
        refine wc_region ?_
        refine wl_val (v_move' (by conv => (lhs; whnf))) rfl ?_
        refine wl_val (v_quo' (c := ((x / 2 ^ (j + 1) : Nat) : Int)) rfl rfl (Int.natCast_nonneg _) (by omega) (by rw [Nat.pow_succ, ← Nat.div_div_eq_div_mul]; rfl) (Int.le_trans (Int.ofNat_le.2 hxj) (by omega))) rfl ?_
        refine wl_val (v_assign' (by conv => (lhs; whnf))) rfl ?_
        refine wl_nil ?_
        refine block_go (then_go ?_)
        refine wc_region ?_
        refine wl_val (v_move' (by conv => (lhs; whnf))) rfl ?_
        refine wl_val (v_sub' (c := ((7 - (j + 1) : Nat) : Int)) rfl rfl (by omega) (by omega) (by omega)) rfl ?_
        refine wl_val (v_assign' (by conv => (lhs; whnf))) rfl ?_
        refine wl_nil ?_
        refine then_go ?_
        exact ⟨q - 1, by simp; omega, j + 1, by omega, rfl, rfl, rfl, st⟩
      · refine wc_exit (then_exit (then_exit (block_hit ?_)))
        refine then_go ?_
        refine wc_seq ?_
        have hj : j = 7 - k % 8 := by omega
        subst hj
        have hxj : x / 2 ^ (7 - k % 8) ≤ x := Nat.div_le_self _ _
        refine wc_region ?_
        refine wl_val (v_move' (by conv => (lhs; whnf))) rfl ?_
        refine wl_val (v_rem' (c := ((x / 2 ^ (7 - k % 8) % 2 : Nat) : Int)) rfl rfl (Int.natCast_nonneg _) (by omega) rfl) rfl ?_
        refine wl_val (v_eql rfl rfl) rfl ?_
        rw [div_bit]
        refine wl_val (v_assign' (by conv => (lhs; whnf))) rfl ?_
        refine wl_nil ?_
        refine then_go ?_
        refine wc_ret ?_
        exact ret1 rfl ⟨(st.keepOnly (l := []) (List.nil_sublist _)).touch, by rw [bitI, if_pos (by omega)]; unfold bit; rw [hx]; rfl⟩
end
end Go.Proofs.Ytkbmhhbclbgdpaa
