/-
  TreeGoes answers true: the leaves are gone over in their order.
-/
import Derived.Test.YtkbmhhbclbgdpaaUv
import Derived.Test.YtkbmhhbclbgdpaaZb
namespace Go.Proofs.Ytkbmhhbclbgdpaa
open Go Go.RowKit K SH PT

theorem v_eq_nilfunc {P : Program} {r : Fr} {w : World} {ty : TypeId} {T U : TypeId} {x y : Operand} {ps rs : Array TypeId} {vd : Bool} {f : Fn} {a b : Array Value} (hT : P.underlying T = some (.func ps rs vd)) (hx : ev r x = .func f a b) (hy : ev r y = .nilFunc) : Val P (.binOp .eql T x y U) ty r w (.bool false) w := by
  intro _ _ _ _
  have h : (Op.equal T (.func f a b) .nilFunc).run P w = .ok false w := by
    unfold Op.equal
    rw [show Op.maxDepth = 9999 + 1 from rfl, Op.equalIn]
    simp only [Sem.run_bind, run_underlying hT, Result.andThen_ok]
    rfl
  simp [execOp, eqGuard, binOp, hx, hy, h]

namespace Tr
/-- The leaves, from left to right. -/
def walk : Tr → List (By × By)
  | .e => []
  | .l i v => [(i, v)]
  | .f a b => a.walk ++ b.walk
theorem length_walk : ∀ t : Tr, t.walk.length = t.n
  | .e => rfl
  | .l _ _ => rfl
  | .f a b => by rw [walk, n, List.length_append, length_walk a, length_walk b]
end Tr

/-- Leaves by rising indexes. -/
def Up (L : List (By × By)) : Prop := L.Pairwise fun x y => lt x.1 y.1 = true

theorem nat_lt_bits {a b i : Nat} (ha : a.testBit i = false) (hb : b.testBit i = true) (h : ∀ j, i < j → a.testBit j = b.testBit j) : a < b := by
  have e : a / 2 ^ (i + 1) = b / 2 ^ (i + 1) := by
    refine Nat.eq_of_testBit_eq fun j => ?_
    rw [Nat.testBit_div_two_pow, Nat.testBit_div_two_pow]
    exact h _ (by omega)
  have h1 := Nat.div_add_mod a (2 ^ (i + 1))
  have h2 := Nat.div_add_mod b (2 ^ (i + 1))
  rw [e] at h1
  have ka : a % 2 ^ (i + 1) < 2 ^ i := by
    refine Nat.lt_pow_two_of_testBit _ fun j hj => ?_
    rw [Nat.testBit_mod_two_pow]
    by_cases hji : j = i
    · subst hji; simp [ha]
    · rw [decide_eq_false (by omega)]; rfl
  have kb : 2 ^ i ≤ b % 2 ^ (i + 1) := by
    refine Nat.ge_two_pow_of_testBit ?_
    rw [Nat.testBit_mod_two_pow]
    simp [hb]
  omega

theorem lt_of_bits {a b : By} {d : Nat} (ha : a.length = 32) (hb : b.length = 32) (h : ∀ k, k < d → bit a k = bit b k) (hd : d < 256) (h0 : bit a d = false) (h1 : bit b d = true) : lt a b = true := by
  have hbyte : ∀ i, i < d / 8 → a.getD i 0 = b.getD i 0 := fun i hi => by
    rw [← UInt8.toNat_inj]
    refine Nat.eq_of_testBit_eq fun j => ?_
    by_cases hj : j < 8
    · have := h (8 * i + (7 - j)) (by omega)
      unfold bit at this
      rw [show (8 * i + (7 - j)) / 8 = i by omega, show 7 - (8 * i + (7 - j)) % 8 = j by omega] at this
      exact this
    · have e1 : (a.getD i 0).toNat < 2 ^ j := Nat.lt_of_lt_of_le (a.getD i 0).toNat_lt (Nat.pow_le_pow_right (by omega) (by omega : 8 ≤ j))
      have e2 : (b.getD i 0).toNat < 2 ^ j := Nat.lt_of_lt_of_le (b.getD i 0).toNat_lt (Nat.pow_le_pow_right (by omega) (by omega : 8 ≤ j))
      rw [Nat.testBit_lt_two_pow e1, Nat.testBit_lt_two_pow e2]
  have hlt : (a.getD (d / 8) 0).toNat < (b.getD (d / 8) 0).toNat := by
    refine nat_lt_bits (i := 7 - d % 8) ?_ ?_ fun j hj => ?_
    · exact h0
    · exact h1
    · by_cases hj8 : j < 8
      · have := h (8 * (d / 8) + (7 - j)) (by omega)
        unfold bit at this
        rw [show (8 * (d / 8) + (7 - j)) / 8 = d / 8 by omega, show 7 - (8 * (d / 8) + (7 - j)) % 8 = j by omega] at this
        exact this
      · have e1 : (a.getD (d / 8) 0).toNat < 2 ^ j := Nat.lt_of_lt_of_le (a.getD (d / 8) 0).toNat_lt (Nat.pow_le_pow_right (by omega) (by omega : 8 ≤ j))
        have e2 : (b.getD (d / 8) 0).toNat < 2 ^ j := Nat.lt_of_lt_of_le (b.getD (d / 8) 0).toNat_lt (Nat.pow_le_pow_right (by omega) (by omega : 8 ≤ j))
        rw [Nat.testBit_lt_two_pow e1, Nat.testBit_lt_two_pow e2]
  have key : ∀ k, k ≤ d / 8 → lt a b = lt (a.drop k) (b.drop k) := by
    intro k
    induction k with
    | zero => intro _; rfl
    | succ k ih =>
      intro hk
      rw [ih (by omega), lt_step (by omega) (by omega), if_pos (hbyte k (by omega))]
  rw [key _ (Nat.le_refl _), lt_step (by omega) (by omega), if_neg (fun e => by rw [e] at hlt; omega)]
  exact decide_eq_true hlt

theorem lt_irrefl : ∀ a : By, lt a a = false
  | [] => rfl
  | x :: a => by rw [lt, if_pos rfl, lt_irrefl a]
theorem lt_trans : ∀ {a b c : By}, lt a b = true → lt b c = true → lt a c = true
  | [], _, _, h, _ => by simp [lt] at h
  | _ :: _, [], _, h, _ => by simp [lt] at h
  | _ :: _, _ :: _, [], _, h => by simp [lt] at h
  | x :: a, y :: b, z :: c, h1, h2 => by
    rw [lt] at h1 h2 ⊢
    by_cases e1 : x = y
    · by_cases e2 : y = z
      · rw [if_pos e1] at h1; rw [if_pos e2] at h2; rw [if_pos (e1.trans e2)]; exact lt_trans h1 h2
      · rw [if_neg e2] at h2; subst e1; rw [if_neg e2]; exact h2
    · rw [if_neg e1] at h1
      have h1' : x.toNat < y.toNat := by simpa using h1
      by_cases e2 : y = z
      · subst e2; rw [if_neg e1]; exact h1
      · rw [if_neg e2] at h2
        have h2' : y.toNat < z.toNat := by simpa using h2
        rw [if_neg (fun e => by rw [e] at h1'; omega)]
        exact decide_eq_true (by omega)
theorem lt_total : ∀ {a b : By}, a.length = b.length → a ≠ b → lt a b = false → lt b a = true
  | [], [], _, h, _ => (h rfl).elim
  | [], _ :: _, h, _, _ => by simp at h
  | _ :: _, [], h, _, _ => by simp at h
  | x :: a, y :: b, hl, hne, h => by
    rw [lt] at h ⊢
    by_cases e : x = y
    · rw [if_pos e] at h
      rw [if_pos e.symm]
      exact lt_total (by simpa using hl) (fun e2 => hne (by rw [e, e2])) h
    · rw [if_neg e] at h
      rw [if_neg (fun e2 => e e2.symm)]
      have : ¬ x.toNat < y.toNat := by simpa using h
      have hn : x.toNat ≠ y.toNat := fun e2 => e (UInt8.toNat_inj.mp e2)
      exact decide_eq_true (by omega)

theorem canon_walk : ∀ {g d : Nat} {L : List (By × By)}, g + d = 256 → Dst d L → List.Perm (canon g d L).walk L ∧ Up (canon g d L).walk
  | _, _, [], _, _ => by rw [canon_nil]; exact ⟨List.Perm.refl _, by simp [Tr.walk, Up]⟩
  | _, _, [_], _, _ => by rw [canon_one]; exact ⟨List.Perm.refl _, by simp [Tr.walk, Up]⟩
  | 0, d, x :: y :: l, hg, h => by rw [Nat.zero_add] at hg; subst hg; exact h.two.elim
  | g + 1, d, x :: y :: l, hg, h => by
    have hd : d < 256 := by omega
    obtain ⟨p0, u0⟩ := canon_walk (g := g) (d := d + 1) (by omega) (h.half hd false)
    obtain ⟨p1, u1⟩ := canon_walk (g := g) (d := d + 1) (by omega) (h.half hd true)
    rw [canon, Tr.walk]
    refine ⟨(p0.append p1).trans ?_, List.pairwise_append.2 ⟨u0, u1, fun u hu v hv => ?_⟩⟩
    · have e : halfL (x :: y :: l) d false = (x :: y :: l).filter fun z => !bitI z.1 d := List.filter_congr fun z _ => by simp
      have e2 : halfL (x :: y :: l) d true = (x :: y :: l).filter fun z => bitI z.1 d := List.filter_congr fun z _ => by simp
      rw [e, e2]
      exact List.perm_append_comm.trans (List.filter_append_perm _ _)
    · obtain ⟨hu1, hu2⟩ := (mem_half hd).1 (p0.mem_iff.1 hu)
      obtain ⟨hv1, hv2⟩ := (mem_half hd).1 (p1.mem_iff.1 hv)
      exact lt_of_bits (h.len u hu1) (h.len v hv1) (h.agree u hu1 v hv1) hd hu2 hv2

theorem up_eq {L M : List (By × By)} (hL : Up L) (hM : Up M) (h : List.Perm L M) : L = M := by
  unfold Up at hL hM
  refine List.Perm.eq_of_pairwise (fun a b _ _ h1 h2 => ?_) hL hM h
  have := lt_trans h1 h2
  rw [lt_irrefl] at this
  cases this

theorem up_putG {x v : By} (hx : x.length = 32) : ∀ {L : List (By × By)} {b : Bool}, Up L → (∀ y ∈ L, y.1.length = 32) → (b = true → ∀ y ∈ L, y.1 = x ∨ lt x y.1 = true) → Up (putG x v L b) ∧ ∀ y ∈ putG x v L b, y.1 = x ∨ ∃ z ∈ L, y.1 = z.1
  | [], b, _, _, _ => by
    cases b
    · simp [putG, Up]
    · simp [putG, Up]
  | e :: l, b, hU, h32, hb => by
    have hU1 := (List.pairwise_cons.1 hU).1
    have hU2 := (List.pairwise_cons.1 hU).2
    have he := h32 e (by simp)
    have hl32 : ∀ y ∈ l, y.1.length = 32 := fun y hy => h32 y (by simp [hy])
    have hnext : (b || !lt e.1 x) = true → ∀ y ∈ l, y.1 = x ∨ lt x y.1 = true := by
      intro h y hy
      have hey := hU1 y hy
      cases b
      · simp only [Bool.false_or, Bool.not_eq_true'] at h
        by_cases e1 : e.1 = x
        · right; rw [← e1]; exact hey
        · right; exact lt_trans (lt_total (by omega) e1 h) hey
      · rcases hb rfl e (by simp) with e1 | e1
        · right; rw [← e1]; exact hey
        · right; exact lt_trans e1 hey
    obtain ⟨ih1, ih2⟩ := up_putG (v := v) hx (L := l) (b := b || !lt e.1 x) hU2 hl32 hnext
    have hsub : ∀ y ∈ putG x v (e :: l) b, y.1 = x ∨ ∃ z ∈ (e :: l), y.1 = z.1 := by
      intro y hy
      rcases mem_putG hy with rfl | h
      · exact .inl rfl
      · exact .inr ⟨y, h, rfl⟩
    refine ⟨?_, hsub⟩
    rw [putG]
    -- what follows e is above it
    have habove : ∀ y ∈ putG x v l (b || !lt e.1 x), lt e.1 y.1 = true ∨ (y.1 = x ∧ (b || !lt e.1 x) = false) := by
      intro y hy
      rcases ih2 y hy with h | ⟨z, hz, h⟩
      · by_cases hf : (b || !lt e.1 x) = false
        · exact .inr ⟨h, hf⟩
        · have ht : (b || !lt e.1 x) = true := by
            cases hq : (b || !lt e.1 x)
            · exact (hf hq).elim
            · rfl
          have hp := (putG_perm (x := x) (v := v) l (b || !lt e.1 x)).mem_iff.1 hy
          rw [ht] at hp
          simp only [if_true, List.nil_append, List.mem_filter, decide_eq_true_eq] at hp
          exact (hp.2 h).elim
      · left; rw [h]; exact hU1 z hz
    have hrest : Up ((if e.1 = x then [] else [e]) ++ putG x v l (b || !lt e.1 x)) := by
      by_cases e1 : e.1 = x
      · rw [if_pos e1]; exact ih1
      · rw [if_neg e1]
        refine List.pairwise_cons.2 ⟨fun y hy => ?_, ih1⟩
        rcases habove y hy with h | ⟨h, hf⟩
        · exact h
        · rw [h]
          cases b <;> simp_all
    by_cases hc : b = false ∧ lt e.1 x = false
    · rw [if_pos hc, List.singleton_append]
      refine List.pairwise_cons.2 ⟨fun y hy => ?_, hrest⟩
      have hbt : (b || !lt e.1 x) = true := by rw [hc.1, hc.2]; rfl
      rcases List.mem_append.1 hy with hy | hy
      · by_cases e1 : e.1 = x
        · rw [if_pos e1] at hy; simp at hy
        · rw [if_neg e1] at hy
          simp only [List.mem_singleton] at hy
          rw [hy]
          exact lt_total (a := e.1) (b := x) (by omega) e1 hc.2
      · have hp := (putG_perm (x := x) (v := v) l (b || !lt e.1 x)).mem_iff.1 hy
        rw [hbt] at hp
        simp only [if_true, List.nil_append, List.mem_filter, decide_eq_true_eq] at hp
        exact (hnext hbt y hp.1).resolve_left hp.2
    · rw [if_neg hc]
      exact hrest

theorem up_ofLv : ∀ {Z : List (By × By)}, D32p Z → Up (ofLv Z) := by
  intro Z
  induction h : Z.length generalizing Z with
  | zero => have := List.eq_nil_of_length_eq_zero h; subst this; intro _; simp [ofLv, Up]
  | succ k ih =>
    intro h32
    have hne : Z ≠ [] := by intro e; subst e; simp at h
    rw [← List.dropLast_concat_getLast hne, ofLv_snoc]
    have hl := h32 _ (List.getLast_mem hne)
    have hd : D32p Z.dropLast := fun x hx => h32 x ((List.dropLast_sublist Z).subset hx)
    exact (up_putG hl.1 (ih (by simp [h]) hd) (fun y hy => (ofLv_d32 hd y hy).1) (fun h => by cases h)).1

theorem walk_treeOf {L : List (By × By)} (h : Dst 0 L) (hU : Up L) : (treeOf L).walk = L := by
  obtain ⟨h1, h2⟩ := canon_walk (g := 256) (d := 0) (by omega) h
  exact up_eq h2 hU h1

section
variable {l : Nat} {items : List (By × By)} {J : Nat → World → Prop} {Jx : World → Prop} {m1 : Mem}

theorem c_walk (him : ∀ i W, J i W → Im m1 W) (hdr : ∀ i W, J i W → J i W.drew)
    (hy : ∀ i W x, items[i]? = some x → J i W → YieldR Try.prog l [arr x.1, arr x.2] W fun v W' => (v = .bool true ∧ J (i + 1) W') ∨ (v = .bool false ∧ Jx W')) :
    ∀ {t : Tr} {p i : Nat} {W : World}, TreeM m1 p t → t.ok → (∀ (k : Nat) (x : By × By), t.walk[k]? = some x → items[i + k]? = some x) → J i W →
    Ret Try.prog 34 #[ptrP p, .func (.yield l) #[] #[]] W fun v W' => (v = .bool true ∧ J (i + t.n) W') ∨ (v = .bool false ∧ Jx W') := by
  intro t
  induction t with
  | e =>
    intro p i W h _ _ hJ
    have st := St.start (him _ _ hJ)
    refine ret_of Try.call34 Try.func34 rfl Try.ntmps34 Try.results34 rfl ?_
    refine wc_seq ?_
    refine wc_region ?_
    refine wl_val (v_assign' (by conv => (lhs; whnf))) rfl ?_
    refine wl_nil ?_
    refine then_go ?_
    refine wc_seq ?_
    refine wc_seq ?_
    refine wc_region ?_
    refine wl_val (v_move' (by conv => (lhs; whnf))) rfl ?_
    refine wl_val (v_nil rfl) rfl ?_
    refine wl_val (v_fa TF.f56_0 rfl) rfl ?_
    refine wl_val (v_load rfl (h.rdN st)) rfl ?_
    refine wl_val (v_eqlF (a := ((Tr.n .e : Nat) : Int)) (by simp [Tr.n]) rfl rfl) rfl ?_
    refine wl_nil ?_
    refine then_go ?_
    refine wc_false rfl ?_
    refine wc_skip ?_
    refine then_go ?_
    refine wc_seq ?_
    refine wc_region ?_
    refine wl_val (v_move' (by conv => (lhs; whnf))) rfl ?_
    refine wl_val (v_nil rfl) rfl ?_
    refine wl_val (v_fa TF.f56_0 rfl) rfl ?_
    refine wl_val (v_load rfl (h.rdN st)) rfl ?_
    refine wl_val (v_eqlT (a := ((Tr.n .e : Nat) : Int)) rfl rfl rfl) rfl ?_
    refine wl_val (v_move' (by conv => (lhs; whnf))) rfl ?_
    refine wl_off rfl rfl rfl rfl ?_
    refine wl_off rfl rfl rfl rfl ?_
    refine wl_off rfl rfl rfl rfl ?_
    refine wl_off rfl rfl rfl rfl ?_
    refine wl_off rfl rfl rfl rfl ?_
    refine wl_off rfl rfl rfl rfl ?_
    refine wl_off rfl rfl rfl rfl ?_
    refine offU rfl rfl rfl ?_
    refine offU rfl rfl rfl ?_
    refine offU rfl rfl rfl ?_
    refine offU rfl rfl rfl ?_
    refine offU rfl rfl rfl ?_
    refine offU rfl rfl rfl ?_
    refine wl_off rfl rfl rfl rfl ?_
    refine wl_val (v_pick rfl) rfl ?_
    refine wl_val (v_assign' (by conv => (lhs; whnf))) rfl ?_
    refine wl_nil ?_
    refine then_go ?_
    refine wc_ret ?_
    exact ret1 rfl (.inl ⟨rfl, hJ⟩)
  | l iv vv =>
    intro p i W h _ hw hJ
    have st := St.start (him _ _ hJ)
    have hit : items[i]? = some (iv, vv) := by have := hw 0 (iv, vv) rfl; simpa using this
    refine ret_of Try.call34 Try.func34 rfl Try.ntmps34 Try.results34 rfl ?_
    refine wc_seq ?_
    refine wc_region ?_
    refine wl_val (v_assign' (by conv => (lhs; whnf))) rfl ?_
    refine wl_nil ?_
    refine then_go ?_
    refine wc_seq ?_
    refine wc_seq ?_
    refine wc_region ?_
    refine wl_val (v_move' (by conv => (lhs; whnf))) rfl ?_
    refine wl_val (v_nil rfl) rfl ?_
    refine wl_val (v_fa TF.f56_0 rfl) rfl ?_
    refine wl_val (v_load rfl (h.rdN st)) rfl ?_
    refine wl_val (v_eqlT (a := ((Tr.n (.l iv vv) : Nat) : Int)) rfl rfl rfl) rfl ?_
    refine wl_nil ?_
    refine then_go ?_
    refine wc_true rfl ?_
    refine wc_seq ?_
    refine wc_drawI TF.mixed ?_
    have st := st.pure (touch_drew _)
    refine fli_val 0 rfl (fun _ => (v_move' (by conv => (lhs; whnf)))) rfl (by kernel_rfl) ?_
    refine fli_val 1 rfl (fun _ => (v_move' (by conv => (lhs; whnf)))) rfl (by kernel_rfl) ?_
    refine fli_val 2 rfl (fun _ => (v_nil rfl)) rfl (by kernel_rfl) ?_
    refine fli_val 3 rfl (fun _ => (v_fa TF.f56_1 rfl)) rfl (by kernel_rfl) ?_
    refine fli_ld 4 rfl (v_load rfl (h.rdI st)) (by kernel_rfl) ?_
    refine fli_val 5 rfl (fun _ => (v_move' (by conv => (lhs; whnf)))) rfl (by kernel_rfl) ?_
    refine fli_val 6 rfl (fun _ => (v_nil rfl)) rfl (by kernel_rfl) ?_
    refine fli_val 7 rfl (fun _ => (v_fa TF.f56_2 rfl)) rfl (by kernel_rfl) ?_
    refine fli_ld 8 rfl (v_load rfl (h.rdV st)) (by kernel_rfl) ?_
    refine fli_eff1 9 [7, 6, 5, 3, 2, 1] [] (by kernel_rfl) ⟨obl_ld rfl rfl rfl (v_load rfl (h.rdV st)), obl_ld rfl rfl rfl (v_load rfl (h.rdI st)), trivial⟩ rfl ?_
    refine wli_yield rfl rfl (hy i _ (iv, vv) hit (hdr _ _ hJ)) rfl ?_
    intro v19 w hR
    refine wli_nil ⟨rfl, ?_⟩
    refine fli_eff1 10 [] [] (by kernel_rfl) trivial rfl ?_
    refine wli_val (v_assign' (by conv => (lhs; whnf))) rfl ?_
    refine wli_nil ⟨rfl, ?_⟩
    refine fli_nil (by kernel_rfl) trivial ?_
    refine then_go ?_
    refine wc_ret (then_ret ?_)
    exact ret1 rfl hR
  | f a b iha ihb =>
    intro p i W h hok hw hJ
    have st := St.start (him _ _ hJ)
    obtain ⟨h2, hoa, hob⟩ := hok.fork
    obtain ⟨pa, pb, ha, hb, hm⟩ := h.fork
    have hwa : ∀ k x, a.walk[k]? = some x → items[i + k]? = some x := fun k x hk => by
      have hlt : k < a.walk.length := by
        rcases Nat.lt_or_ge k a.walk.length with h' | h'
        · exact h'
        · rw [List.getElem?_eq_none h'] at hk; cases hk
      exact hw k x (by rw [Tr.walk, List.getElem?_append_left hlt]; exact hk)
    have hwb : ∀ k x, b.walk[k]? = some x → items[i + a.n + k]? = some x := fun k x hk => by
      have := hw (a.n + k) x (by rw [Tr.walk, List.getElem?_append_right (by rw [Tr.length_walk]; omega), Tr.length_walk, Nat.add_sub_cancel_left]; exact hk)
      rw [← Nat.add_assoc] at this
      exact this
    refine ret_of Try.call34 Try.func34 rfl Try.ntmps34 Try.results34 rfl ?_
    refine wc_seq ?_
    refine wc_region ?_
    refine wl_val (v_assign' (by conv => (lhs; whnf))) rfl ?_
    refine wl_nil ?_
    refine then_go ?_
    refine wc_seq ?_
    refine wc_seq ?_
    refine wc_region ?_
    refine wl_val (v_move' (by conv => (lhs; whnf))) rfl ?_
    refine wl_val (v_nil rfl) rfl ?_
    refine wl_val (v_fa TF.f56_0 rfl) rfl ?_
    refine wl_val (v_load rfl (h.rdN st)) rfl ?_
    refine wl_val (v_eqlF (a := ((Tr.n (.f a b) : Nat) : Int)) (by simp only [Tr.n]; omega) rfl rfl) rfl ?_
    refine wl_nil ?_
    refine then_go ?_
    refine wc_false rfl ?_
    refine wc_skip ?_
    refine then_go ?_
    refine wc_seq ?_
    refine wc_region ?_
    refine wl_val (v_move' (by conv => (lhs; whnf))) rfl ?_
    refine wl_val (v_nil rfl) rfl ?_
    refine wl_val (v_fa TF.f56_0 rfl) rfl ?_
    refine wl_val (v_load rfl (h.rdN st)) rfl ?_
    refine wl_val (v_eqlF (a := ((Tr.n (.f a b) : Nat) : Int)) (by simp only [Tr.n]; omega) rfl rfl) rfl ?_
    refine wl_val (v_move' (by conv => (lhs; whnf))) rfl ?_
    refine wl_on rfl rfl ?_
    refine wl_val (v_move' (by conv => (lhs; whnf))) rfl ?_
    refine wl_on rfl rfl ?_
    refine wl_val (v_nil rfl) rfl ?_
    refine wl_on rfl rfl ?_
    refine wl_val (v_fa TF.f56_3 rfl) rfl ?_
    refine wl_on rfl rfl ?_
    refine wl_val (v_load rfl (rdLp hm st)) rfl ?_
    refine wl_on rfl rfl ?_
    refine wl_val (v_move' (by conv => (lhs; whnf))) rfl ?_
    refine wl_on rfl rfl ?_
    refine wl_call rfl (iha ha hoa hwa hJ) rfl ?_
    intro v31 w hR
    obtain ⟨bb, rfl, hb1, hb2⟩ : ∃ bb : Bool, v31 = .bool bb ∧ (bb = true → J (i + a.n) w) ∧ (bb = false → Jx w) := by
      rcases hR with ⟨rfl, h⟩ | ⟨rfl, h⟩
      · exact ⟨true, rfl, fun _ => h, (fun h2 => by cases h2)⟩
      · exact ⟨false, rfl, (fun h2 => by cases h2), fun _ => h⟩
    refine wl_on rfl rfl ?_
    refine wl_val (v_move' (by conv => (lhs; whnf))) rfl ?_
    rcases Bool.eq_false_or_eq_true (bb) with hg12 | hg12
    · rw [hg12]
      first
        | (have hJ := hb1 hg12
           have st := St.start (him _ _ hJ))
        | skip
      refine wl_on rfl rfl ?_
      refine wl_val (v_move' (by conv => (lhs; whnf))) rfl ?_
      refine wl_on rfl rfl ?_
      refine wl_val (v_nil rfl) rfl ?_
      refine wl_on rfl rfl ?_
      refine wl_val (v_fa TF.f56_4 rfl) rfl ?_
      refine wl_on rfl rfl ?_
      refine wl_val (v_load rfl (rdRp hm st)) rfl ?_
      refine wl_on rfl rfl ?_
      refine wl_val (v_move' (by conv => (lhs; whnf))) rfl ?_
      refine wl_on rfl rfl ?_
      refine wl_call rfl (ihb hb hob hwb hJ) rfl ?_
      intro v38 w hR
      refine wl_on rfl rfl ?_
      refine wl_val (v_pick rfl) rfl ?_
      refine wl_val (v_pick rfl) rfl ?_
      refine wl_val (v_assign' (by conv => (lhs; whnf))) rfl ?_
      refine wl_nil ?_
      refine then_go ?_
      refine wc_ret ?_
      refine ret1 rfl ?_
      rw [Tr.n, ← Nat.add_assoc]
      exact hR
    · rw [hg12]
      first
        | (have hJ := hb1 hg12
           have st := St.start (him _ _ hJ))
        | skip
      refine wl_off rfl rfl rfl rfl ?_
      refine wl_off rfl rfl rfl rfl ?_
      refine wl_off rfl rfl rfl rfl ?_
      refine wl_off rfl rfl rfl rfl ?_
      refine wl_off rfl rfl rfl rfl ?_
      refine wl_off rfl rfl rfl rfl ?_
      refine wl_on rfl rfl ?_
      refine wl_val (v_pick rfl) rfl ?_
      refine wl_val (v_pick rfl) rfl ?_
      refine wl_val (v_assign' (by conv => (lhs; whnf))) rfl ?_
      refine wl_nil ?_
      refine then_go ?_
      refine wc_ret ?_
      exact ret1 rfl (.inr ⟨rfl, hb2 hg12⟩)

theorem c_all1 {t : Tr} {p b1 : Nat} {W : World} (him : ∀ i W, J i W → Im m1 W) (hdr : ∀ i W, J i W → J i W.drew)
    (hy : ∀ i W x, items[i]? = some x → J i W → YieldR Try.prog l [arr x.1, arr x.2] W fun v W' => (v = .bool true ∧ J (i + 1) W') ∨ (v = .bool false ∧ Jx W'))
    (h : TreeM m1 p t) (hok : t.ok) (hw : ∀ (k : Nat) (x : By × By), t.walk[k]? = some x → items[k]? = some x) (hJ : J 0 W) (hrd : Reads Try.prog W 27 ⟨b1, 0, none⟩ (ptrP p)) :
    Ret Try.prog 33 #[.func (.yield l) #[] #[], .pointer (some ⟨b1, 0, none⟩)] W fun _ W' => J t.n W' ∨ Jx W' := by
  refine ret_of Try.call33 Try.func33 rfl Try.ntmps33 Try.results33 rfl ?_
  refine wc_region ?_
  refine wl_val (v_load rfl hrd) rfl ?_
  refine wl_val (v_move' (by conv => (lhs; whnf))) rfl ?_
  refine wl_call rfl (c_walk him hdr hy h hok (i := 0) (fun k x hk => by rw [Nat.zero_add]; exact hw k x hk) hJ) rfl ?_
  intro v5 w hR
  refine wl_nil ?_
  refine end0 ?_
  rcases hR with ⟨_, h⟩ | ⟨_, h⟩
  · rw [Nat.zero_add] at h; exact .inl h
  · exact .inr h
end

section
variable {m : Mem} {wI : World}

theorem c_all {p : Nat} (him : Im m wI) : Ret Try.prog 22 #[ptrP p] wI fun v w' => ∃ b, v = .func (.func 33) #[] #[.pointer (some ⟨b, 0, none⟩)] ∧ Tch wI w' [] [b] ∧ (K.blk b #[ptrP p] 27).holds w' := by
  have st := St.start him
  refine ret_of Try.call22 Try.func22 rfl Try.ntmps22 Try.results22 rfl ?_
  refine wc_seq ?_
  refine wc_region ?_
  refine wl_box (v := ptrP p) rfl st rfl ?_
  intro b1 w st
  refine wl_val (v_assign' (by conv => (lhs; whnf))) rfl ?_
  refine wl_nil ?_
  refine then_go ?_
  refine wc_seq ?_
  refine wc_region ?_
  refine wl_val (v_mkfunc rfl rfl) rfl ?_
  refine wl_val (v_assign' (by conv => (lhs; whnf))) rfl ?_
  refine wl_nil ?_
  refine then_go ?_
  refine wc_ret ?_
  have hf := (St.finish (Es := []) (l := [_]) st).1
  exact ret1 rfl ⟨b1, rfl, ⟨hf.os, hf.tape, hf.output, hf.size, hf.block, fun k hk => hf.out k (by simpa [joinE, K.blk] using hk)⟩, st.at (i := 0) rfl⟩

theorem c_f8 {va vv : Value} {A V : List By} {z : Int} (him : Im m wI) (ha : DigM m va A) (hv : DigM m vv V) (hV : V.length ≤ 9223372036854775807) :
    Ret Try.prog 8 #[va, vv, .int .i64 z] wI fun v w' => Tch wI w' [] [] ∧ v = .bool true := by
  have st := St.start him
  obtain ⟨a1, c1, rfl⟩ := ha.sl
  obtain ⟨a2, c2, rfl⟩ := hv.sl
  obtain ⟨hD, _⟩ := ofLv_dst (Z := A.zip V) fun x hx => (d32_zip ha.1 hv.1 x hx).1
  have hdp := ofLv_d32 (d32_zip ha.1 hv.1)
  have hUp := up_ofLv (d32_zip ha.1 hv.1)
  have hLl := length_ofLv (A.zip V)
  have hzl : (A.zip V).length ≤ A.length := by simp; omega
  generalize hL : ofLv (A.zip V) = L at hD hdp hLl hUp
  refine ret_ofX Try.call8 Try.func8 rfl Try.ntmps8 Try.results8 rfl ?_
  refine wx_seqc ?_
  refine wc_region ?_
  refine wl_box (v := .int .i64 z) rfl st rfl ?_
  intro b5 w st
  refine wl_alloc TF.z4 st rfl ?_
  intro b6 w st
  refine wl_nil ?_
  refine then_go ?_
  refine wx_seqc ?_
  refine wc_seq ?_
  refine wc_region ?_
  refine wl_val (v_move' (by conv => (lhs; whnf))) rfl ?_
  refine wl_call rfl (c_few st.im ha) rfl ?_
  rintro v16 w ⟨t16, rfl⟩
  have st := st.pure t16
  refine wl_val (v_not rfl) rfl ?_
  refine wl_nil ?_
  refine then_go ?_
  refine wc_cond rfl (fun h15 => ?_) (fun h15 => ?_)
  · refine wc_seq ?_
    refine wc_region ?_
    refine wl_call rfl (c_works st.im) rfl ?_
    rintro v18 w ⟨t18, rfl⟩
    have st := st.pure t18
    refine wl_store1 0 st rfl TF.t4 rfl (by conv => (lhs; whnf)) rfl (by first | exact lt_ok rfl | decide | simp) ?_
    intro w st
    refine wl_nil ?_
    refine then_go ?_
    refine wc_ret (then_ret ?_)
    show bodyQ Try.prog [.cell 6 4] (fun v w' => Tch wI w' [] [] ∧ v = .bool true) .ret _ _
    exact ret1c (p := ⟨b6, 0, none⟩) (v := .bool true) rfl (st.reads (off := 0) 0 rfl TF.t4 rfl) ⟨(st.keepOnly (l := []) (List.nil_sublist _)).touch, rfl⟩
  · refine wc_skip ?_
    refine then_go ?_
    refine wx_seqc ?_
    refine wc_region ?_
    refine wl_val (v_move' (by conv => (lhs; whnf))) rfl ?_
    refine wl_val (v_move' (by conv => (lhs; whnf))) rfl ?_
    have hA60 : A.length ≤ 60 := by simp at h15; omega
    refine wl_call rfl (c_tof' st.im ha hv hA60) rfl ?_
    rintro v21 w ⟨t21, m1, hg1, hi1, p, rfl, hp⟩
    have st := st.grown hg1 t21 hi1
    have ha := ha.mono hg1.le
    have hv := hv.mono hg1.le
    rw [hL] at hp
    refine wl_val (v_assign' (by conv => (lhs; whnf))) rfl ?_
    refine wl_nil ?_
    refine then_go ?_
    refine wx_seqc ?_
    refine wc_region ?_
    refine wl_val (v_move' (by conv => (lhs; whnf))) rfl ?_
    refine wl_val (v_move' (by conv => (lhs; whnf))) rfl ?_
    refine wl_call rfl (c_rof st.im ha hv (by omega) hV) rfl ?_
    rintro v24 w ⟨t24, m2, hg2, hi2, hl⟩
    have st := st.grown hg2 t24 hi2
    have hp := hp.mono hg2.le
    rw [hL] at hl
    obtain ⟨l1, k1, l2, k2, rfl, hl1, hl2⟩ := hl.open
    refine wl_alloc TF.z30 st rfl ?_
    intro b8 w st
    refine wl_storeW (cs := #[.slice l1 L.length k1, .slice l2 L.length k2]) 0 st rfl TF.t30 rfl rfl rfl rfl (by simp [Value.oneCell']) ?_
    intro w st
    refine wl_nil ?_
    refine then_go ?_
    refine wx_seqc ?_
    refine wc_seq ?_
    refine wc_region ?_
    refine wl_val (v_move' (by conv => (lhs; whnf))) rfl ?_
    refine wl_val (v_eq_nil (p := some ⟨p, 0, none⟩) Try.underlying27 rfl rfl) rfl ?_
    refine wl_nil ?_
    refine then_go ?_
    refine wc_false rfl ?_
    refine wc_skip ?_
    refine then_go ?_
    refine wx_seqc ?_
    refine wc_region ?_
    refine wl_val (v_move' (by conv => (lhs; whnf))) rfl ?_
    refine wl_call rfl (c_all st.im) rfl ?_
    rintro v26 w ⟨b9, rfl, t26, hE⟩
    have st := st.new (E := K.blk b9 _ _) t26 hE
    obtain ⟨m3, hg3, hm3, st⟩ := st.freeze (i := 0) rfl (by simp)
    have hp := hp.mono hg3.le
    have hl1 := hl1.mono hg3.le
    have hl2 := hl2.mono hg3.le
    change St _ _ _ _ _ [_, _, _] at st
    refine wl_val (v_assign' (by conv => (lhs; whnf))) rfl ?_
    refine wl_nil ?_
    refine then_go ?_
    refine wx_seqc ?_
    refine wc_seq ?_
    refine wc_region ?_
    refine wl_val (v_move' (by conv => (lhs; whnf))) rfl ?_
    refine wl_val (v_eq_nilfunc Try.underlying49 rfl rfl) rfl ?_
    refine wl_nil ?_
    refine then_go ?_
    refine wc_false rfl ?_
    refine wc_skip ?_
    refine then_go ?_
    refine wx_seqc ?_
    refine wc_region ?_
    refine wl_alloc TF.z3 st rfl ?_
    intro b10 w st
    refine wl_store1 0 st rfl TF.t3 rfl (by conv => (lhs; whnf)) rfl (by first | exact lt_ok rfl | decide | simp) ?_
    intro w st
    refine wl_nil ?_
    refine then_go ?_
    refine wx_cut (fun ds r w' => ∃ (D l : Nat) (o : Obj) (i : Nat), ds = [K.mark D] ∧ r 5 = .pointer (some ⟨b5, 0, none⟩) ∧ r 6 = .pointer (some ⟨b6, 0, none⟩) ∧ r 8 = .pointer (some ⟨b8, 0, none⟩) ∧ r 10 = .pointer (some ⟨b10, 0, none⟩) ∧ (i = L.length ∨ (i : Int) = z) ∧ i ≤ L.length ∧ St m m3 [] wI w' [objE l o, objE D (.deferred (some [])), K.blk b10 #[.int .i64 i] 3, K.blk b8 #[.slice l1 L.length k1, .slice l2 L.length k2] 30, K.blk b6 #[.bool false] 4, K.blk b5 #[.int .i64 z] 3]) ?_ ?_
    · refine wx_seqc ?_
      refine wc_region ?_
      refine wl_val (v_move' (by conv => (lhs; whnf))) rfl ?_
      refine wl_nil ?_
      refine then_go ?_
      refine wx_block ?_
      refine wx_range (lb := [.pointer (some ⟨b9, 0, none⟩)]) rfl Try.call33 st ?_
      intro l D fn tmps rec w1 hrec htm hval st
      have hwk := walk_treeOf hD hUp
      refine Calls.mono (c_all1 (l := l) (items := L) (m1 := m3)
        (J := fun i W => i ≤ L.length ∧ St m m3 [] wI W [objE l (.loop (rec .ready none)), objE D (.deferred (some [])), K.blk b10 #[.int .i64 i] 3, K.blk b8 #[.slice l1 L.length k1, .slice l2 L.length k2] 30, K.blk b6 #[.bool false] 4, K.blk b5 #[.int .i64 z] 3])
        (Jx := fun W => ∃ i : Nat, (i : Int) = z ∧ i ≤ L.length ∧ St m m3 [] wI W [objE l (.loop (rec .done (some (.exit 0)))), objE D (.deferred (some [])), K.blk b10 #[.int .i64 i] 3, K.blk b8 #[.slice l1 L.length k1, .slice l2 L.length k2] 30, K.blk b6 #[.bool false] 4, K.blk b5 #[.int .i64 z] 3])
        (fun _ _ h => h.2.im) (fun _ _ h => ⟨h.1, h.2.pure (touch_drew _)⟩) ?_ hp (treeOf_fine hD (by omega)).1 (by intro k x hk; rw [hwk] at hk; exact hk) ⟨Nat.zero_le _, st⟩ (st.readm hm3 TF.t27 rfl)).2 ?_
      rintro i W y hyi ⟨hiL, st⟩
      have hi : i < L.length := by
        rcases Nat.lt_or_ge i L.length with h' | h'
        · exact h'
        · rw [List.getElem?_eq_none h'] at hyi; cases hyi
      obtain rfl : L[i] = y := by rw [List.getElem?_eq_getElem hi] at hyi; exact Option.some.inj hyi
      have hm1' : i < (L.map (·.1)).length := by rw [List.length_map]; exact hi
      have hm2' : i < (L.map (·.2)).length := by rw [List.length_map]; exact hi
      have e1 : (L.map (·.1))[i] = L[i].1 := by simp
      have e2 : (L.map (·.2))[i] = L[i].2 := by simp
      obtain ⟨q1, q2⟩ := hdp _ (List.getElem_mem hi)
      obtain ⟨ba, oa, hba⟩ := hl1.ptr (by omega)
      obtain ⟨bv, ov, hbv⟩ := hl2.ptr (by omega)
      subst hba
      subst hbv
      refine yield_round hrec (st.at (i := 0) rfl) rfl htm hval rfl ?_
      · refine wi_seq ?_
        refine wi_region (by kernel_rfl) (fun _ _ h => h) ?_
        refine wl_alloc TF.z24 st rfl ?_
        intro b11 w st
        refine wl_storeW (cs := (bs L[i].1).toArray) 0 st rfl TF.t24 rfl rfl (by simp [length_bs, q1]) rfl (fun u hu => one_bs _ u (by simpa using hu)) ?_
        intro w st
        refine wl_nil ?_
        refine then_go ?_
        refine wi_region (by kernel_rfl) (fun _ _ h => h) ?_
        refine wl_alloc TF.z24 st rfl ?_
        intro b12 w st
        refine wl_storeW (cs := (bs L[i].2).toArray) 0 st rfl TF.t24 rfl rfl (by simp [length_bs, q2]) rfl (fun u hu => one_bs _ u (by simpa using hu)) ?_
        intro w st
        refine wl_nil ?_
        refine then_go ⟨st.at (i := 2) rfl, ?_⟩
        have st := st.putObj 2 (.loop (rec .busy none)) rfl
        refine wi_block ?_
        refine wi_seq ?_
        refine wi_seq ?_
        refine wi_draw TF.mixed (by kernel_rfl) (fun _ _ h => h) ?_
        have st := st.pure (touch_drew _)
        refine fl_ld 0 rfl (v_load rfl (st.reads 4 rfl TF.t3 rfl)) (by kernel_rfl) ?_
        refine fl_val 1 rfl (fun _ => (v_fa TF.f30_0 rfl)) rfl (by kernel_rfl) ?_
        refine fl_ld 2 rfl (v_load rfl (st.reads 5 rfl TF.t22 rfl)) (by kernel_rfl) ?_
        refine fl_val 3 rfl (fun _ => (v_len_s Try.underlying22 rfl)) rfl (by kernel_rfl) ?_
        refine fl_val 4 rfl (fun _ => (v_to (v' := .bool false) (v_geq rfl rfl) (by rw [decide_eq_false (by omega)]))) rfl (by kernel_rfl) ?_
        refine fl_val 5 rfl (fun _ => (v_move' (by conv => (lhs; whnf)))) rfl (by kernel_rfl) ?_
        refine fl_ond 6 rfl rfl rfl rfl (v_load rfl (st.reads (v := arr L[i].1) 1 rfl TF.t24 (getV_all (by simp [length_bs, q1])))) rfl (by kernel_rfl) ?_
        refine fl_on 7 rfl rfl rfl rfl (fun _ => (v_fa TF.f30_0 rfl)) rfl (by kernel_rfl) ?_
        refine fl_ond 8 rfl rfl rfl rfl (v_load rfl (st.reads 5 rfl TF.t22 rfl)) rfl (by kernel_rfl) ?_
        refine fl_ond 9 rfl rfl rfl rfl (v_load rfl (st.reads 4 rfl TF.t3 rfl)) rfl (by kernel_rfl) ?_
        refine fl_on 10 rfl rfl rfl rfl (fun _ => (v_ias i Try.underlying22 TF.t24 rfl rfl (by first | rfl | omega) (by first | omega | (dsimp only at *; omega)))) rfl (by kernel_rfl) ?_
        refine fl_ond 11 rfl rfl rfl rfl (v_load rfl (hl1.rd rfl hm1' e1 st.im)) rfl (by kernel_rfl) ?_
        refine fl_on 12 rfl rfl rfl rfl (fun _ => (v_neDF rfl rfl q1)) rfl (by kernel_rfl) ?_
        refine fl_val 13 rfl (fun _ => (v_pick rfl)) rfl (by kernel_rfl) ?_
        refine fl_val 14 rfl (fun _ => (v_move' (by conv => (lhs; whnf)))) rfl (by kernel_rfl) ?_
        refine fl_ond 15 rfl rfl rfl rfl (v_load rfl (st.reads (v := arr L[i].2) 0 rfl TF.t24 (getV_all (by simp [length_bs, q2])))) rfl (by kernel_rfl) ?_
        refine fl_on 16 rfl rfl rfl rfl (fun _ => (v_fa TF.f30_1 rfl)) rfl (by kernel_rfl) ?_
        refine fl_ond 17 rfl rfl rfl rfl (v_load rfl (st.reads 5 rfl TF.t22 rfl)) rfl (by kernel_rfl) ?_
        refine fl_ond 18 rfl rfl rfl rfl (v_load rfl (st.reads 4 rfl TF.t3 rfl)) rfl (by kernel_rfl) ?_
        refine fl_on 19 rfl rfl rfl rfl (fun _ => (v_ias i Try.underlying22 TF.t24 rfl rfl (by first | rfl | omega) (by first | omega | (dsimp only at *; omega)))) rfl (by kernel_rfl) ?_
        refine fl_ond 20 rfl rfl rfl rfl (v_load rfl (hl2.rd rfl hm2' e2 st.im)) rfl (by kernel_rfl) ?_
        refine fl_on 21 rfl rfl rfl rfl (fun _ => (v_neDF rfl rfl q2)) rfl (by kernel_rfl) ?_
        refine fl_val 22 rfl (fun _ => (v_pick rfl)) rfl (by kernel_rfl) ?_
        refine fl_nil (by kernel_rfl) ⟨obl_on rfl rfl rfl rfl rfl (v_load rfl (hl2.rd rfl hm2' e2 st.im)), obl_on rfl rfl rfl rfl rfl (v_load rfl (st.reads 4 rfl TF.t3 rfl)), obl_on rfl rfl rfl rfl rfl (v_load rfl (st.reads 5 rfl TF.t22 rfl)), obl_on rfl rfl rfl rfl rfl (v_load rfl (st.reads (v := arr L[i].2) 0 rfl TF.t24 (getV_all (by simp [length_bs, q2])))), obl_on rfl rfl rfl rfl rfl (v_load rfl (hl1.rd rfl hm1' e1 st.im)), obl_on rfl rfl rfl rfl rfl (v_load rfl (st.reads 4 rfl TF.t3 rfl)), obl_on rfl rfl rfl rfl rfl (v_load rfl (st.reads 5 rfl TF.t22 rfl)), obl_on rfl rfl rfl rfl rfl (v_load rfl (st.reads (v := arr L[i].1) 1 rfl TF.t24 (getV_all (by simp [length_bs, q1])))), obl_ld rfl rfl rfl (v_load rfl (st.reads 5 rfl TF.t22 rfl)), obl_ld rfl rfl rfl (v_load rfl (st.reads 4 rfl TF.t3 rfl)), trivial⟩ ?_
        refine then_go ?_
        refine wi_false rfl ?_
        refine wi_skip ?_
        refine then_go ?_
        refine wi_seq ?_
        refine wi_region (by kernel_rfl) (fun _ _ h => h) ?_
        refine wl_val (v_load rfl (st.reads 4 rfl TF.t3 rfl)) rfl ?_
        refine wl_val (v_add' (c := ((i + 1 : Nat) : Int)) rfl rfl (by omega) (by omega) (by omega)) rfl ?_
        refine wl_store1 4 st rfl TF.t3 rfl (by conv => (lhs; whnf)) rfl (by first | exact lt_ok rfl | decide | simp) ?_
        intro w st
        have st : St m m3 [] wI w [_, _, _, _, K.blk b10 #[.int .i64 ((i + 1 : Nat) : Int)] 3, _, _, _] := st
        refine wl_nil ?_
        refine then_go ?_
        refine wi_seq ?_
        refine wi_region (by kernel_rfl) (fun _ _ h => h) ?_
        refine wl_val (v_load rfl (st.reads 4 rfl TF.t3 rfl)) rfl ?_
        refine wl_val (v_load rfl (st.reads 7 rfl TF.t3 rfl)) rfl ?_
        refine wl_val (v_eql rfl rfl) rfl ?_
        refine wl_nil ?_
        refine then_go ?_
        refine wi_if rfl (fun h59 => ?_) (fun h59 => ?_)
        · refine wi_exit (block_miss rfl ?_)
          exact ⟨st.at (i := 2) rfl, .inr ⟨rfl, i + 1, by omega, by omega, ((st.putObj 2 _ rfl).drop 0).drop 0⟩⟩
        · refine wi_skip ?_
          refine block_go ?_
          exact ⟨st.at (i := 2) rfl, .inl ⟨rfl, by omega, ((st.putObj 2 _ rfl).drop 0).drop 0⟩⟩
      rintro e W ⟨v, rfl, ⟨_, st⟩ | ⟨i, hi, hiL, st⟩⟩
      · have st2 := st.putObj 0 (.loop (rec .exhausted none)) rfl
        have hn := (treeOf_fine hD (by omega)).2.1
        exact ⟨v, rfl, .ready, none, by simp, st.at (i := 0) rfl, D, l, _, _, rfl, rfl, rfl, rfl, rfl, .inl hn, by omega, st2⟩
      · have st2 := st.putObj 0 (.loop (rec .exhausted (some (.exit 0)))) rfl
        exact ⟨v, rfl, .done, some (.exit 0), by simp, st.at (i := 0) rfl, wx_exit (blockx_hit ⟨D, l, _, i, rfl, rfl, rfl, rfl, rfl, .inr hi, hiL, st2⟩)⟩
    · rintro ds r w ⟨D, l, o, i, rfl, g5, g6, g8, g10, hiz, hiL, st⟩
      refine wx_of_wc (wc_o 5 g5 (wc_o 6 g6 (wc_o 8 g8 (wc_o 10 g10 ?_))))
      refine wc_seq ?_
      refine wc_region ?_
      refine wl_val (v_load rfl (st.reads 2 rfl TF.t3 rfl)) rfl ?_
      refine wl_val (v_fa TF.f30_0 rfl) rfl ?_
      refine wl_val (v_load rfl (st.reads 3 rfl TF.t22 rfl)) rfl ?_
      refine wl_val (v_len_s Try.underlying22 rfl) rfl ?_
      refine wl_val (v_eql rfl rfl) rfl ?_
      refine wl_val (v_move' (by conv => (lhs; whnf))) rfl ?_
      by_cases hg5 : (i : Int) = (L.length : Int)
      · rw [show decide ((i : Int) = (L.length : Int)) = true from decide_eq_true hg5]
        refine wl_off rfl rfl rfl rfl ?_
        refine wl_off rfl rfl rfl rfl ?_
        refine wl_off rfl rfl rfl rfl ?_
        refine wl_val (v_pick rfl) rfl ?_
        refine wl_val (v_move' (by conv => (lhs; whnf))) rfl ?_
        refine wl_on rfl rfl ?_
        refine wl_call rfl (c_works st.im) rfl ?_
        rintro v18 w ⟨t18, rfl⟩
        have st := st.pure t18
        refine wl_val (v_pick rfl) rfl ?_
        refine wl_store1 4 st rfl TF.t4 rfl (by conv => (lhs; whnf)) rfl (by first | exact lt_ok rfl | decide | simp) ?_
        intro w st
        refine wl_nil ?_
        refine then_go ?_
        refine wc_ret ?_
        have hD := st.at (i := 1) rfl
        have st := st.putObj 1 (.deferred none) rfl
        exact retX1 hD (ret1c rfl (st.reads 4 rfl TF.t4 rfl) ⟨(st.keepOnly (l := []) (List.nil_sublist _)).touch, rfl⟩)
      · rw [show decide ((i : Int) = (L.length : Int)) = false from decide_eq_false hg5]
        refine wl_on rfl rfl ?_
        refine wl_val (v_load rfl (st.reads 2 rfl TF.t3 rfl)) rfl ?_
        refine wl_on rfl rfl ?_
        refine wl_val (v_load rfl (st.reads 5 rfl TF.t3 rfl)) rfl ?_
        refine wl_on rfl rfl ?_
        refine wl_val (v_eqlT (by omega) rfl rfl) rfl ?_
        refine wl_val (v_pick rfl) rfl ?_
        refine wl_val (v_move' (by conv => (lhs; whnf))) rfl ?_
        refine wl_on rfl rfl ?_
        refine wl_call rfl (c_works st.im) rfl ?_
        rintro v18 w ⟨t18, rfl⟩
        have st := st.pure t18
        refine wl_val (v_pick rfl) rfl ?_
        refine wl_store1 4 st rfl TF.t4 rfl (by conv => (lhs; whnf)) rfl (by first | exact lt_ok rfl | decide | simp) ?_
        intro w st
        refine wl_nil ?_
        refine then_go ?_
        refine wc_ret ?_
        have hD := st.at (i := 1) rfl
        have st := st.putObj 1 (.deferred none) rfl
        exact retX1 hD (ret1c rfl (st.reads 4 rfl TF.t4 rfl) ⟨(st.keepOnly (l := []) (List.nil_sublist _)).touch, rfl⟩)
end
end Go.Proofs.Ytkbmhhbclbgdpaa
