/-
  The plain law of trees of leaves: what is put one behind the other is the tree of the leaves.
-/
import Derived.Test.YtkbmhhbclbgdpaaUk
namespace Go.Proofs.Ytkbmhhbclbgdpaa
open Go Go.RowKit K SH PT

namespace PT
theorem bitI_eq {d : By} {k : Nat} (h : k < 256) : bitI d k = bit d k := by
  unfold bitI
  rw [if_pos (by omega)]
  simp

theorem eq_of_bits {a b : By} (ha : a.length = 32) (hb : b.length = 32) (h : ∀ k, k < 256 → bit a k = bit b k) : a = b := by
  refine List.ext_getElem (by omega) fun i h1 h2 => ?_
  rw [← UInt8.toNat_inj]
  refine Nat.eq_of_testBit_eq fun j => ?_
  by_cases hj : j < 8
  · have := h (8 * i + (7 - j)) (by omega)
    unfold bit at this
    rw [show (8 * i + (7 - j)) / 8 = i by omega, show 7 - (8 * i + (7 - j)) % 8 = j by omega] at this
    simpa [List.getD, h1, h2] using this
  · have e1 : a[i].toNat < 2 ^ j := Nat.lt_of_lt_of_le a[i].toNat_lt (Nat.pow_le_pow_right (by omega) (by omega : 8 ≤ j))
    have e2 : b[i].toNat < 2 ^ j := Nat.lt_of_lt_of_le b[i].toNat_lt (Nat.pow_le_pow_right (by omega) (by omega : 8 ≤ j))
    rw [Nat.testBit_lt_two_pow e1, Nat.testBit_lt_two_pow e2]

theorem comF_spec (a b : By) : ∀ f k, k ≤ comF a b f k ∧ (∀ j, k ≤ j → j < comF a b f k → bit b j = bit a j) ∧ (comF a b f k < k + f → ¬ bit b (comF a b f k) = bit a (comF a b f k))
  | 0, k => by simp [comF]; omega
  | f + 1, k => by
    rw [comF]
    split
    · rename_i h
      obtain ⟨h1, h2, h3⟩ := comF_spec a b f (k + 1)
      refine ⟨by omega, fun j hj hj2 => ?_, fun hlt => h3 (by omega)⟩
      rcases Nat.eq_or_lt_of_le hj with rfl | hj
      · exact h
      · exact h2 j hj hj2
    · rename_i h
      exact ⟨Nat.le_refl _, fun j hj hj2 => by omega, fun _ => h⟩

theorem common_agree {a b : By} {j : Nat} (h : j < common a b) : bit a j = bit b j := ((comF_spec a b 256 0).2.1 j (by omega) h).symm
theorem common_lt {a b : By} (ha : a.length = 32) (hb : b.length = 32) (h : a ≠ b) : common a b < 256 := by
  rcases Nat.lt_or_ge (common a b) 256 with h' | h'
  · exact h'
  · exact absurd (eq_of_bits ha hb fun k hk => common_agree (by omega)) h
theorem common_part {a b : By} (h : common a b < 256) : ¬ bit b (common a b) = bit a (common a b) := (comF_spec a b 256 0).2.2 (by unfold common at h; omega)
theorem common_ge {a b : By} {d : Nat} (h : ∀ k, k < d → bit a k = bit b k) (hd : d ≤ 256) : d ≤ common a b := by
  rcases Nat.lt_or_ge (common a b) d with h' | h'
  · exact absurd (h _ h').symm (common_part (by omega))
  · exact h'
end PT

/-- Leaves that begin with the same bits, each index once. -/
structure Dst (d : Nat) (L : List (By × By)) : Prop where
  nodup : (L.map (·.1)).Nodup
  len : ∀ x ∈ L, x.1.length = 32
  agree : ∀ x ∈ L, ∀ y ∈ L, ∀ k, k < d → bit x.1 k = bit y.1 k

theorem Dst.nil {d : Nat} : Dst d [] := ⟨by simp, by simp, by simp⟩

theorem mem_half {L : List (By × By)} {d : Nat} {b : Bool} {x : By × By} (hd : d < 256) : x ∈ halfL L d b ↔ x ∈ L ∧ bit x.1 d = b := by
  unfold halfL
  rw [List.mem_filter, bitI_eq hd, beq_iff_eq]

theorem Dst.half {d : Nat} {L : List (By × By)} (h : Dst d L) (hd : d < 256) (b : Bool) : Dst (d + 1) (halfL L d b) := by
  refine ⟨h.nodup.sublist (List.Sublist.map _ List.filter_sublist), fun x hx => h.len x ((mem_half hd).1 hx).1, fun x hx y hy k hk => ?_⟩
  obtain ⟨hx1, hx2⟩ := (mem_half hd).1 hx
  obtain ⟨hy1, hy2⟩ := (mem_half hd).1 hy
  rcases Nat.eq_or_lt_of_le (Nat.le_of_lt_succ hk) with rfl | hk
  · rw [hx2, hy2]
  · exact h.agree x hx1 y hy1 k hk

theorem Dst.two {x y : By × By} {l : List (By × By)} (h : Dst 256 (x :: y :: l)) : False := by
  have he := eq_of_bits (h.len x (by simp)) (h.len y (by simp)) (h.agree x (by simp) y (by simp))
  have := h.nodup
  simp only [List.map_cons, List.nodup_cons, List.mem_cons] at this
  exact this.1 (.inl he)

theorem Dst.ends : ∀ {g d : Nat} {L : List (By × By)}, g + d = 256 → Dst d L → Ends g d L
  | _, _, [], _, _ => .nil
  | _, _, [_], _, _ => .one
  | 0, d, x :: y :: l, hg, h => by rw [Nat.zero_add] at hg; subst hg; exact h.two.elim
  | g + 1, d, x :: y :: l, hg, h => .more ((h.half (by omega) false).ends (by omega)) ((h.half (by omega) true).ends (by omega))

theorem halfL_perm {L M : List (By × By)} {d : Int} {b : Bool} (h : List.Perm L M) : List.Perm (halfL L d b) (halfL M d b) := h.filter _

theorem canon_perm : ∀ {g d : Nat} {L M : List (By × By)}, List.Perm L M → canon g d L = canon g d M
  | g, d, [], M, h => by rw [h.nil_eq]
  | g, d, [x], M, h => by rw [List.singleton_perm.1 h]
  | g, d, x :: y :: l, [], h => by have := h.length_eq; simp at this
  | g, d, x :: y :: l, [z], h => by have := h.length_eq; simp at this
  | 0, d, x :: y :: l, z :: w :: M, h => rfl
  | g + 1, d, x :: y :: l, z :: w :: M, h => by
    rw [canon, canon, canon_perm (halfL_perm h), canon_perm (halfL_perm h)]

theorem half_app {L : List (By × By)} {x : By × By} {d : Nat} {b : Bool} (hd : d < 256) : halfL (x :: L) d b = (if bit x.1 d = b then [x] else []) ++ halfL L d b := by
  unfold halfL
  rw [List.filter_cons, bitI_eq hd]
  by_cases h : bit x.1 d = b <;> simp [h]

theorem canon_pair {g e : Nat} {p q : By × By} : canon (g + 1) e [p, q] = .f (canon g (e + 1) (halfL [p, q] e false)) (canon g (e + 1) (halfL [p, q] e true)) := by rw [canon]

theorem canon_wrap {g e : Nat} {p q : By × By} (he : e < 256) (h : bit p.1 e = bit q.1 e) : Tr.wrap p.1 e (canon g (e + 1) [p, q]) = canon (g + 1) e [p, q] := by
  rw [canon_pair, Tr.wrap, bitI_eq he, half_app he, half_app he, half_app he, half_app he, ← h]
  cases hb : bit p.1 e
  · simp [halfL, canon_nil]
  · simp [halfL, canon_nil]

theorem canon_fork2 {g e : Nat} {p q : By × By} (he : e < 256) (h : ¬ bit q.1 e = bit p.1 e) : Tr.fork2 p.1 (.l p.1 p.2) (.l q.1 q.2) e = canon (g + 1) e [p, q] := by
  rw [canon_pair, Tr.fork2, bitI_eq he, half_app he, half_app he, half_app he, half_app he]
  cases hb : bit p.1 e <;> cases hq : bit q.1 e
  · rw [hb, hq] at h; exact (h rfl).elim
  · simp [halfL, canon_one]
  · simp [halfL, canon_one]
  · rw [hb, hq] at h; exact (h rfl).elim

theorem canon_joinW {d : Nat} {p q : By × By} : ∀ k, d + k ≤ 256 → (∀ e, d ≤ e → e < d + k → bit p.1 e = bit q.1 e) → Tr.joinW p.1 d k (canon (256 - (d + k)) (d + k) [p, q]) = canon (256 - d) d [p, q]
  | 0, _, _ => rfl
  | k + 1, hk, h => by
    rw [Tr.joinW, show d + (k + 1) = d + k + 1 by omega, canon_wrap (by omega) (h _ (by omega) (by omega)), show 256 - (d + k + 1) + 1 = 256 - (d + k) by omega]
    exact canon_joinW k (by omega) fun e h1 h2 => h e h1 (by omega)

theorem canon_join {d : Nat} {p q : By × By} (hp : p.1.length = 32) (hq : q.1.length = 32) (hne : p.1 ≠ q.1) (ha : ∀ k, k < d → bit p.1 k = bit q.1 k) (hd : d ≤ 256) :
    Tr.join p.1 p.2 q.1 q.2 d = canon (256 - d) d [p, q] := by
  have hlt := common_lt hp hq hne
  have hge := common_ge ha hd
  have hag : ∀ j, j < common p.1 q.1 → bit p.1 j = bit q.1 j := fun j hj => common_agree hj
  have hpt := common_part hlt
  rw [Tr.join]
  generalize common p.1 q.1 = c at hlt hge hag hpt
  have h1 := canon_fork2 (g := 255 - c) hlt hpt
  rw [h1]
  have h2 := canon_joinW (d := d) (p := p) (q := q) (c - d) (by omega) fun e _ he2 => hag e (by omega)
  rw [show d + (c - d) = c by omega] at h2
  rw [show 255 - c + 1 = 256 - c by omega]
  exact h2

theorem putG_perm {x v : By} : ∀ (L : List (By × By)) (b : Bool), List.Perm (putG x v L b) ((if b = true then [] else [(x, v)]) ++ L.filter fun y => decide (y.1 ≠ x))
  | [], b => by cases b <;> simp [putG]
  | e :: l, b => by
    have ih := putG_perm (x := x) (v := v) l (b || !lt e.1 x)
    rw [putG]
    by_cases he : e.1 = x
    · have hf : ((e :: l).filter fun y => decide (y.1 ≠ x)) = l.filter fun y => decide (y.1 ≠ x) := List.filter_cons_of_neg (by simp [he])
      rw [hf]
      generalize (l.filter fun y => decide (y.1 ≠ x)) = F at ih
      simp only [he, if_true, List.nil_append]
      rw [he] at ih
      cases b <;> cases hl : lt x x <;> simp [hl] at ih ⊢ <;> exact ih
    · have hf : ((e :: l).filter fun y => decide (y.1 ≠ x)) = e :: l.filter fun y => decide (y.1 ≠ x) := List.filter_cons_of_pos (by simpa using he)
      rw [hf]
      generalize (l.filter fun y => decide (y.1 ≠ x)) = F at ih
      simp only [he, if_false]
      cases b <;> cases hl : lt e.1 x <;> simp [hl] at ih ⊢
      · exact ih
      · exact (List.Perm.cons e ih).trans (List.Perm.swap _ _ _)
      · exact ih
      · exact ih

theorem putL_perm (x v : By) (L : List (By × By)) : List.Perm (putL x v L) ((x, v) :: L.filter fun y => decide (y.1 ≠ x)) := putG_perm L false

theorem Dst.perm {d : Nat} {L M : List (By × By)} (h : Dst d L) (hp : List.Perm L M) : Dst d M :=
  ⟨(hp.map _).nodup_iff.1 h.nodup, fun x hx => h.len x (hp.mem_iff.2 hx), fun x hx y hy => h.agree x (hp.mem_iff.2 hx) y (hp.mem_iff.2 hy)⟩

theorem Dst.cons {d : Nat} {L : List (By × By)} {x v : By} (h : Dst d L) (hx : x.length = 32) (ha : ∀ y ∈ L, ∀ k, k < d → bit x k = bit y.1 k) : Dst d ((x, v) :: L.filter fun y => decide (y.1 ≠ x)) := by
  refine ⟨?_, ?_, ?_⟩
  · rw [List.map_cons, List.nodup_cons]
    refine ⟨?_, h.nodup.sublist (List.Sublist.map _ List.filter_sublist)⟩
    intro hm
    obtain ⟨y, hy, he⟩ := List.mem_map.1 hm
    have := (List.mem_filter.1 hy).2
    simp at this
    exact this he
  · intro y hy
    rcases List.mem_cons.1 hy with rfl | hy
    · exact hx
    · exact h.len y (List.mem_filter.1 hy).1
  · intro y hy z hz k hk
    rcases List.mem_cons.1 hy with rfl | hy <;> rcases List.mem_cons.1 hz with rfl | hz
    · rfl
    · exact ha z (List.mem_filter.1 hz).1 k hk
    · exact (ha y (List.mem_filter.1 hy).1 k hk).symm
    · exact h.agree y (List.mem_filter.1 hy).1 z (List.mem_filter.1 hz).1 k hk

theorem canon_put : ∀ {g d : Nat} {L : List (By × By)} {x v : By}, g + d = 256 → Dst d L → x.length = 32 → (∀ y ∈ L, ∀ k, k < d → bit x k = bit y.1 k) →
    Tr.put x v (canon g d L) d = canon g d ((x, v) :: L.filter fun y => decide (y.1 ≠ x))
  | g, d, [], x, v, hg, h, hx, ha => by rw [canon_nil, List.filter_nil, canon_one, Tr.put]
  | g, d, [y], x, v, hg, h, hx, ha => by
    rw [canon_one, Tr.put]
    by_cases hyx : y.1 = x
    · rw [if_pos hyx, List.filter_cons, if_neg (by simp [hyx]), List.filter_nil, canon_one]
    · rw [if_neg hyx, List.filter_cons, if_pos (by simpa using hyx), List.filter_nil]
      have hj := canon_join (d := d) (p := y) (q := (x, v)) (h.len y (by simp)) hx hyx (fun k hk => (ha y (by simp) k hk).symm) (by omega)
      rw [hj, show 256 - d = g by omega]
      exact canon_perm (List.Perm.swap _ _ _)
  | 0, d, y :: z :: l, x, v, hg, h, hx, ha => by rw [Nat.zero_add] at hg; subst hg; exact h.two.elim
  | g + 1, d, y :: z :: l, x, v, hg, h, hx, ha => by
    have hd : d < 256 := by omega
    obtain ⟨L, hL⟩ : ∃ L, L = y :: z :: l := ⟨_, rfl⟩
    have hcan : canon (g + 1) d (y :: z :: l) = .f (canon g (d + 1) (halfL L d false)) (canon g (d + 1) (halfL L d true)) := by rw [canon, ← hL]
    have hne : ∃ u M, (L.filter fun y => decide (y.1 ≠ x)) = u :: M := by
      have hn := h.nodup
      simp only [List.map_cons, List.nodup_cons, List.mem_cons, not_or] at hn
      rw [hL, List.filter_cons]
      by_cases hyx : y.1 = x
      · rw [if_neg (by simp [hyx]), List.filter_cons, if_pos (by simp only [decide_eq_true_eq]; exact fun e => hn.1.1 (hyx.trans e.symm))]
        exact ⟨_, _, rfl⟩
      · rw [if_pos (by simpa using hyx)]
        exact ⟨_, _, rfl⟩
    rw [hcan, ← hL] 
    rw [← hL] at h ha
    have hfil : ∀ b, halfL (L.filter fun y => decide (y.1 ≠ x)) d b = (halfL L d b).filter fun y => decide (y.1 ≠ x) := fun b => by
      unfold halfL
      rw [List.filter_filter, List.filter_filter]
      exact List.filter_congr fun _ _ => Bool.and_comm _ _
    have hoff : ∀ b, bit x d ≠ b → ((halfL L d b).filter fun y => decide (y.1 ≠ x)) = halfL L d b := fun b hb => by
      refine List.filter_eq_self.2 fun u hu => ?_
      simp only [decide_eq_true_eq]
      intro e
      exact hb (by rw [← e]; exact ((mem_half hd).1 hu).2)
    have hag : ∀ u ∈ halfL L d (bit x d), ∀ k, k < d + 1 → bit x k = bit u.1 k := fun u hu k hk => by
      obtain ⟨h1, h2⟩ := (mem_half hd).1 hu
      rcases Nat.eq_or_lt_of_le (Nat.le_of_lt_succ hk) with rfl | hk
      · exact h2.symm
      · exact ha u h1 k hk
    have ih := canon_put (g := g) (d := d + 1) (L := halfL L d (bit x d)) (x := x) (v := v) (by omega) (h.half hd _) hx hag
    have hR : canon (g + 1) d ((x, v) :: L.filter fun y => decide (y.1 ≠ x)) = .f (canon g (d + 1) (halfL ((x, v) :: L.filter fun y => decide (y.1 ≠ x)) d false)) (canon g (d + 1) (halfL ((x, v) :: L.filter fun y => decide (y.1 ≠ x)) d true)) := by
      obtain ⟨u, M, hu⟩ := hne
      rw [hu, canon]
    rw [hR, half_app hd, half_app hd, hfil, hfil, Tr.put, bitI_eq hd]
    cases hb : bit x d
    · rw [hb] at ih
      rw [if_neg (by simp), ih, hoff true (by rw [hb]; simp)]
      simp
    · rw [hb] at ih
      rw [if_pos rfl, ih, hoff false (by rw [hb]; simp)]
      simp

theorem Dst.put {L : List (By × By)} {x v : By} (h : Dst 0 L) (hx : x.length = 32) : Dst 0 (putL x v L) :=
  (h.cons (v := v) hx fun _ _ k hk => by omega).perm (putL_perm x v L).symm

/-- The tree of leaves. -/
def treeOf (L : List (By × By)) : Tr := canon 256 0 L

theorem treeOf_put {L : List (By × By)} {x v : By} (h : Dst 0 L) (hx : x.length = 32) : Tr.put x v (treeOf L) 0 = treeOf (putL x v L) := by
  unfold treeOf
  rw [canon_put (by omega) h hx fun _ _ k hk => by omega]
  exact canon_perm (putL_perm x v L).symm

theorem ofLv_dst : ∀ {Z : List (By × By)}, (∀ x ∈ Z, x.1.length = 32) → Dst 0 (ofLv Z) ∧ Tr.ofL Z = treeOf (ofLv Z) := by
  intro Z
  induction h : Z.length generalizing Z with
  | zero =>
    have := List.eq_nil_of_length_eq_zero h
    subst this
    exact fun _ => ⟨Dst.nil, by simp [Tr.ofL, ofLv, treeOf, canon_nil]⟩
  | succ k ih =>
    intro h32
    have hne : Z ≠ [] := by intro e; subst e; simp at h
    rw [← List.dropLast_concat_getLast hne, ofLv_snoc, Tr.ofL_snoc]
    obtain ⟨h1, h2⟩ := ih (Z := Z.dropLast) (by simp [h]) fun x hx => h32 x ((List.dropLast_sublist Z).subset hx)
    have hl := h32 _ (List.getLast_mem hne)
    exact ⟨h1.put hl, by rw [h2, treeOf_put h1 hl]⟩

theorem length_split {α : Type} (p : α → Bool) : ∀ L : List α, (L.filter fun z => !p z).length + (L.filter p).length = L.length
  | [] => rfl
  | x :: L => by
    have := length_split p L
    rw [List.filter_cons, List.filter_cons]
    cases h : p x <;> simp <;> omega

theorem canon_n : ∀ {g d : Nat} {L : List (By × By)}, Ends g d L → (canon g d L).n = L.length
  | _, _, [], _ => by rw [canon_nil]; rfl
  | _, _, [_], _ => by rw [canon_one]; rfl
  | 0, _, _ :: _ :: _, h => h.zero.elim
  | g + 1, d, x :: y :: l, h => by
    obtain ⟨h1, h2⟩ := h.halves
    rw [canon, Tr.n, canon_n h1, canon_n h2]
    have e : (halfL (x :: y :: l) d false) = (x :: y :: l).filter fun z => !bitI z.1 d := by
      unfold halfL
      exact List.filter_congr fun z _ => by simp
    have e2 : (halfL (x :: y :: l) d true) = (x :: y :: l).filter fun z => bitI z.1 d := by
      unfold halfL
      exact List.filter_congr fun z _ => by simp
    rw [e, e2]
    exact length_split (fun z : By × By => bitI z.1 d) (x :: y :: l)

theorem canon_ht : ∀ {g d : Nat} {L : List (By × By)}, (canon g d L).ht ≤ g
  | _, _, [] => by rw [canon_nil]; simp [Tr.ht]
  | _, _, [_] => by rw [canon_one]; simp [Tr.ht]
  | 0, _, _ :: _ :: _ => by simp [canon, Tr.ht]
  | g + 1, d, x :: y :: l => by
    rw [canon, Tr.ht]
    have h1 := canon_ht (g := g) (d := d + 1) (L := halfL (x :: y :: l) d false)
    have h2 := canon_ht (g := g) (d := d + 1) (L := halfL (x :: y :: l) d true)
    omega

theorem canon_ok : ∀ {g d : Nat} {L : List (By × By)}, Ends g d L → (canon g d L).ok
  | _, _, [], _ => by rw [canon_nil]; exact .mkE
  | _, _, [_], _ => by rw [canon_one]; exact .mkL
  | 0, _, _ :: _ :: _, h => h.zero.elim
  | g + 1, d, x :: y :: l, h => by
    have hn := canon_n h
    obtain ⟨h1, h2⟩ := h.halves
    rw [canon] at hn ⊢
    refine .mkF ?_ (canon_ok h1) (canon_ok h2)
    rw [Tr.n] at hn
    rw [hn]
    simp

theorem treeOf_fine {L : List (By × By)} (h : Dst 0 L) (hL : L.length < 1000000000) : (treeOf L).ok ∧ (treeOf L).n = L.length ∧ (treeOf L).ht ≤ 256 :=
  ⟨canon_ok (h.ends (g := 256) (by omega)), canon_n (h.ends (g := 256) (by omega)), canon_ht⟩

theorem canon_prvS : ∀ {g d : Nat} {L : List (By × By)} {x : By}, g + d = 256 → Ends g d L → Tr.prvS x (canon g d L) d = prvS x g d L ∧ Tr.endT (Tr.prvE x (canon g d L) d) = endL (prvE x g d L)
  | g, d, [], x, _, _ => by rw [canon_nil]; cases g <;> simp [Tr.prvS, Tr.prvE, prvS, prvE, Tr.endT, endL]
  | g, d, [y], x, _, _ => by rw [canon_one]; cases g <;> simp [Tr.prvS, Tr.prvE, prvS, prvE, Tr.endT, endL]
  | 0, d, _ :: _ :: _, x, _, h => h.zero.elim
  | g + 1, d, y :: z :: l, x, hg, h => by
    obtain ⟨h1, h2⟩ := h.halves
    have i1 := canon_prvS (x := x) (by omega) h1
    have i2 := canon_prvS (x := x) (by omega) h2
    have hl : 1 < (y :: z :: l).length := by simp
    rw [canon, Tr.prvS, Tr.prvE, prvS, prvE]
    simp only [hl, if_true, bitI_eq (show d < 256 by omega)]
    cases hb : bit x d
    · simp only [Bool.false_eq_true, if_false, Bool.not_false]
      rw [i1.1]
      exact ⟨rfl, i1.2⟩
    · simp only [if_true, Bool.not_true]
      rw [i2.1]
      exact ⟨rfl, i2.2⟩

theorem treeOf_prv {L : List (By × By)} {x : By} (h : Dst 0 L) : Tr.prv x (treeOf L) = prvL x L := by
  obtain ⟨h1, h2⟩ := canon_prvS (x := x) (g := 256) (d := 0) (by omega) (h.ends (g := 256) (by omega))
  unfold Tr.prv prvL treeOf
  rw [h1, h2]

theorem getG_half {L : List (By × By)} {x : By} {d : Nat} (hd : d < 256) : getG x (halfL L d (bit x d)) = getG x L := by
  induction L with
  | nil => rfl
  | cons y l ih =>
    rw [half_app hd]
    by_cases h : bit y.1 d = bit x d
    · rw [if_pos h, List.singleton_append, getG, getG, ih]
    · rw [if_neg h, List.nil_append, ih, getG, if_neg (fun e => h (by rw [e]))]

theorem get_end : ∀ {g d : Nat} {L : List (By × By)} {x : By}, g + d = 256 → Ends g d L → (if (endL (prvE x g d L)).1 = 1 ∧ (endL (prvE x g d L)).2.1 = x then some (endL (prvE x g d L)).2.2 else none) = getG x L
  | g, d, [], x, _, _ => by cases g <;> simp [prvE, endL, getG]
  | g, d, [y], x, _, _ => by cases g <;> simp [prvE, endL, getG]
  | 0, d, _ :: _ :: _, x, _, h => h.zero.elim
  | g + 1, d, y :: z :: l, x, hg, h => by
    obtain ⟨h1, h2⟩ := h.halves
    have e : prvE x (g + 1) d (y :: z :: l) = prvE x g (d + 1) (halfL (y :: z :: l) d (bit x d)) := by rw [prvE, if_pos (by simp), bitI_eq (by omega)]
    rw [e, ← getG_half (d := d) (by omega)]
    cases hb : bit x d
    · exact get_end (by omega) h1
    · exact get_end (by omega) h2

theorem treeOf_get {L : List (By × By)} {x : By} (h : Dst 0 L) : getP x (Tr.prv x (treeOf L)) = getG x L := by
  rw [treeOf_prv h]
  exact get_end (g := 256) (d := 0) (by omega) (h.ends (g := 256) (by omega))
end Go.Proofs.Ytkbmhhbclbgdpaa
