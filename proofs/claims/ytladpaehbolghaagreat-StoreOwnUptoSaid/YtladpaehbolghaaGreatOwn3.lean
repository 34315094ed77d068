/-
  Several texts as one: Ja Ba Jb Gb Jc Gc Zj Zk Bb Oa Jd Je Jf Jg Jh Da Db Dc Dd Ji.
-/
import Derived.Shelf.SlSortCmp.NoneTotal
import Derived.Lib.Bytealg
import Derived.Test.YtladpaehbolghaaGreatOwn2

namespace Go.Proofs.YtladpaehbolghaaGreat
open Go Go.RowKit K SH DK
namespace JR
def pad64 (l : By) : By := l ++ List.replicate ((64 - l.length % 64) % 64) 0
def recL (n : Nat) : Nat := (n + 120) / 64 * 64
theorem length_pad64 (l : By) : (pad64 l).length = (l.length + 63) / 64 * 64 := by
 simp only [pad64, List.length_append, List.length_replicate]
 omega
def headB (g : UInt64) : By := pad64 (72 :: (num8 g ++ sum (72 :: num8 g)))
def textB (g s : UInt64) (b : By) : By := 74 :: (num8 g ++ (num8 s ++ b))
def recB (g s : UInt64) (b : By) : By := pad64 (74 :: (num8 g ++ (num8 s ++ (sum (textB g s b) ++ (num8 (UInt64.ofNat b.length) ++ b)))))
theorem length_headB (g : UInt64) : (headB g).length = 64 := by
 rw [headB, length_pad64]
 simp [length_num8, length_sum]
theorem length_textB (g s : UInt64) (b : By) : (textB g s b).length = 17 + b.length := by
 simp [textB, length_num8]; omega
theorem length_recB (g s : UInt64) (b : By) : (recB g s b).length = recL b.length := by
 rw [recB, length_pad64, recL]
 simp only [List.length_cons, List.length_append, length_num8, length_sum]
 omega
def rdN (b : By) : Nat := (b.take 8).foldl (fun n c => n * 256 + c.toNat) 0
def rd8 (b : By) : UInt64 := (b.take 8).foldl (fun n c => n * 256 + UInt64.ofNat c.toNat) 0
theorem fold_rd : ∀ (l : By) (n : Nat) (m : UInt64), m = UInt64.ofNat n → l.foldl (fun n c => n * 256 + UInt64.ofNat c.toNat) m = UInt64.ofNat (l.foldl (fun n c => n * 256 + c.toNat) n)
 | [], _, _, h => h
 | c :: l, n, m, h => by
  refine fold_rd l _ _ ?_
  rw [h, ← UInt64.toNat_inj]
  simp
theorem rd8_eq (b : By) : rd8 b = UInt64.ofNat (rdN b) := fold_rd _ 0 0 rfl
theorem num8_list (g : UInt64) : num8 g = [UInt8.ofNat (g.toNat / 2 ^ 56), UInt8.ofNat (g.toNat / 2 ^ 48), UInt8.ofNat (g.toNat / 2 ^ 40), UInt8.ofNat (g.toNat / 2 ^ 32), UInt8.ofNat (g.toNat / 2 ^ 24), UInt8.ofNat (g.toNat / 2 ^ 16), UInt8.ofNat (g.toNat / 2 ^ 8), UInt8.ofNat (g.toNat / 2 ^ 0)] := rfl
theorem rd8_num8 (g : UInt64) (t : By) : rd8 (num8 g ++ t) = g := by
 have e : (num8 g ++ t).take 8 = num8 g := List.take_left' (length_num8 g)
 have hg := g.toNat_lt
 rw [rd8_eq, rdN, e, num8_list]
 simp only [List.foldl_cons, List.foldl_nil, UInt8.toNat_ofNat']
 rw [← UInt64.toNat_inj, UInt64.toNat_ofNat']
 omega
def nextF (g s : UInt64) (b : By) : Option By :=
 if b.length < 64 then none else
 if (rd8 (b.drop 49)).toNat < 1 ∨ b.length - 57 < (rd8 (b.drop 49)).toNat then none else
 if (recB g s ((b.drop 57).take (rd8 (b.drop 49)).toNat)).length ≤ b.length ∧ recB g s ((b.drop 57).take (rd8 (b.drop 49)).toNat) = b.take (recB g s ((b.drop 57).take (rd8 (b.drop 49)).toNat)).length then some ((b.drop 57).take (rd8 (b.drop 49)).toNat) else none
theorem nextF_len {g s : UInt64} {b x : By} (h : nextF g s b = some x) : 1 ≤ x.length ∧ recL x.length ≤ b.length ∧ b.take (recL x.length) = recB g s x ∧ 64 ≤ recL x.length ∧ x.length ≤ b.length := by
 unfold nextF at h
 split at h
 ·cases h
 ·split at h
  ·cases h
  ·split at h
   ·rename_i h1 h2 h3
    cases h
    have hl : ((b.drop 57).take (rd8 (b.drop 49)).toNat).length = (rd8 (b.drop 49)).toNat := by rw [List.length_take, List.length_drop]; omega
    rw [length_recB] at h3
    refine ⟨by omega, h3.1, h3.2.symm, ?_, by omega⟩
    rw [hl, recL]
    omega
   ·cases h
theorem nextF_rec {g s : UInt64} {x t : By} (h1 : 1 ≤ x.length) (h2 : x.length < 18446744073709551616) : nextF g s (recB g s x ++ t) = some x := by
 have hlen : (recB g s x ++ t).length = recL x.length + t.length := by rw [List.length_append, length_recB]
 have hn : (UInt64.ofNat x.length).toNat = x.length := by rw [UInt64.toNat_ofNat', Nat.mod_eq_of_lt h2]
 obtain ⟨z, hz⟩ : ∃ z, recB g s x = 74 :: (num8 g ++ (num8 s ++ (sum (textB g s x) ++ (num8 (UInt64.ofNat x.length) ++ (x ++ z))))) := ⟨_, by simp only [recB, pad64, List.cons_append, List.append_assoc]; rfl⟩
 have e49 : (recB g s x ++ t).drop 49 = num8 (UInt64.ofNat x.length) ++ (x ++ (z ++ t)) := by
  rw [hz]
  have e : (74 :: (num8 g ++ (num8 s ++ (sum (textB g s x) ++ (num8 (UInt64.ofNat x.length) ++ (x ++ z)))))) ++ t = (74 :: (num8 g ++ (num8 s ++ sum (textB g s x)))) ++ (num8 (UInt64.ofNat x.length) ++ (x ++ (z ++ t))) := by simp
  rw [e]
  exact List.drop_left' (by simp [length_num8, length_sum])
 have e57 : (recB g s x ++ t).drop 57 = x ++ (z ++ t) := by
  have : (recB g s x ++ t).drop 57 = ((recB g s x ++ t).drop 49).drop 8 := by rw [List.drop_drop]
  rw [this, e49]
  exact List.drop_left' (length_num8 _)
 have er : rd8 ((recB g s x ++ t).drop 49) = UInt64.ofNat x.length := by rw [e49]; exact rd8_num8 _ _
 have ex : ((recB g s x ++ t).drop 57).take (rd8 ((recB g s x ++ t).drop 49)).toNat = x := by rw [er, hn, e57]; exact List.take_left' rfl
 unfold nextF
 rw [if_neg (by rw [hlen, recL]; omega), if_neg (by rw [er, hn, hlen, recL]; omega), ex, if_pos ⟨by rw [hlen, length_recB]; omega, by rw [List.take_left' rfl]⟩]
theorem nextF_zero {g s : UInt64} {b : By} (h : (rd8 (b.drop 49)).toNat = 0) : nextF g s b = none := by
 unfold nextF
 split
 ·rfl
 ·rw [if_pos (by omega)]
theorem nextF_short {g s : UInt64} {b : By} (h : b.length < 64) : nextF g s b = none := by
 unfold nextF
 rw [if_pos h]
theorem rd8_zero {k : Nat} : rd8 (List.replicate k 0) = 0 := by
 rw [rd8, List.take_replicate]
 induction min 8 k with
 | zero => rfl
 | succ n ih => rw [List.replicate_succ, List.foldl_cons]; exact ih
def recsF (g : UInt64) : Nat → Nat → By → List By
 | 0, _, _ => []
 | f + 1, k, b => match nextF g (UInt64.ofNat k) b with
  | none => []
  | some x => x :: recsF g f (k + 1) (b.drop (recL x.length))
theorem recsF_none {g : UInt64} {f k : Nat} {b : By} (h : nextF g (UInt64.ofNat k) b = none) : recsF g f k b = [] := by
 cases f with
 | zero => rfl
 | succ f => rw [recsF, h]
theorem recsF_some {g : UInt64} {f k : Nat} {b x : By} (h : nextF g (UInt64.ofNat k) b = some x) : recsF g (f + 1) k b = x :: recsF g f (k + 1) (b.drop (recL x.length)) := by rw [recsF, h]
def sizeL (l : List By) : Nat := (l.map fun x => recL x.length).sum
theorem sizeL_snoc {l : List By} {x : By} : sizeL (l ++ [x]) = sizeL l + recL x.length := by simp [sizeL]
theorem sizeL_cons {l : List By} {x : By} : sizeL (x :: l) = recL x.length + sizeL l := by simp [sizeL]
theorem sizeL_ge {l : List By} : l.length * 64 ≤ sizeL l := by
 induction l with
 | nil => simp
 | cons x l ih => rw [sizeL_cons, List.length_cons]; unfold recL; omega
theorem sizeL_mod {l : List By} : sizeL l % 64 = 0 := by
 induction l with
 | nil => rfl
 | cons x l ih => rw [sizeL_cons]; unfold recL; omega
def recs (g : UInt64) (half : By) : List By := recsF g half.length 0 (half.drop 64)
def allB (g : UInt64) : Nat → List By → By
 | _, [] => []
 | k, x :: l => recB g (UInt64.ofNat k) x ++ allB g (k + 1) l
theorem length_allB {g : UInt64} : ∀ {k : Nat} {l : List By}, (allB g k l).length = sizeL l
 | _, [] => rfl
 | k, x :: l => by rw [allB, List.length_append, length_recB, length_allB, sizeL_cons]
theorem allB_snoc {g : UInt64} : ∀ {k : Nat} {l : List By} {x : By}, allB g k (l ++ [x]) = allB g k l ++ recB g (UInt64.ofNat (k + l.length)) x
 | k, [], x => by simp [allB]
 | k, y :: l, x => by
  rw [List.cons_append, allB, allB, allB_snoc, List.append_assoc, List.length_cons, show k + 1 + l.length = k + (l.length + 1) by omega]
def Okr (l : List By) : Prop := ∀ x ∈ l, 1 ≤ x.length ∧ x.length ≤ 1048576
theorem recs_all {g : UInt64} : ∀ {l : List By} {f k : Nat} {t : By}, (∀ x ∈ l, 1 ≤ x.length ∧ x.length < 18446744073709551616) → nextF g (UInt64.ofNat (k + l.length)) t = none → l.length ≤ f → recsF g f k (allB g k l ++ t) = l
 | [], f, k, t, _, ht, _ => recsF_none ht
 | x :: l, f, k, t, hl, ht, hf => by
  obtain ⟨f, rfl⟩ : ∃ f', f = f' + 1 := ⟨f - 1, by simp at hf; omega⟩
  obtain ⟨h1, h2⟩ := hl x List.mem_cons_self
  rw [allB, List.append_assoc, recsF_some (nextF_rec h1 h2), List.drop_left' (length_recB _ _ _)]
  rw [recs_all (fun y hy => hl y (List.mem_cons_of_mem _ hy)) (by rw [show k + 1 + l.length = k + (x :: l).length by simp; omega]; exact ht) (by simp at hf; omega)]
theorem recs_there {g : UInt64} : ∀ {f k : Nat} {b : By}, b.length ≤ f → sizeL (recsF g f k b) ≤ b.length ∧ b.take (sizeL (recsF g f k b)) = allB g k (recsF g f k b) ∧ nextF g (UInt64.ofNat (k + (recsF g f k b).length)) (b.drop (sizeL (recsF g f k b))) = none ∧ ∀ x ∈ recsF g f k b, 1 ≤ x.length ∧ x.length ≤ b.length
 | 0, k, b, hb => by
  have : b = [] := List.eq_nil_of_length_eq_zero (by omega)
  subst this
  exact ⟨Nat.le_refl _, rfl, nextF_short (by simp), by simp [recsF]⟩
 | f + 1, k, b, hb => by
  cases h : nextF g (UInt64.ofNat k) b with
  | none =>
   rw [recsF_none h]
   exact ⟨Nat.zero_le _, rfl, by simpa [sizeL] using h, by simp⟩
  | some x =>
   rw [recsF_some h]
   obtain ⟨h1, h2, h3, h4, h5⟩ := nextF_len h
   obtain ⟨i1, i2, i3, i4⟩ := recs_there (g := g) (f := f) (k := k + 1) (b := b.drop (recL x.length)) (by rw [List.length_drop]; omega)
   rw [List.length_drop] at i1 i4
   rw [sizeL_cons]
   refine ⟨by omega, ?_, ?_, fun y hy => ?_⟩
   ·rw [allB, List.take_add, h3, i2]
   ·rw [← List.drop_drop, List.length_cons, show k + ((recsF g f (k + 1) (b.drop (recL x.length))).length + 1) = k + 1 + (recsF g f (k + 1) (b.drop (recL x.length))).length by omega]
    exact i3
   ·rcases List.mem_cons.1 hy with rfl | hy
    ·exact ⟨h1, h5⟩
    ·have := i4 y hy; exact ⟨this.1, by omega⟩
def begF (h : By) : UInt64 := if 0 < (rd8 (h.drop 1)).toNat ∧ h.take 64 = headB (rd8 (h.drop 1)) then rd8 (h.drop 1) else 0
theorem begF_head {g : UInt64} {t : By} (h : 0 < g.toNat) : begF (headB g ++ t) = g := by
 obtain ⟨z, hz⟩ : ∃ z, headB g = 72 :: (num8 g ++ z) := ⟨_, by simp only [headB, pad64, List.cons_append, List.append_assoc]; rfl⟩
 have e : rd8 ((headB g ++ t).drop 1) = g := by
  rw [hz, List.cons_append, List.drop_succ_cons, List.drop_zero, List.append_assoc]
  exact rd8_num8 _ _
 unfold begF
 rw [e, if_pos ⟨h, List.take_left' (length_headB g)⟩]
theorem begF_is {h : By} {g : UInt64} (hb : begF h = g) (h0 : 0 < g.toNat) : h.take 64 = headB g := by
 unfold begF at hb
 split at hb
 ·rename_i h1
  rw [← hb]
  exact h1.2
 ·rw [← hb] at h0; exact absurd h0 (by decide)
def halfB (b : By) (n k : Nat) : By := (b.drop (k * n)).take n
def pickF (b : By) (n : Nat) : Nat × UInt64 := if begF (halfB b n 0) < begF (halfB b n 1) then (1, begF (halfB b n 1)) else (0, begF (halfB b n 0))
def readF (b : By) : UInt64 × List By × Nat :=
 if b.length % 64 ≠ 0 ∨ b.length < 512 then (0, [], 1) else
 if (pickF b (b.length / 64 / 2 * 64)).2 = 0 then (0, [], 0) else
 ((pickF b (b.length / 64 / 2 * 64)).2, recs (pickF b (b.length / 64 / 2 * 64)).2 (halfB b (b.length / 64 / 2 * 64) (pickF b (b.length / 64 / 2 * 64)).1), 0)
end JR
end Go.Proofs.YtladpaehbolghaaGreat

namespace Go.Proofs.YtladpaehbolghaaGreat
open Go Go.RowKit K SH
section
variable {m : Mem} {wI : World}
theorem c_same17 {av bv : Value} {a b : List UInt8} (him : Im m wI) (ha : SlM m av 1 a.length (bs a)) (hb : SlM m bv 1 b.length (bs b)) :
  Ret Tryz.prog 15 #[av, bv] wI fun v w' => Tch wI w' [] [] ∧ v = .bool (decide (a = b)) := by
 refine ret_of Tryz.call15 Tryz.func15 rfl Tryz.ntmps15 Tryz.results15 rfl ?_
 refine wc_seq ?_
 refine wc_region ?_
 refine wl_val (v_assign' (by conv => (lhs; whnf))) rfl ?_
 refine wl_nil ?_
 refine then_go ?_
 refine wc_seq ?_
 refine wc_region ?_
 refine wl_val (v_move' (by conv => (lhs; whnf))) rfl ?_
 refine wl_val (v_b2s Tryz.underlying23 Tryz.underlying5 Tryz.underlying9 him ha rfl) rfl ?_
 refine wl_val (v_move' (by conv => (lhs; whnf))) rfl ?_
 refine wl_val (v_b2s Tryz.underlying23 Tryz.underlying5 Tryz.underlying9 him hb rfl) rfl ?_
 refine wl_val (v_eqs rfl rfl) rfl ?_
 refine wl_val (v_assign' (by conv => (lhs; whnf))) rfl ?_
 refine wl_nil ?_
 refine then_go ?_
 refine wc_ret ?_
 exact ret1 rfl ⟨Tch.refl _ _, rfl⟩
theorem c_bclone {v : Value} {l : List UInt8} (him : Im m wI) (hv : SlM m v 1 l.length (bs l)) (hL : l.length ≤ 1099511627776) :
  Ret Tryz.prog 62 #[v] wI fun v' w' => Out m wI w' fun m' => SlM m' v' 1 l.length (bs l) := by
 have st := St.start him
 obtain ⟨_, a, cap, rfl, _⟩ := id hv
 refine ret_of Tryz.call62 Tryz.func62 rfl Tryz.ntmps62 Tryz.results62 rfl ?_
 refine wc_seq ?_
 refine wc_region ?_
 refine wl_val (v_assign' (by conv => (lhs; whnf))) rfl ?_
 refine wl_nil ?_
 refine then_go ?_
 refine wc_seq ?_
 refine wc_seq ?_
 refine wc_region ?_
 refine wl_val (v_move' (by conv => (lhs; whnf))) rfl ?_
 refine wl_val (v_eq_nilS Tryz.underlying23 rfl rfl) rfl ?_
 refine wl_nil ?_
 refine then_go ?_
 refine wc_cond rfl (fun h4 => ?_) (fun h4 => ?_)
 ·refine wc_seq ?_
  refine wc_region ?_
  refine wl_val (v_assign' (by conv => (lhs; whnf))) rfl ?_
  refine wl_nil ?_
  refine then_go ?_
  refine wc_ret (then_ret ?_)
  have hL0 : l = [] := by
   obtain ⟨_, a', c', he, hk, hn, _⟩ := hv
   cases he
   have := hn (by simpa using h4)
   exact List.eq_nil_of_length_eq_zero (by omega)
  subst hL0
  exact ret1 rfl (st.out SlM.nil)
 ·refine wc_skip ?_
  refine then_go ?_
  refine wc_seq ?_
  refine wc_region ?_
  refine wl_buildSlice0 (size := 1) Tryz.underlying23 TF.t5 st rfl ?_
  intro v5 w st
  have st : St m m [] wI w [rowE v5 5 1 ([] : List UInt8).length (bs [])] := st
  refine wl_val (v_move' (by conv => (lhs; whnf))) rfl ?_
  refine wl_appB (l2 := l) st Tryz.underlying23 Tryz.underlying23 (.inr ⟨_, rfl⟩) TF.t5 TF.z5 rfl rfl (hv.src st.im (one_bs _)) (by simp; omega) (by simp; omega) rfl ?_
  intro v7 w st hv7
  refine wl_val (v_assign' (by conv => (lhs; whnf))) rfl ?_
  refine wl_nil ?_
  refine then_go ?_
  refine wc_ret ?_
  exact ret1 rfl st.bytesOut
theorem c_bequal {av bv : Value} {a b : List UInt8} (him : Im m wI) (ha : SlM m av 1 a.length (bs a)) (hb : SlM m bv 1 b.length (bs b)) :
  Ret Tryz.prog 116 #[av, bv] wI fun v w' => Tch wI w' [] [] ∧ v = .bool (decide (a = b)) := by
 have st := St.start him
 refine ret_of Tryz.call116 Tryz.func116 rfl Tryz.ntmps116 Tryz.results116 rfl ?_
 refine wc_seq ?_
 refine wc_region ?_
 refine wl_val (v_assign' (by conv => (lhs; whnf))) rfl ?_
 refine wl_nil ?_
 refine then_go ?_
 refine wc_seq ?_
 refine wc_region ?_
 refine wl_val (v_move' (by conv => (lhs; whnf))) rfl ?_
 refine wl_val (v_b2s Tryz.underlying23 Tryz.underlying5 Tryz.underlying9 st.im ha rfl) rfl ?_
 refine wl_val (v_move' (by conv => (lhs; whnf))) rfl ?_
 refine wl_val (v_b2s Tryz.underlying23 Tryz.underlying5 Tryz.underlying9 st.im hb rfl) rfl ?_
 refine wl_val (v_eqs rfl rfl) rfl ?_
 refine wl_val (v_assign' (by conv => (lhs; whnf))) rfl ?_
 refine wl_nil ?_
 refine then_go ?_
 refine wc_ret ?_
 exact ret1 rfl ⟨st.touch, rfl⟩
end
end Go.Proofs.YtladpaehbolghaaGreat

namespace Go.Proofs.YtladpaehbolghaaGreat
open Go Go.RowKit K SH DK JR
section
variable {P : Program} {r : Fr} {w : World} {ty T U : TypeId} {x y : Operand} {p q : UInt64}
theorem bv64 (a : UInt64) : BitVec.ofInt 64 (a.toNat : Int) = a.toBitVec := by
 apply BitVec.eq_of_toNat_eq
 rw [BitVec.ofInt_natCast, BitVec.toNat_ofNat, Nat.mod_eq_of_lt a.toNat_lt]
 rfl
theorem v_or64 (hx : ev r x = u64 p) (hy : ev r y = u64 q) : Val P (.binOp .or T x y U) ty r w (u64 (p ||| q)) w := by
 have h := v_or (P := P) (w := w) (ty := ty) (T := T) (U := U) hx hy
 rw [show IntKind.u64.bits = 64 from rfl, bv64, bv64, wrap_u64] at h
 rw [show p ||| q = UInt64.ofNat (p.toBitVec ||| q.toBitVec).toNat by
  apply UInt64.toNat_inj.mp
  rw [UInt64.toNat_ofNat', Nat.mod_eq_of_lt (p.toBitVec ||| q.toBitVec).isLt]
  rfl]
 exact h
theorem v_lss64 (hx : ev r x = u64 p) (hy : ev r y = u64 q) : Val P (.binOp .lss T x y U) ty r w (.bool (decide (p.toNat < q.toNat))) w := wl_valD (v_lss hx hy) (by simp)
theorem v_gtr64 (hx : ev r x = u64 p) (hy : ev r y = u64 q) : Val P (.binOp .gtr T x y U) ty r w (.bool (decide (q.toNat < p.toNat))) w := wl_valD (v_gtr hx hy) (by simp)
theorem v_eql64 (hx : ev r x = u64 p) (hy : ev r y = u64 q) : Val P (.binOp .eql T x y U) ty r w (.bool (decide (p = q))) w := wl_valD (v_eql hx hy) (by rw [decide_eq_decide, ← UInt64.toNat_inj]; omega)
theorem v_conv64i {D : TypeDesc} (hT : P.underlying T = some D) (hU : P.underlying U = some (.int .i64)) (hx : ev r x = u64 p) (hp : p.toNat < 9223372036854775808) : Val P (.convert T U x) ty r w (.int .i64 p.toNat) w := by
 have h := v_conv (P := P) (w := w) (ty := ty) hT hU hx
 rwa [wrap_i64 (by omega) (by omega)] at h
end
theorem shl_or (p : UInt64) (c : UInt8) : shl64 p 8 ||| UInt64.ofNat c.toNat = p * 256 + UInt64.ofNat c.toNat := by
 rw [← UInt64.toNat_inj, UInt64.toNat_or, UInt64.toNat_add, UInt64.toNat_mul]
 unfold shl64
 rw [UInt64.toNat_ofNat', UInt64.toNat_ofNat']
 have hc : c.toNat < 256 := c.toNat_lt
 have e : p.toNat * 2 ^ 8 % 2 ^ 64 = (p.toNat % 2 ^ 56) <<< 8 := by
  rw [Nat.shiftLeft_eq]
  omega
 have hc2 : c.toNat % 2 ^ 64 = c.toNat := by omega
 rw [e, hc2, ← Nat.shiftLeft_add_eq_or_of_lt (by omega : c.toNat < 2 ^ 8), Nat.shiftLeft_eq]
 rw [show (256 : UInt64).toNat = 256 from rfl]
 omega
abbrev byE (v : Value) (l : List UInt8) : Ent := rowE v 5 1 l.length (bs l)
theorem byE_SlM {m0 m : Mem} {F : List Nat} {w0 w : World} {Es : List Ent} {v : Value} {l : List UInt8} (st : St m0 m F w0 w Es) (i : Nat) (hi : Es[i]? = some (byE v l)) : SlM (heapM w) v 1 l.length (bs l) := row_SlM (m := heapM w) (st.at hi) (fun _ _ _ h => h)
theorem byE_one {m0 m : Mem} {F : List Nat} {w0 w : World} {Es : List Ent} {v : Value} {l : List UInt8} (st : St m0 m F w0 w Es) (i : Nat) (hi : Es[i]? = some (byE v l)) : v.oneCell' = true := SlM.one1 (byE_SlM st i hi)
section
variable {m0 m : Mem} {F : List Nat} {w0 w : World} {Es : List Ent}
theorem c_jnumber {n : UInt64} (st : St m0 m F w0 w Es) : Ret Tryz.prog 95 #[u64 n] w fun v w' => St m0 m F w0 w' (byE v (num8 n) :: Es) := by
 refine ret_of Tryz.call95 Tryz.func95 rfl Tryz.ntmps95 Tryz.results95 rfl ?_
 refine wc_seq ?_
 refine wc_region ?_
 refine wl_val (v_assign' (by conv => (lhs; whnf))) rfl ?_
 refine wl_nil ?_
 refine then_go ?_
 refine wc_seq ?_
 refine wc_region ?_
 refine wl_make (l := 8) (c := 8) Tryz.underlying23 TF.t5 TF.z5 rfl rfl rfl rfl (by omega) (by omega) (by omega) (by omega) st rfl ?_
 intro b5 w st
 have st : St m0 m F w0 w (K.blk b5 (bs ((num8 n).take 0) ++ List.replicate (8 - 0) (u8 0)).toArray 5 :: Es) := by
  have e : madeCells (Value.int .u8 0).cells (8 * 1) = (List.replicate 8 (u8 0)).toArray := by
   rw [show (Value.int .u8 0).cells = Array.replicate (0 + 1) (Value.int .u8 0) from rfl, madeCells_rep]
   rfl
  rw [e] at st
  exact st
 refine wl_val (v_assign' (by conv => (lhs; whnf))) rfl ?_
 refine wl_nil ?_
 refine then_go ?_
 refine wc_seq ?_
 refine wc_seq ?_
 refine wc_region ?_
 refine wl_val (v_move' (by conv => (lhs; whnf))) rfl ?_
 refine wl_val (v_len_s Tryz.underlying23 rfl) rfl ?_
 refine wl_val (v_move' (by conv => (lhs; whnf))) rfl ?_
 refine wl_nil ?_
 refine then_go ?_
 refine wc_block ?_
 refine wc_loop (S := Nat) (fun q r w' => ∃ i, q + i = 8 ∧ r 0 = u64 n ∧ r 3 = .slice (some ⟨b5, 0, none⟩) 8 8 ∧ r 7 = .int .i64 8 ∧ r 8 = .int .i64 i ∧ St m0 m F w0 w' (K.blk b5 (bs ((num8 n).take i) ++ List.replicate (8 - i) (u8 0)).toArray 5 :: Es)) id 8 ⟨0, rfl, rfl, rfl, rfl, rfl, st⟩ ?_
 clear st
 rintro q r w2 ⟨i, hqi, h0, h3, h7, h8, st⟩
 refine wc_o 0 h0 (wc_o 3 h3 (wc_o 7 h7 (wc_o 8 h8 ?_)))
 refine wc_seq ?_
 refine wc_region ?_
 refine wl_val (v_lss rfl rfl) rfl ?_
 refine wl_nil ?_
 refine then_go ?_
 refine wc_seq ?_
 refine wc_if rfl (fun h9 => ?_) (fun h9 => ?_)
 ·refine wc_skip ?_
  refine then_go ?_
  refine wc_seq ?_
  refine wc_block ?_
  refine wc_seq ?_
  refine wc_region ?_
  refine wl_val (v_move' (by conv => (lhs; whnf))) rfl ?_
  refine wl_val (v_assign' (by conv => (lhs; whnf))) rfl ?_
  refine wl_nil ?_
  refine then_go ?_
  have hi : i < 8 := by omega
  have hni : i < (num8 n).length := by rw [length_num8]; exact hi
  have hb : UInt8.ofNat (shr64 n (56 - 8 * i)).toNat = (num8 n)[i] := by
   unfold shr64
   rw [UInt64.toNat_ofNat', Nat.mod_eq_of_lt (Nat.lt_of_le_of_lt (Nat.div_le_self _ _) n.toNat_lt)]
   simp [num8]
  refine wc_region ?_
  refine wl_val (v_move' (by conv => (lhs; whnf))) rfl ?_
  refine wl_val (v_move' (by conv => (lhs; whnf))) rfl ?_
  refine wl_val (v_move' (by conv => (lhs; whnf))) rfl ?_
  refine wl_val (v_move' (by conv => (lhs; whnf))) rfl ?_
  refine wl_val (v_mul' (c := ((8 * i : Nat) : Int)) rfl rfl (by omega) (by omega) (by omega)) rfl ?_
  refine wl_val (v_sub' (c := ((56 - 8 * i : Nat) : Int)) rfl rfl (by omega) (by omega) (by omega)) rfl ?_
  refine wl_val (v_shr64 (p := n) (56 - 8 * i) rfl rfl (by omega)) rfl ?_
  refine wl_val (v_conv64_8 Tryz.underlying47 Tryz.underlying5 rfl) rfl ?_
  refine wl_val (v_ias i Tryz.underlying23 TF.t5 rfl rfl (by first | rfl | omega) (by first | omega | (dsimp only at *; omega))) rfl ?_
  refine wl_store1 (off := 0 + i * 1) 0 st rfl TF.t5 rfl (by conv => (lhs; whnf)) rfl (by simp [length_bs, length_num8]; omega) ?_
  intro w st
  refine wl_nil ?_
  refine block_go (then_go ?_)
  refine wc_region ?_
  refine wl_val (v_add' rfl rfl rfl (by first | omega | (dsimp only at *; omega)) (by first | omega | (dsimp only at *; omega))) rfl ?_
  refine wl_val (v_move' (by conv => (lhs; whnf))) rfl ?_
  refine wl_nil ?_
  refine then_go ?_
  refine ⟨q - 1, by simp; omega, i + 1, by omega, rfl, rfl, rfl, rfl, ?_⟩
  rw [show 8 - i = (8 - (i + 1)) + 1 by omega, List.replicate_succ] at st
  change St _ _ _ _ _ (K.blk b5 (((bs ((num8 n).take i) ++ u8 0 :: List.replicate (8 - (i + 1)) (u8 0)).toArray).setIfInBounds (0 + i * 1) (u8 _)) _ :: Es) at st
  rw [set_app (by rw [length_bs, List.length_take, length_num8]; omega), hb] at st
  rw [List.take_succ_eq_append_getElem hni, bs, List.map_append]
  simpa [bs] using st
 ·refine wc_exit (then_exit (then_exit (block_hit ?_)))
  refine then_go ?_
  refine wc_seq ?_
  refine wc_region ?_
  refine wl_val (v_move' (by conv => (lhs; whnf))) rfl ?_
  refine wl_val (v_assign' (by conv => (lhs; whnf))) rfl ?_
  refine wl_nil ?_
  refine then_go ?_
  refine wc_ret ?_
  have hi8 : i = 8 := by omega
  subst hi8
  rw [List.take_of_length_le (by rw [length_num8]; omega)] at st
  exact ret1 rfl (st.rowShut 0 (b := b5) (k := 8) (cap := 8) (size := 1) (xs := bs (num8 n)) rfl (by omega) (by simp [length_bs, length_num8]) (by omega) (by simp [← length_num8 n, ← length_bs (num8 n)]))
theorem c_whole {v : Value} {l : By} (st : St m0 m F w0 w (byE v l :: Es)) (hl : l.length ≤ 1099511627776) : Ret Tryz.prog 94 #[v] w fun v' w' => St m0 m F w0 w' (byE v' (pad64 l) :: Es) := by
 refine ret_of Tryz.call94 Tryz.func94 rfl Tryz.ntmps94 Tryz.results94 rfl ?_
 refine wc_seq ?_
 refine wc_region ?_
 refine wl_val (v_assign' (by conv => (lhs; whnf))) rfl ?_
 refine wl_nil ?_
 refine then_go ?_
 refine wc_seq ?_
 refine wc_block ?_
 refine wc_loop (S := Nat) (fun q r w' => ∃ (i : Nat) (v : Value), q + i = (64 - l.length % 64) % 64 ∧ r 0 = v ∧ St m0 m F w0 w' (byE v (l ++ List.replicate i 0) :: Es)) id ((64 - l.length % 64) % 64) ⟨0, v, by omega, rfl, by simpa using st⟩ ?_
 clear st
 rintro q r w2 ⟨i, v, hqi, h0, st⟩
 obtain ⟨va, vc, hv⟩ := row_sl (st.at (i := 0) rfl)
 subst hv
 refine wc_o 0 h0 ?_
 have hll : (l ++ List.replicate i (0 : UInt8)).length = l.length + i := by simp
 refine wc_seq ?_
 refine wc_seq ?_
 refine wc_region ?_
 refine wl_val (v_move' (by conv => (lhs; whnf))) rfl ?_
 refine wl_val (v_len_s Tryz.underlying23 rfl) rfl ?_
 refine wl_val (v_rem' (c := (((l.length + i) % 64 : Nat) : Int)) rfl rfl (by omega) (by omega) (by rw [hll]; omega)) rfl ?_
 refine wl_val (v_neq rfl rfl) rfl ?_
 refine wl_nil ?_
 refine then_go ?_
 refine wc_if rfl (fun h6 => ?_) (fun h6 => ?_)
 ·refine wc_skip ?_
  refine then_go ?_
  refine wc_block ?_
  refine wc_region ?_
  refine wl_val (v_move' (by conv => (lhs; whnf))) rfl ?_
  refine wl_byte1 0 Tryz.underlying23 TF.t5 TF.z5 rfl st rfl ?_
  intro b8 w st
  refine wl_app1 st Tryz.underlying23 TF.t5 TF.z5 rfl rfl (by omega) (by omega) rfl ?_
  intro v9 w st hv9
  have e9 : l ++ List.replicate i (0 : UInt8) ++ [0] = l ++ List.replicate (i + 1) 0 := by rw [List.append_assoc, List.replicate_succ']
  rw [e9] at st
  refine wl_val (v_assign' (by conv => (lhs; whnf))) rfl ?_
  refine wl_nil ?_
  refine block_go (then_go ?_)
  exact ⟨q - 1, by simp; omega, i + 1, v9, by omega, rfl, st⟩
 ·refine wc_exit (then_exit (then_exit (block_hit ?_)))
  refine then_go ?_
  refine wc_seq ?_
  refine wc_region ?_
  refine wl_val (v_move' (by conv => (lhs; whnf))) rfl ?_
  refine wl_val (v_assign' (by conv => (lhs; whnf))) rfl ?_
  refine wl_nil ?_
  refine then_go ?_
  refine wc_ret ?_
  have hi : i = (64 - l.length % 64) % 64 := by omega
  subst hi
  exact ret1 rfl st
theorem c_cdigest {v : Value} {l d : By} (st : St m0 m F w0 w (byE v l :: Es)) (hd : d.length = 32) (hl : l.length ≤ 1099511627776) : Ret Tryz.prog 92 #[v, arr d] w fun v' w' => St m0 m F w0 w' (byE v' (l ++ d) :: Es) := by
 refine ret_of Tryz.call92 Tryz.func92 rfl Tryz.ntmps92 Tryz.results92 rfl ?_
 refine wc_seq ?_
 refine wc_region ?_
 refine wl_box (v := arr d) rfl st rfl ?_
 intro b3 w st
 refine wl_val (v_assign' (by conv => (lhs; whnf))) rfl ?_
 refine wl_nil ?_
 refine then_go ?_
 refine wc_seq ?_
 refine wc_region ?_
 refine wl_val (v_move' (by conv => (lhs; whnf))) rfl ?_
 refine wl_val (v_sla 0 32 Tryz.underlying141 TF.t5 rfl rfl rfl (by omega) (by omega) (by omega)) rfl ?_
 refine wl_appBi (l2 := d) 1 st rfl Tryz.underlying23 Tryz.underlying23 (.inr ⟨_, rfl⟩) TF.t5 TF.z5 rfl rfl (st.srcArr (off := 0) (k := 32) 0 rfl (by rw [length_bs, hd]) (fun j u hj => by simpa [arr, Value.cells] using hj) (one_bs _)) (by omega) (by omega) rfl ?_
 intro v7 w st hv7
 refine wl_val (v_assign' (by conv => (lhs; whnf))) rfl ?_
 refine wl_nil ?_
 refine then_go ?_
 refine wc_ret ?_
 exact ret1 rfl (st.drop 0)
theorem c_jhead {g : UInt64} (st : St m0 m F w0 w Es) : Ret Tryz.prog 106 #[u64 g] w fun v w' => St m0 m F w0 w' (byE v (headB g) :: Es) := by
 have h8 := length_num8 g
 refine ret_of Tryz.call106 Tryz.func106 rfl Tryz.ntmps106 Tryz.results106 rfl ?_
 refine wc_seq ?_
 refine wc_region ?_
 refine wl_val (v_assign' (by conv => (lhs; whnf))) rfl ?_
 refine wl_nil ?_
 refine then_go ?_
 refine wc_seq ?_
 refine wc_region ?_
 refine wl_byteR 72 Tryz.underlying23 TF.t5 TF.z5 rfl st rfl ?_
 intro b4 w st
 refine wl_val (v_move' (by conv => (lhs; whnf))) rfl ?_
 refine wl_call rfl (c_jnumber st) rfl ?_
 intro v6 w st
 refine wl_appBi (l2 := num8 g) 1 st rfl Tryz.underlying23 Tryz.underlying23 (.inr ⟨_, rfl⟩) TF.t5 TF.z5 rfl rfl ((byE_SlM st 0 rfl).src (im_heapM _) (one_bs _)) (by simp; omega) (by simp; omega) rfl ?_
 intro v7 w st hv7
 have st : St m0 m F w0 w (byE v7 (72 :: num8 g) :: Es) := st.drop 0
 refine wl_val (v_assign' (by conv => (lhs; whnf))) rfl ?_
 refine wl_nil ?_
 refine then_go ?_
 refine wc_seq ?_
 refine wc_region ?_
 refine wl_val (v_move' (by conv => (lhs; whnf))) rfl ?_
 refine wl_val (v_move' (by conv => (lhs; whnf))) rfl ?_
 refine wl_call rfl (c_tagsof (im_heapM _) (byE_SlM st 0 rfl) (by simp; omega)) rfl ?_
 rintro v10 w ⟨t10, rfl⟩
 have st := st.pure t10
 refine wl_call rfl (c_cdigest st (length_sum _) (by simp; omega)) rfl ?_
 intro v11 w st
 refine wl_call rfl (c_whole st (by simp [length_sum]; omega)) rfl ?_
 intro v12 w st
 refine wl_val (v_assign' (by conv => (lhs; whnf))) rfl ?_
 refine wl_nil ?_
 refine then_go ?_
 refine wc_ret ?_
 exact ret1 rfl st
theorem c_jtext {g s : UInt64} {v : Value} {b : By} (st : St m0 m F w0 w Es) (hb : SlM m v 1 b.length (bs b)) (hl : b.length ≤ 1000000000) : Ret Tryz.prog 91 #[u64 g, u64 s, v] w fun v' w' => St m0 m F w0 w' (byE v' (textB g s b) :: Es) := by
 have h8 := length_num8 g
 have h9 := length_num8 s
 refine ret_of Tryz.call91 Tryz.func91 rfl Tryz.ntmps91 Tryz.results91 rfl ?_
 refine wc_seq ?_
 refine wc_region ?_
 refine wl_val (v_assign' (by conv => (lhs; whnf))) rfl ?_
 refine wl_nil ?_
 refine then_go ?_
 refine wc_seq ?_
 refine wc_region ?_
 refine wl_byteR 74 Tryz.underlying23 TF.t5 TF.z5 rfl st rfl ?_
 intro b7 w st
 refine wl_val (v_move' (by conv => (lhs; whnf))) rfl ?_
 refine wl_call rfl (c_jnumber st) rfl ?_
 intro v9 w st
 refine wl_appBi (l2 := num8 g) 1 st rfl Tryz.underlying23 Tryz.underlying23 (.inr ⟨_, rfl⟩) TF.t5 TF.z5 rfl rfl ((byE_SlM st 0 rfl).src (im_heapM _) (one_bs _)) (by simp; omega) (by simp; omega) rfl ?_
 intro v10 w st hv10
 have st : St m0 m F w0 w (byE v10 (74 :: num8 g) :: Es) := st.drop 0
 refine wl_val (v_move' (by conv => (lhs; whnf))) rfl ?_
 refine wl_call rfl (c_jnumber st) rfl ?_
 intro v12 w st
 refine wl_appBi (l2 := num8 s) 1 st rfl Tryz.underlying23 Tryz.underlying23 (.inr ⟨_, rfl⟩) TF.t5 TF.z5 rfl rfl ((byE_SlM st 0 rfl).src (im_heapM _) (one_bs _)) (by simp; omega) (by simp; omega) rfl ?_
 intro v13 w st hv13
 have st : St m0 m F w0 w (byE v13 (74 :: num8 g ++ num8 s) :: Es) := st.drop 0
 refine wl_val (v_move' (by conv => (lhs; whnf))) rfl ?_
 refine wl_appB (l2 := b) st Tryz.underlying23 Tryz.underlying23 (.inr ⟨_, rfl⟩) TF.t5 TF.z5 rfl rfl (hb.src st.im (one_bs _)) (by simp; omega) (by simp; omega) rfl ?_
 intro v15 w st hv15
 have e : 74 :: num8 g ++ num8 s ++ b = textB g s b := by simp [textB]
 rw [e] at st
 refine wl_val (v_assign' (by conv => (lhs; whnf))) rfl ?_
 refine wl_nil ?_
 refine then_go ?_
 refine wc_ret ?_
 exact ret1 rfl st
theorem K.St.newOf {n : Mem} {w' : World} {E : Ent} (st : St m0 m F w0 w Es) (s : St n n [] w w' [E]) : St m0 m F w0 w' (E :: Es) := by
 have h := St.finish (l := [E]) (Es := []) s
 refine st.new (E := E) ⟨h.1.os, h.1.tape, h.1.output, h.1.size, h.1.block, fun k hk => h.1.out k (by simpa [joinE] using hk)⟩ (s.holds E (by simp))
theorem c_jrecord {g s : UInt64} {v : Value} {b : By} (st : St m0 m F w0 w Es) (hb : SlM m v 1 b.length (bs b)) (hl : b.length ≤ 1000000000) : Ret Tryz.prog 74 #[u64 g, u64 s, v] w fun v' w' => St m0 m F w0 w' (byE v' (recB g s b) :: Es) := by
 have h8 := length_num8 g
 have h9 := length_num8 s
 obtain ⟨ba, bc, hbv⟩ : ∃ a c, v = .slice a b.length c := by obtain ⟨_, a, c, h, _⟩ := hb; exact ⟨a, c, h⟩
 subst hbv
 refine ret_of Tryz.call74 Tryz.func74 rfl Tryz.ntmps74 Tryz.results74 rfl ?_
 refine wc_seq ?_
 refine wc_region ?_
 refine wl_val (v_assign' (by conv => (lhs; whnf))) rfl ?_
 refine wl_nil ?_
 refine then_go ?_
 refine wc_seq ?_
 refine wc_region ?_
 refine wl_val (v_move' (by conv => (lhs; whnf))) rfl ?_
 refine wl_val (v_move' (by conv => (lhs; whnf))) rfl ?_
 refine wl_call rfl (c_jtext (b := []) st SlM.nil (by decide)) rfl ?_
 intro v10 w st
 have st : St m0 m F w0 w (byE v10 (74 :: (num8 g ++ (num8 s ++ []))) :: Es) := st
 refine wl_val (v_assign' (by conv => (lhs; whnf))) rfl ?_
 refine wl_nil ?_
 refine then_go ?_
 refine wc_seq ?_
 refine wc_region ?_
 refine wl_val (v_move' (by conv => (lhs; whnf))) rfl ?_
 refine wl_val (v_move' (by conv => (lhs; whnf))) rfl ?_
 refine wl_val (v_move' (by conv => (lhs; whnf))) rfl ?_
 refine wl_val (v_move' (by conv => (lhs; whnf))) rfl ?_
 refine wl_call rfl (c_jtext st hb hl) rfl ?_
 intro v15 w st
 refine wl_call rfl (c_tagsof (im_heapM _) (byE_SlM st 0 rfl) (by rw [length_textB]; omega)) rfl ?_
 rintro v16 w ⟨t16, rfl⟩
 have st := st.pure t16
 have st : St m0 m F w0 w (byE v10 (74 :: (num8 g ++ (num8 s ++ []))) :: Es) := st.drop 0
 refine wl_call rfl (c_cdigest st (length_sum _) (by simp; omega)) rfl ?_
 intro v17 w st
 refine wl_val (v_assign' (by conv => (lhs; whnf))) rfl ?_
 refine wl_nil ?_
 refine then_go ?_
 refine wc_seq ?_
 refine wc_region ?_
 refine wl_val (v_move' (by conv => (lhs; whnf))) rfl ?_
 refine wl_val (v_move' (by conv => (lhs; whnf))) rfl ?_
 refine wl_val (v_len_s Tryz.underlying23 rfl) rfl ?_
 refine wl_val (v_convi_64 Tryz.underlying3 Tryz.underlying47 rfl) rfl ?_
 refine wl_call rfl (c_jnumber st) rfl ?_
 intro v22 w st
 have h10 := length_num8 (UInt64.ofNat b.length)
 have hsl := length_sum (textB g s b)
 refine wl_appBi (l2 := num8 (UInt64.ofNat b.length)) 1 st rfl Tryz.underlying23 Tryz.underlying23 (.inr ⟨_, rfl⟩) TF.t5 TF.z5 rfl rfl ((byE_SlM st 0 rfl).src (im_heapM _) (one_bs _)) (by simp; omega) (by simp; omega) rfl ?_
 intro v23 w st hv23
 have st : St m0 m F w0 w (byE v23 _ :: Es) := st.drop 0
 refine wl_val (v_move' (by conv => (lhs; whnf))) rfl ?_
 refine wl_appB (l2 := b) st Tryz.underlying23 Tryz.underlying23 (.inr ⟨_, rfl⟩) TF.t5 TF.z5 rfl rfl (hb.src st.im (one_bs _)) (by simp; omega) (by simp; omega) rfl ?_
 intro v25 w st hv25
 refine wl_call rfl (c_whole st (by simp; omega)) rfl ?_
 intro v26 w st
 have e : pad64 (74 :: (num8 g ++ (num8 s ++ [])) ++ sum (textB g s b) ++ num8 (UInt64.ofNat b.length) ++ b) = recB g s b := by simp [recB]
 rw [e] at st
 refine wl_val (v_assign' (by conv => (lhs; whnf))) rfl ?_
 refine wl_nil ?_
 refine then_go ?_
 refine wc_ret ?_
 exact ret1 rfl st
theorem c_length {v : Value} {b : By} (him : Im m w) (hb : SlM m v 1 b.length (bs b)) (hl : 8 ≤ b.length) : Ret Tryz.prog 115 #[v] w fun v' w' => Tch w w' [] [] ∧ v' = u64 (rd8 b) := by
 have st := St.start him
 obtain ⟨b0, o0, cap, rfl, hcap⟩ := hb.ptr1 (by omega) (by decide)
 have hb8 := SlM.subB 0 8 hb (by omega) hl
 have hl8 : ((b.drop 0).take (8 - 0)).length = 8 := by simp; omega
 have hrd : rd8 b = ((b.drop 0).take (8 - 0)).foldl (fun n c => n * 256 + UInt64.ofNat c.toNat) 0 := rfl
 obtain ⟨b8, hb8e⟩ : ∃ b8, b8 = (b.drop 0).take (8 - 0) := ⟨_, rfl⟩
 rw [← hb8e] at hb8 hl8 hrd
 obtain ⟨b1, o1, c1, he, _⟩ := hb8.ptr1 (by omega) (by decide)
 rw [he] at hb8
 have hb8 : SlM m (.slice (some ⟨b1, o1, none⟩) 8 c1) 1 8 (bs b8) := hb8
 refine ret_of Tryz.call115 Tryz.func115 rfl Tryz.ntmps115 Tryz.results115 rfl ?_
 refine wc_seq ?_
 refine wc_region ?_
 refine wl_val (v_assign' (by conv => (lhs; whnf))) rfl ?_
 refine wl_nil ?_
 refine then_go ?_
 refine wc_seq ?_
 refine wc_region ?_
 refine wl_val (v_assign' (by conv => (lhs; whnf))) rfl ?_
 refine wl_nil ?_
 refine then_go ?_
 refine wc_seq ?_
 refine wc_seq ?_
 refine wc_region ?_
 refine wl_val (v_move' (by conv => (lhs; whnf))) rfl ?_
 refine wl_val (v_to (v' := .slice (some ⟨b1, o1, none⟩) 8 c1) (v_sls 0 8 Tryz.underlying23 TF.t5 rfl rfl ⟨_, _, rfl, rfl⟩ (by omega) (by omega)) he) rfl ?_
 refine wl_val (v_len_s Tryz.underlying23 rfl) rfl ?_
 refine wl_val (v_move' (by conv => (lhs; whnf))) rfl ?_
 refine wl_nil ?_
 refine then_go ?_
 refine wc_block ?_
 refine wc_loop (S := Nat) (fun q r w' => ∃ i, q + i = 8 ∧ r 3 = u64 ((b8.take i).foldl (fun n c => n * 256 + UInt64.ofNat c.toNat) 0) ∧ r 7 = .slice (some ⟨b1, o1, none⟩) 8 c1 ∧ r 8 = .int .i64 8 ∧ r 9 = .int .i64 i ∧ St m m [] w w' []) id 8 ⟨0, rfl, rfl, rfl, rfl, rfl, st⟩ ?_
 clear st
 rintro q r w2 ⟨i, hqi, h3, h7, h8, h9, st⟩
 refine wc_o 3 h3 (wc_o 7 h7 (wc_o 8 h8 (wc_o 9 h9 ?_)))
 refine wc_seq ?_
 refine wc_region ?_
 refine wl_val (v_lss rfl rfl) rfl ?_
 refine wl_nil ?_
 refine then_go ?_
 refine wc_seq ?_
 refine wc_if rfl (fun h10 => ?_) (fun h10 => ?_)
 ·refine wc_skip ?_
  refine then_go ?_
  refine wc_seq ?_
  refine wc_block ?_
  refine wc_seq ?_
  have hi : i < b8.length := by omega
  refine wc_region ?_
  refine wl_val (v_ias i Tryz.underlying23 TF.t5 rfl rfl (by first | rfl | omega) (by first | omega | (dsimp only at *; omega))) rfl ?_
  refine wl_val (v_load rfl (SlM.rdB TF.t5 i hb8 hi st.im)) rfl ?_
  refine wl_val (v_assign' (by conv => (lhs; whnf))) rfl ?_
  refine wl_nil ?_
  refine then_go ?_
  refine wc_region ?_
  refine wl_val (v_move' (by conv => (lhs; whnf))) rfl ?_
  refine wl_val (v_shl64 (p := (b8.take i).foldl (fun n c => n * 256 + UInt64.ofNat c.toNat) 0) 8 rfl rfl (by omega)) rfl ?_
  refine wl_val (v_move' (by conv => (lhs; whnf))) rfl ?_
  refine wl_val (v_convi_64 (n := b8[i].toNat) Tryz.underlying5 Tryz.underlying47 rfl) rfl ?_
  refine wl_val (v_or64 rfl rfl) rfl ?_
  refine wl_val (v_assign' (by conv => (lhs; whnf))) rfl ?_
  refine wl_nil ?_
  refine block_go (then_go ?_)
  refine wc_region ?_
  refine wl_val (v_add' rfl rfl rfl (by first | omega | (dsimp only at *; omega)) (by first | omega | (dsimp only at *; omega))) rfl ?_
  refine wl_val (v_move' (by conv => (lhs; whnf))) rfl ?_
  refine wl_nil ?_
  refine then_go ?_
  refine ⟨q - 1, by simp; omega, i + 1, by omega, ?_, rfl, rfl, rfl, st⟩
  rw [List.take_succ_eq_append_getElem hi, List.foldl_append, List.foldl_cons, List.foldl_nil, ← shl_or]
  rfl
 ·refine wc_exit (then_exit (then_exit (block_hit ?_)))
  refine then_go ?_
  refine wc_seq ?_
  refine wc_region ?_
  refine wl_val (v_move' (by conv => (lhs; whnf))) rfl ?_
  refine wl_val (v_assign' (by conv => (lhs; whnf))) rfl ?_
  refine wl_nil ?_
  refine then_go ?_
  refine wc_ret ?_
  have hi8 : i = 8 := by omega
  subst hi8
  have e8 : b8.take 8 = b8 := List.take_of_length_le (by omega)
  exact ret1 rfl ⟨st.touch, by rw [hrd, e8]; rfl⟩
end
end Go.Proofs.YtladpaehbolghaaGreat

namespace Go.Proofs.YtladpaehbolghaaGreat
open Go Go.RowKit K SH GC
set_option maxRecDepth 100000 in
theorem or128 (k : Nat) : UInt8.ofNat k ||| 128 = UInt8.ofNat (k % 128 + 128) := by
 have key : ∀ m : Fin 256, UInt8.ofNat m.val ||| 128 = UInt8.ofNat (m.val % 128 + 128) := by decide
 have h := key ⟨k % 256, Nat.mod_lt _ (by decide)⟩
 have e1 : UInt8.ofNat (k % 256) = UInt8.ofNat k := by
  apply UInt8.toNat_inj.mp
  rw [UInt8.toNat_ofNat', UInt8.toNat_ofNat']
  omega
 have e2 : k % 256 % 128 = k % 128 := by omega
 rw [← e1, h]
 show UInt8.ofNat (k % 256 % 128 + 128) = _
 rw [e2]
theorem shr7 (n : UInt64) : (shr64 n 7).toNat = n.toNat / 128 := by
 unfold shr64
 rw [UInt64.toNat_ofNat', Nat.mod_eq_of_lt (Nat.lt_of_le_of_lt (Nat.div_le_self _ _) n.toNat_lt)]
section
variable {m0 m : Mem} {F : List Nat} {w0 w : World} {Es : List Ent}
theorem c_cnum {v : Value} {l : List UInt8} {n : UInt64} (st : St m0 m F w0 w (byE v l :: Es)) (hl : l.length ≤ 1099511627776) : Ret Tryz.prog 43 #[v, u64 n] w fun v' w' => St m0 m F w0 w' (byE v' (l ++ numB n.toNat) :: Es) := by
 obtain ⟨A, hA⟩ : ∃ A, A = l ++ numB n.toNat := ⟨_, rfl⟩
 have hn10 := numB_len10 n.toNat_lt
 have hAl : A.length ≤ 1099511627786 := by rw [hA, List.length_append]; omega
 rw [← hA]
 refine ret_of Tryz.call43 Tryz.func43 rfl Tryz.ntmps43 Tryz.results43 rfl ?_
 refine wc_seq ?_
 refine wc_region ?_
 refine wl_val (v_assign' (by conv => (lhs; whnf))) rfl ?_
 refine wl_nil ?_
 refine then_go ?_
 refine wc_seq ?_
 refine wc_block ?_
 refine wc_loop (S := Nat) (fun q r w' => ∃ (v : Value) (l : List UInt8) (n : UInt64), q = n.toNat ∧ r 0 = v ∧ r 1 = u64 n ∧ A = l ++ numB n.toNat ∧ St m0 m F w0 w' (byE v l :: Es)) id n.toNat ⟨v, l, n, rfl, rfl, rfl, hA, st⟩ ?_
 clear st hA hn10
 rintro q r w2 ⟨v, l, n, hq, g0, g1, hA, st⟩
 have hn10 := numB_pos (n := n.toNat)
 have hll : l.length ≤ 1099511627786 := by rw [hA, List.length_append] at hAl; omega
 refine wc_o 0 g0 (wc_o 1 g1 ?_)
 refine wc_seq ?_
 refine wc_seq ?_
 refine wc_region ?_
 refine wl_val (v_move' (by conv => (lhs; whnf))) rfl ?_
 refine wl_val (v_geq (a := (n.toNat : Int)) (b := 128) rfl rfl) rfl ?_
 refine wl_nil ?_
 refine then_go ?_
 refine wc_cond rfl (fun h6 => ?_) (fun h6 => ?_)
 ·refine wc_skip ?_
  refine then_go ?_
  refine wc_block ?_
  refine wc_seq ?_
  have hb : ¬ n.toNat < 128 := by have := of_decide_eq_true h6; omega
  rw [numB_big hb, ← or128] at hA
  refine wc_region ?_
  refine wl_val (v_move' (by conv => (lhs; whnf))) rfl ?_
  refine wl_val (v_move' (by conv => (lhs; whnf))) rfl ?_
  refine wl_val (v_conv64_8 Tryz.underlying47 Tryz.underlying5 rfl) rfl ?_
  refine wl_val (v_or8 128 rfl rfl rfl) rfl ?_
  refine wl_byte1 (UInt8.ofNat n.toNat ||| 128) Tryz.underlying23 TF.t5 TF.z5 rfl st rfl ?_
  intro b11 w st
  refine wl_app1 st Tryz.underlying23 TF.t5 TF.z5 rfl rfl (by omega) (by omega) rfl ?_
  intro v12 w st hv12
  refine wl_val (v_assign' (by conv => (lhs; whnf))) rfl ?_
  refine wl_nil ?_
  refine then_go ?_
  refine wc_region ?_
  refine wl_val (v_move' (by conv => (lhs; whnf))) rfl ?_
  refine wl_val (v_shr64 7 rfl rfl (by omega)) rfl ?_
  refine wl_val (v_assign' (by conv => (lhs; whnf))) rfl ?_
  refine wl_nil ?_
  refine block_go (then_go ?_)
  exact ⟨(shr64 n 7).toNat, by rw [shr7]; simp; omega, v12, l ++ [UInt8.ofNat n.toNat ||| 128], shr64 n 7, rfl, rfl, rfl, by rw [hA, shr7]; simp, st⟩
 ·refine wc_exit (then_exit (then_exit (block_hit ?_)))
  refine then_go ?_
  refine wc_seq ?_
  have hb : n.toNat < 128 := by have := of_decide_eq_false h6; omega
  rw [numB_small hb] at hA
  refine wc_region ?_
  refine wl_val (v_move' (by conv => (lhs; whnf))) rfl ?_
  refine wl_val (v_move' (by conv => (lhs; whnf))) rfl ?_
  refine wl_val (v_conv64_8 Tryz.underlying47 Tryz.underlying5 rfl) rfl ?_
  refine wl_byte1 (UInt8.ofNat n.toNat) Tryz.underlying23 TF.t5 TF.z5 rfl st rfl ?_
  intro b18 w st
  refine wl_app1 st Tryz.underlying23 TF.t5 TF.z5 rfl rfl (by omega) (by omega) rfl ?_
  intro v19 w st hv19
  refine wl_val (v_assign' (by conv => (lhs; whnf))) rfl ?_
  refine wl_nil ?_
  refine then_go ?_
  refine wc_ret ?_
  exact ret1 rfl (by rw [hA]; exact st)
theorem c_ctext {v tv : Value} {l t : List UInt8} (st : St m0 m F w0 w (byE v l :: Es)) (hl : l.length ≤ 1099511627776) (htl : t.length ≤ 1099511627776) (hm : SlM m tv 1 t.length (bs t)) :
  Ret Tryz.prog 44 #[v, tv] w fun v' w' => St m0 m F w0 w' (byE v' (l ++ txtB t) :: Es) := by
 obtain ⟨_, ta, tc, rfl, _⟩ := id hm
 refine ret_of Tryz.call44 Tryz.func44 rfl Tryz.ntmps44 Tryz.results44 rfl ?_
 refine wc_seq ?_
 refine wc_region ?_
 refine wl_val (v_assign' (by conv => (lhs; whnf))) rfl ?_
 refine wl_nil ?_
 refine then_go ?_
 refine wc_seq ?_
 refine wc_region ?_
 refine wl_val (v_move' (by conv => (lhs; whnf))) rfl ?_
 refine wl_val (v_move' (by conv => (lhs; whnf))) rfl ?_
 refine wl_val (v_len_s Tryz.underlying23 rfl) rfl ?_
 refine wl_val (v_convi_64 Tryz.underlying3 Tryz.underlying47 rfl) rfl ?_
 refine wl_call rfl (c_cnum (n := UInt64.ofNat t.length) st hl) rfl ?_
 intro v9 w st
 rw [UInt64.toNat_ofNat', Nat.mod_eq_of_lt (by omega)] at st
 refine wl_val (v_move' (by conv => (lhs; whnf))) rfl ?_
 have hn10 := numB_len10 (n := t.length) (by omega)
 refine wl_appB (l2 := t) st Tryz.underlying23 Tryz.underlying23 (.inr ⟨_, rfl⟩) TF.t5 TF.z5 rfl rfl (hm.src st.im (one_bs _)) (by rw [List.length_append]; omega) (by rw [List.length_append]; omega) rfl ?_
 intro v11 w st hv11
 refine wl_val (v_assign' (by conv => (lhs; whnf))) rfl ?_
 refine wl_nil ?_
 refine then_go ?_
 refine wc_ret ?_
 exact ret1 rfl (by rw [txtB, ← List.append_assoc]; exact st)
end
section
variable {m0 m : Mem} {F : List Nat} {w0 w : World} {Es : List Ent}
theorem c_rnum {n : UInt64} (st : St m0 m F w0 w Es) : Ret Tryz.prog 45 #[u64 n] w fun v' w' => St m0 m F w0 w' (byE v' (numB n.toNat) :: Es) := by
 obtain ⟨A, hA⟩ : ∃ A, A = numB n.toNat := ⟨_, rfl⟩
 have hAl : A.length ≤ 10 := by rw [hA]; exact numB_len10 n.toNat_lt
 rw [← hA]
 refine ret_of Tryz.call45 Tryz.func45 rfl Tryz.ntmps45 Tryz.results45 rfl ?_
 refine wc_seq ?_
 refine wc_region ?_
 refine wl_val (v_assign' (by conv => (lhs; whnf))) rfl ?_
 refine wl_nil ?_
 refine then_go ?_
 refine wc_seq ?_
 refine wc_region ?_
 refine wl_val (v_assign' (by conv => (lhs; whnf))) rfl ?_
 refine wl_nil ?_
 refine then_go ?_
 refine wc_seq ?_
 refine wc_block ?_
 have st := nilRow st 5 1
 have st : St m0 m F w0 w (byE (.slice none 0 0) [] :: Es) := st
 refine wc_loop (S := Nat) (fun q r w' => ∃ (v : Value) (l : List UInt8) (n : UInt64), q = n.toNat ∧ r 0 = u64 n ∧ r 3 = v ∧ A = l ++ numB n.toNat ∧ St m0 m F w0 w' (byE v l :: Es)) id n.toNat ⟨_, [], n, rfl, rfl, rfl, hA, st⟩ ?_
 clear st hA
 rintro q r w2 ⟨v, l, n, hq, g0, g3, hA, st⟩
 have hn10 := numB_pos (n := n.toNat)
 have hll : l.length ≤ 10 := by rw [hA, List.length_append] at hAl; omega
 refine wc_o 0 g0 (wc_o 3 g3 ?_)
 refine wc_seq ?_
 refine wc_seq ?_
 refine wc_region ?_
 refine wl_val (v_move' (by conv => (lhs; whnf))) rfl ?_
 refine wl_val (v_gtr (a := (n.toNat : Int)) (b := 127) rfl rfl) rfl ?_
 refine wl_nil ?_
 refine then_go ?_
 refine wc_cond rfl (fun h5 => ?_) (fun h5 => ?_)
 ·refine wc_skip ?_
  refine then_go ?_
  refine wc_block ?_
  refine wc_seq ?_
  have hb : ¬ n.toNat < 128 := by have := of_decide_eq_true h5; omega
  rw [numB_big hb] at hA
  have e8 : UInt8.ofNat (128 + n % 128 : UInt64).toNat = UInt8.ofNat (n.toNat % 128 + 128) := by
   rw [UInt64.toNat_add, UInt64.toNat_mod]
   congr 1
   show (128 + n.toNat % 128) % 18446744073709551616 = _
   omega
  refine wc_region ?_
  refine wl_val (v_move' (by conv => (lhs; whnf))) rfl ?_
  refine wl_val (v_move' (by conv => (lhs; whnf))) rfl ?_
  refine wl_val (v_to (v' := u64 (n % 128)) (v_rem' rfl rfl (a := (n.toNat : Int)) (b := 128) (by omega) (by omega) rfl) (by unfold u64; rw [UInt64.toNat_mod]; rfl)) rfl ?_
  refine wl_val (v_add64 (p := 128) (q := n % 128) rfl rfl) rfl ?_
  refine wl_val (v_conv64_8 Tryz.underlying47 Tryz.underlying5 rfl) rfl ?_
  refine wl_byte1 (UInt8.ofNat (128 + n % 128 : UInt64).toNat) Tryz.underlying23 TF.t5 TF.z5 rfl st rfl ?_
  intro b11 w st
  refine wl_app1 st Tryz.underlying23 TF.t5 TF.z5 rfl rfl (by omega) (by omega) rfl ?_
  intro v12 w st hv12
  refine wl_val (v_assign' (by conv => (lhs; whnf))) rfl ?_
  refine wl_nil ?_
  refine then_go ?_
  refine wc_region ?_
  refine wl_val (v_move' (by conv => (lhs; whnf))) rfl ?_
  refine wl_val (v_quo64 (p := n) (q := 128) rfl rfl (by decide)) rfl ?_
  refine wl_val (v_assign' (by conv => (lhs; whnf))) rfl ?_
  refine wl_nil ?_
  refine block_go (then_go ?_)
  exact ⟨(n / 128).toNat, by rw [UInt64.toNat_div]; show n.toNat / 128 < _; simp; omega, v12, l ++ [UInt8.ofNat (128 + n % 128 : UInt64).toNat], n / 128, rfl, rfl, rfl, by rw [hA, e8, UInt64.toNat_div]; simp, st⟩
 ·refine wc_exit (then_exit (then_exit (block_hit ?_)))
  refine then_go ?_
  refine wc_seq ?_
  have hb : n.toNat < 128 := by have := of_decide_eq_false h5; omega
  rw [numB_small hb] at hA
  refine wc_region ?_
  refine wl_val (v_move' (by conv => (lhs; whnf))) rfl ?_
  refine wl_val (v_move' (by conv => (lhs; whnf))) rfl ?_
  refine wl_val (v_conv64_8 Tryz.underlying47 Tryz.underlying5 rfl) rfl ?_
  refine wl_byte1 (UInt8.ofNat n.toNat) Tryz.underlying23 TF.t5 TF.z5 rfl st rfl ?_
  intro b18 w st
  refine wl_app1 st Tryz.underlying23 TF.t5 TF.z5 rfl rfl (by omega) (by omega) rfl ?_
  intro v19 w st hv19
  refine wl_val (v_assign' (by conv => (lhs; whnf))) rfl ?_
  refine wl_nil ?_
  refine then_go ?_
  refine wc_ret ?_
  exact ret1 rfl (by rw [hA]; exact st)
end
end Go.Proofs.YtladpaehbolghaaGreat

namespace Go.Proofs.YtladpaehbolghaaGreat
open Go Go.RowKit K SH DK JR
theorem K.SlM.opn {m : Mem} {v : Value} {l : List UInt8} (h : SlM m v 1 l.length (bs l)) : ∃ a c, v = .slice a l.length c ∧ l.length ≤ c := by obtain ⟨_, a, c, h, hk, _⟩ := h; exact ⟨a, c, h, hk⟩
theorem K.SlM.tailB {m : Mem} {a : Option Addr} {cap : Nat} {l : List UInt8} (i : Nat) (hx : SlM m (.slice a l.length cap) 1 l.length (bs l)) (hi : i ≤ l.length) : SlM m (.slice (sliceOff a cap i 1) (l.length - i) (cap - i)) 1 (l.drop i).length (bs (l.drop i)) := by
 have h := SlM.subB i l.length hx hi (Nat.le_refl _)
 rw [List.take_of_length_le (by simp)] at h
 rw [List.length_drop]
 exact h
theorem K.SlM.partB {m : Mem} {a : Option Addr} {cap : Nat} {l : List UInt8} (i j : Nat) (hx : SlM m (.slice a l.length cap) 1 l.length (bs l)) (hij : i ≤ j) (hj : j ≤ l.length) : SlM m (.slice (sliceOff a cap i 1) (j - i) (cap - i)) 1 ((l.drop i).take (j - i)).length (bs ((l.drop i).take (j - i))) := by
 have h := SlM.subB i j hx hij hj
 rw [List.length_take, List.length_drop, Nat.min_eq_left (by omega)]
 exact h
section
variable {m : Mem} {w : World}
def NextOut (m : Mem) (v : Value) (o : Option By) : Prop := match o with
 | none => v = .tuple #[.slice none 0 0, .int .i64 0]
 | some x => ∃ xv, v = .tuple #[xv, .int .i64 (recL x.length : Nat)] ∧ SlM m xv 1 x.length (bs x)
theorem c_next {g s : UInt64} {v : Value} {b : By} (him : Im m w) (hb : SlM m v 1 b.length (bs b)) (hl : b.length ≤ 500000000) : Ret Tryz.prog 107 #[u64 g, u64 s, v] w fun v' w' => Out m w w' fun m' => NextOut m' v' (nextF g s b) := by
 have st := St.start him
 obtain ⟨ba, bc, rfl, hbc⟩ := hb.opn
 refine ret_of Tryz.call107 Tryz.func107 rfl Tryz.ntmps107 Tryz.results107 rfl ?_
 refine wc_seq ?_
 refine wc_region ?_
 refine wl_val (v_assign' (by conv => (lhs; whnf))) rfl ?_
 refine wl_val (v_assign' (by conv => (lhs; whnf))) rfl ?_
 refine wl_nil ?_
 refine then_go ?_
 refine wc_seq ?_
 refine wc_seq ?_
 refine wc_region ?_
 refine wl_val (v_move' (by conv => (lhs; whnf))) rfl ?_
 refine wl_val (v_len_s Tryz.underlying23 rfl) rfl ?_
 refine wl_val (v_lss rfl rfl) rfl ?_
 refine wl_nil ?_
 refine then_go ?_
 refine wc_if rfl (fun h13 => ?_) (fun h13 => ?_)
 ·refine wc_seq ?_
  refine wc_region ?_
  refine wl_val (v_assign' (by conv => (lhs; whnf))) rfl ?_
  refine wl_val (v_assign' (by conv => (lhs; whnf))) rfl ?_
  refine wl_nil ?_
  refine then_go ?_
  refine wc_ret (then_ret ?_)
  refine ret2 rfl rfl ((st.keepOnly (l := []) (List.nil_sublist _)).out ?_)
  rw [nextF_short (by omega)]
  rfl
 ·refine wc_skip ?_
  refine then_go ?_
  refine wc_seq ?_
  refine wc_region ?_
  refine wl_val (v_move' (by conv => (lhs; whnf))) rfl ?_
  refine wl_val (v_sls 49 b.length Tryz.underlying23 TF.t5 rfl ⟨_, _, rfl, rfl⟩ rfl (by omega) hbc) rfl ?_
  have h49 := hb.tailB 49 (by omega)
  refine wl_call rfl (c_length st.im h49 (by rw [List.length_drop]; omega)) rfl ?_
  rintro v16 w ⟨t16, rfl⟩
  have st := st.pure t16
  obtain ⟨q, hq⟩ : ∃ q, q = rd8 (b.drop 49) := ⟨_, rfl⟩
  rw [← hq]
  refine wl_val (v_assign' (by conv => (lhs; whnf))) rfl ?_
  refine wl_nil ?_
  refine then_go ?_
  refine wc_seq ?_
  refine wc_seq ?_
  refine wc_region ?_
  refine wl_val (v_move' (by conv => (lhs; whnf))) rfl ?_
  refine wl_val (v_lss64 (q := 1) rfl rfl) rfl ?_
  refine wl_val (v_move' (by conv => (lhs; whnf))) rfl ?_
  refine wl_valg rfl rfl (fun e => (v_move' (by conv => (lhs; whnf)))) rfl ?_
  refine wl_valg rfl rfl (fun e => (v_move' (by conv => (lhs; whnf)))) rfl ?_
  refine wl_valg rfl rfl (fun e => (v_len_s Tryz.underlying23 (by first | rfl | exact gx e rfl))) rfl ?_
  refine wl_valg rfl rfl (fun e => (v_sub' (c := ((b.length - 57 : Nat) : Int)) (by first | rfl | exact gx e rfl) (by first | rfl | exact gx e rfl) (by omega) (by omega) (by omega))) rfl ?_
  refine wl_valg rfl rfl (fun e => (v_convi_64 (n := b.length - 57) Tryz.underlying3 Tryz.underlying47 (by first | rfl | exact gx e rfl))) rfl ?_
  refine wl_valg rfl rfl (fun e => (v_gtr64 (q := UInt64.ofNat (b.length - 57)) (by first | rfl | exact gx e rfl) (by first | rfl | exact gx e rfl))) rfl ?_
  refine wl_val (v_pickO rfl rfl rfl) rfl ?_
  refine wl_nil ?_
  refine then_go ?_
  refine wc_cond rfl (fun h26 => ?_) (fun h26 => ?_)
  ·refine wc_seq ?_
   refine wc_region ?_
   refine wl_val (v_assign' (by conv => (lhs; whnf))) rfl ?_
   refine wl_val (v_assign' (by conv => (lhs; whnf))) rfl ?_
   refine wl_nil ?_
   refine then_go ?_
   refine wc_ret (then_ret ?_)
   refine ret2 rfl rfl ((st.keepOnly (l := []) (List.nil_sublist _)).out ?_)
   have e : nextF g s b = none := by
    unfold nextF
    rw [if_neg (by omega), if_pos]
    rw [← hq]
    simp only [Bool.or_eq_true, decide_eq_true_eq, UInt64.toNat_ofNat'] at h26
    rw [Nat.mod_eq_of_lt (by omega)] at h26
    exact h26
   rw [e]
   rfl
  ·refine wc_skip ?_
   refine then_go ?_
   refine wc_seq ?_
   have hn : ¬ (q.toNat < 1 ∨ b.length - 57 < q.toNat) := by
    simp only [Bool.or_eq_false_iff, decide_eq_false_iff_not, UInt64.toNat_ofNat'] at h26
    rw [Nat.mod_eq_of_lt (by omega)] at h26
    intro h
    exact h.elim h26.1 h26.2
   refine wc_region ?_
   refine wl_val (v_move' (by conv => (lhs; whnf))) rfl ?_
   refine wl_val (v_move' (by conv => (lhs; whnf))) rfl ?_
   refine wl_val (v_conv64i Tryz.underlying47 Tryz.underlying3 rfl (by omega)) rfl ?_
   refine wl_val (v_add' (c := ((57 + q.toNat : Nat) : Int)) rfl rfl (by omega) (by omega) (by omega)) rfl ?_
   refine wl_val (v_sls 57 (57 + q.toNat) Tryz.underlying23 TF.t5 rfl ⟨_, _, rfl, rfl⟩ ⟨_, _, rfl, rfl⟩ (by omega) (by omega)) rfl ?_
   refine wl_val (v_assign' (by conv => (lhs; whnf))) rfl ?_
   refine wl_nil ?_
   refine then_go ?_
   refine wc_seq ?_
   refine wc_region ?_
   refine wl_val (v_move' (by conv => (lhs; whnf))) rfl ?_
   refine wl_val (v_move' (by conv => (lhs; whnf))) rfl ?_
   refine wl_val (v_move' (by conv => (lhs; whnf))) rfl ?_
   have hx := hb.partB 57 (57 + q.toNat) (by omega) (by omega)
   have hxe : (b.drop 57).take (57 + q.toNat - 57) = (b.drop 57).take (rd8 (b.drop 49)).toNat := by rw [← hq]; congr 1; omega
   have hnx : nextF g s b = if (recB g s ((b.drop 57).take (57 + q.toNat - 57))).length ≤ b.length ∧ recB g s ((b.drop 57).take (57 + q.toNat - 57)) = b.take (recB g s ((b.drop 57).take (57 + q.toNat - 57))).length then some ((b.drop 57).take (57 + q.toNat - 57)) else none := by
    rw [hxe]
    unfold nextF
    rw [if_neg (by omega), if_neg (by rw [← hq]; exact hn)]
   have hxl : ((b.drop 57).take (57 + q.toNat - 57)).length = q.toNat := by rw [List.length_take, List.length_drop]; omega
   obtain ⟨x, hxx⟩ : ∃ x, x = (b.drop 57).take (57 + q.toNat - 57) := ⟨_, rfl⟩
   rw [← hxx] at hx hnx hxl
   refine wl_call rfl (c_jrecord st hx (by omega)) rfl ?_
   intro v35 w st
   have hrl := length_recB g s x
   obtain ⟨ra, rc, hv35, hrc⟩ := (byE_SlM st 0 rfl).opn
   subst hv35
   refine wl_val (v_assign' (by conv => (lhs; whnf))) rfl ?_
   refine wl_nil ?_
   refine then_go ?_
   refine wc_seq ?_
   refine wc_seq ?_
   refine wc_region ?_
   refine wl_val (v_move' (by conv => (lhs; whnf))) rfl ?_
   refine wl_val (v_len_s Tryz.underlying23 rfl) rfl ?_
   refine wl_val (v_move' (by conv => (lhs; whnf))) rfl ?_
   refine wl_val (v_len_s Tryz.underlying23 rfl) rfl ?_
   refine wl_val (v_gtr rfl rfl) rfl ?_
   refine wl_val (v_move' (by conv => (lhs; whnf))) rfl ?_
   rcases Bool.eq_false_or_eq_true (decide ((b.length : Int) < ((recB g s x).length : Int))) with hg5 | hg5
   ·rw [hg5]
    refine wl_off rfl rfl rfl rfl ?_
    refine wl_off rfl rfl rfl rfl ?_
    refine wl_off rfl rfl rfl rfl ?_
    refine wl_off rfl rfl rfl rfl ?_
    refine wl_off rfl rfl rfl rfl ?_
    refine wl_off rfl rfl rfl rfl ?_
    refine wl_off rfl rfl rfl rfl ?_
    refine wl_val (v_pick rfl) rfl ?_
    refine wl_nil ?_
    refine then_go ?_
    refine wc_true rfl ?_
    refine wc_seq ?_
    refine wc_region ?_
    refine wl_val (v_assign' (by conv => (lhs; whnf))) rfl ?_
    refine wl_val (v_assign' (by conv => (lhs; whnf))) rfl ?_
    refine wl_nil ?_
    refine then_go ?_
    refine wc_ret (then_ret ?_)
    refine ret2 rfl rfl ((st.keepOnly (l := []) (List.nil_sublist _)).out ?_)
    rw [hnx, if_neg (fun h => by have := of_decide_eq_true hg5; omega)]
    rfl
   ·rw [hg5]
    refine wl_on rfl rfl ?_
    refine wl_val (v_move' (by conv => (lhs; whnf))) rfl ?_
    refine wl_on rfl rfl ?_
    refine wl_val (v_move' (by conv => (lhs; whnf))) rfl ?_
    refine wl_on rfl rfl ?_
    refine wl_val (v_move' (by conv => (lhs; whnf))) rfl ?_
    refine wl_on rfl rfl ?_
    refine wl_val (v_len_s Tryz.underlying23 rfl) rfl ?_
    refine wl_on rfl rfl ?_
    refine wl_val (v_sls 0 (recB g s x).length Tryz.underlying23 TF.t5 rfl rfl ⟨_, _, rfl, rfl⟩ (Nat.zero_le _) (by have := of_decide_eq_false hg5; omega)) rfl ?_
    have hle : (recB g s x).length ≤ b.length := by have := of_decide_eq_false hg5; omega
    have hfr := hb.partB 0 (recB g s x).length (Nat.zero_le _) hle
    rw [List.drop_zero, Nat.sub_zero] at hfr
    refine wl_on rfl rfl ?_
    refine wl_call rfl (c_bequal (im_heapM _) (byE_SlM st 0 rfl) (hfr.mono fun k o h => st.im k o h)) rfl ?_
    rintro v47 w ⟨t47, rfl⟩
    have st := st.pure t47
    refine wl_on rfl rfl ?_
    refine wl_val (v_not rfl) rfl ?_
    refine wl_val (v_pick rfl) rfl ?_
    refine wl_nil ?_
    refine then_go ?_
    refine wc_cond rfl (fun h49 => ?_) (fun h49 => ?_)
    ·refine wc_seq ?_
     refine wc_region ?_
     refine wl_val (v_assign' (by conv => (lhs; whnf))) rfl ?_
     refine wl_val (v_assign' (by conv => (lhs; whnf))) rfl ?_
     refine wl_nil ?_
     refine then_go ?_
     refine wc_ret (then_ret ?_)
     refine ret2 rfl rfl ((st.keepOnly (l := []) (List.nil_sublist _)).out ?_)
     rw [hnx, if_neg (fun h => by simp at h49; exact h49 h.2)]
     rfl
    ·refine wc_skip ?_
     refine then_go ?_
     refine wc_seq ?_
     refine wc_region ?_
     refine wl_val (v_move' (by conv => (lhs; whnf))) rfl ?_
     refine wl_call rfl (c_bclone st.im hx (by omega)) rfl ?_
     rintro v51 w ⟨t51, m1, hg1, hi1, hxv⟩
     have st := st.grown hg1 t51 hi1
     refine wl_val (v_move' (by conv => (lhs; whnf))) rfl ?_
     refine wl_val (v_len_s Tryz.underlying23 rfl) rfl ?_
     refine wl_val (v_assign' (by conv => (lhs; whnf))) rfl ?_
     refine wl_val (v_assign' (by conv => (lhs; whnf))) rfl ?_
     refine wl_nil ?_
     refine then_go ?_
     refine wc_ret ?_
     refine ret2 (v := v51) (v' := .int .i64 (recL x.length : Nat)) rfl (by rw [← hrl]; rfl) ((st.keepOnly (l := []) (List.nil_sublist _)).out ?_)
     rw [hnx, if_pos ⟨hle, by simpa using h49⟩]
     exact ⟨v51, rfl, hxv⟩
theorem c_begun {v : Value} {b : By} (him : Im m w) (hb : SlM m v 1 b.length (bs b)) (hl : 64 ≤ b.length) (hl2 : b.length ≤ 500000000) : Ret Tryz.prog 104 #[v] w fun v' w' => Tch w w' [] [] ∧ v' = u64 (begF b) := by
 have st := St.start him
 obtain ⟨ba, bc, rfl, hbc⟩ := hb.opn
 refine ret_of Tryz.call104 Tryz.func104 rfl Tryz.ntmps104 Tryz.results104 rfl ?_
 refine wc_seq ?_
 refine wc_region ?_
 refine wl_val (v_assign' (by conv => (lhs; whnf))) rfl ?_
 refine wl_nil ?_
 refine then_go ?_
 refine wc_seq ?_
 refine wc_seq ?_
 refine wc_region ?_
 refine wl_val (v_move' (by conv => (lhs; whnf))) rfl ?_
 refine wl_val (v_sls 1 b.length Tryz.underlying23 TF.t5 rfl ⟨_, _, rfl, rfl⟩ rfl (by omega) hbc) rfl ?_
 have h1 := hb.tailB 1 (by omega)
 refine wl_call rfl (c_length st.im h1 (by rw [List.length_drop]; omega)) rfl ?_
 rintro v6 w ⟨t6, rfl⟩
 have st := st.pure t6
 obtain ⟨q, hq⟩ : ∃ q, q = rd8 (b.drop 1) := ⟨_, rfl⟩
 rw [← hq]
 refine wl_val (v_assign' (by conv => (lhs; whnf))) rfl ?_
 refine wl_nil ?_
 refine then_go ?_
 refine wc_seq ?_
 rcases Nat.eq_zero_or_pos q.toNat with hq0 | hq0
 ·refine wc_draw TF.mixed ?_
  have st := st.pure (touch_drew _)
  refine fl_val 0 rfl (fun _ => (v_move' (by conv => (lhs; whnf)))) rfl (by kernel_rfl) ?_
  refine fl_val 1 rfl (fun _ => (wl_valD (v_gtr64 (q := 0) rfl rfl) (q := false) (decide_eq_false (by rw [hq0]; decide)))) rfl (by kernel_rfl) ?_
  refine fl_val 2 rfl (fun _ => (v_move' (by conv => (lhs; whnf)))) rfl (by kernel_rfl) ?_
  refine fl_off 3 rfl rfl rfl rfl rfl rfl (by kernel_rfl) ?_
  refine fl_off 4 rfl rfl rfl rfl rfl rfl (by kernel_rfl) ?_
  refine fl_off 5 rfl rfl rfl rfl rfl rfl (by kernel_rfl) ?_
  refine fl_eff1 6 [4, 3, 1, 0] [] (by kernel_rfl) trivial rfl ?_
  refine wl_off rfl rfl rfl rfl ?_
  refine wl_nil ⟨rfl, ?_⟩
  refine fl_eff1 7 [3, 1, 0] [] (by kernel_rfl) trivial rfl ?_
  refine wl_off rfl rfl rfl rfl ?_
  refine wl_nil ⟨rfl, ?_⟩
  refine fl_val 8 rfl (fun _ => (v_pick rfl)) rfl (by kernel_rfl) ?_
  refine fl_nil (by kernel_rfl) trivial ?_
  refine then_go ?_
  refine wc_false rfl ?_
  refine wc_skip ?_
  refine then_go ?_
  refine wc_seq ?_
  refine wc_region ?_
  refine wl_val (v_assign' (by conv => (lhs; whnf))) rfl ?_
  refine wl_nil ?_
  refine then_go ?_
  refine wc_ret ?_
  refine ret1 (v := u64 0) rfl ⟨(st.keepOnly (l := []) (List.nil_sublist _)).touch, ?_⟩
  unfold begF
  rw [← hq, if_neg (fun h => by omega)]
 ·refine wc_draw TF.mixed ?_
  have st := st.pure (touch_drew _)
  refine fl_val 0 rfl (fun _ => (v_move' (by conv => (lhs; whnf)))) rfl (by kernel_rfl) ?_
  refine fl_val 1 rfl (fun _ => (wl_valD (v_gtr64 (q := 0) rfl rfl) (q := true) (decide_eq_true hq0))) rfl (by kernel_rfl) ?_
  refine fl_val 2 rfl (fun _ => (v_move' (by conv => (lhs; whnf)))) rfl (by kernel_rfl) ?_
  refine fl_on 3 rfl rfl rfl rfl (fun _ => (v_move' (by conv => (lhs; whnf)))) rfl (by kernel_rfl) ?_
  refine fl_on 4 rfl rfl rfl rfl (fun _ => (v_sls 0 64 Tryz.underlying23 TF.t5 rfl rfl ⟨_, _, rfl, rfl⟩ (by omega) (by omega))) rfl (by kernel_rfl) ?_
  refine fl_on 5 rfl rfl rfl rfl (fun _ => (v_move' (by conv => (lhs; whnf)))) rfl (by kernel_rfl) ?_
  refine fl_eff1 6 [4, 3, 1, 0] [] (by kernel_rfl) trivial rfl ?_
  refine wl_on rfl rfl ?_
  refine wl_call rfl (c_jhead st) rfl ?_
  intro v13 w st
  refine wl_nil ⟨rfl, ?_⟩
  refine fl_eff1 7 [3, 1, 0] [] (by kernel_rfl) trivial rfl ?_
  have hfr := hb.partB 0 64 (by omega) hl
  rw [List.drop_zero, Nat.sub_zero] at hfr
  refine wl_on rfl rfl ?_
  refine wl_call rfl (c_bequal (im_heapM _) (hfr.mono fun k o h => st.im k o h) (byE_SlM st 0 rfl)) rfl ?_
  rintro v14 w ⟨t14, rfl⟩
  have st := st.pure t14
  refine wl_nil ⟨rfl, ?_⟩
  refine fl_val 8 rfl (fun _ => (v_pick rfl)) rfl (by kernel_rfl) ?_
  refine fl_nil (by kernel_rfl) trivial ?_
  refine then_go ?_
  refine wc_cond rfl (fun h15 => ?_) (fun h15 => ?_)
  ·refine wc_seq ?_
   refine wc_region ?_
   refine wl_val (v_move' (by conv => (lhs; whnf))) rfl ?_
   refine wl_val (v_assign' (by conv => (lhs; whnf))) rfl ?_
   refine wl_nil ?_
   refine then_go ?_
   refine wc_ret (then_ret ?_)
   refine ret1 (v := u64 q) rfl ⟨(st.keepOnly (l := []) (List.nil_sublist _)).touch, ?_⟩
   unfold begF
   rw [← hq, if_pos ⟨hq0, of_decide_eq_true h15⟩]
  ·refine wc_skip ?_
   refine then_go ?_
   refine wc_seq ?_
   refine wc_region ?_
   refine wl_val (v_assign' (by conv => (lhs; whnf))) rfl ?_
   refine wl_nil ?_
   refine then_go ?_
   refine wc_ret ?_
   refine ret1 (v := u64 0) rfl ⟨(st.keepOnly (l := []) (List.nil_sublist _)).touch, ?_⟩
   unfold begF
   rw [← hq, if_neg (fun h => of_decide_eq_false h15 h.2)]
end
end Go.Proofs.YtladpaehbolghaaGreat

namespace Go.Proofs.YtladpaehbolghaaGreat
open Go Go.RowKit K SH GC JR
abbrev faultV : Value := .iface 115 (.agg #[])
abbrev rdE (rb : Nat) (bv : Value) (i : Nat) : Ent := K.blk rb #[bv, .int .i64 i] 117
abbrev rdP (rb : Nat) : Value := .pointer (some ⟨rb, 0, none⟩)
section
variable {m0 m : Mem} {F : List Nat} {w0 w : World} {Es : List Ent}
theorem c_fail {rb : Nat} : RetP Tryz.prog 39 #[rdP rb] w faultV (fun _ _ => False) (fun w' => w' = w) := by
 refine ret_ofP Tryz.call39 Tryz.func39 rfl Tryz.ntmps39 Tryz.results39 rfl ?_
 refine wc_region ?_
 refine wl_val (v_build (c' := #[]) [] TF.z115 TF.p115 rfl rfl) rfl ?_
 refine wl_val (v_mkiface Tryz.underlying115 trivial rfl) rfl ?_
 exact wl_panic rfl ⟨rfl, rfl⟩
theorem c_rbyte {rb i : Nat} {bv : Value} {b : List UInt8} (st : St m0 m F w0 w (rdE rb bv i :: Es)) (hb : SlM m bv 1 b.length (bs b)) (hl : b.length ≤ 1099511627776) (hi : i ≤ b.length) :
  RetP Tryz.prog 89 #[rdP rb] w faultV (fun v w' => ∃ (h : i < b.length), v = u8 b[i] ∧ St m0 m F w0 w' (rdE rb bv (i + 1) :: Es)) (fun w' => ¬ i < b.length ∧ St m0 m F w0 w' (rdE rb bv i :: Es)) := by
 obtain ⟨ba, bc, rfl, hbc⟩ := hb.opn
 refine ret_ofP Tryz.call89 Tryz.func89 rfl Tryz.ntmps89 Tryz.results89 rfl ?_
 refine wc_seq ?_
 refine wc_region ?_
 refine wl_val (v_assign' (by conv => (lhs; whnf))) rfl ?_
 refine wl_nil ?_
 refine then_go ?_
 refine wc_seq ?_
 refine wc_seq ?_
 refine wc_draw TF.mixed ?_
 have st := st.pure (touch_drew _)
 refine fl_val 0 rfl (fun _ => (v_move' (by conv => (lhs; whnf)))) rfl (by kernel_rfl) ?_
 refine fl_val 1 rfl (fun _ => (v_nil rfl)) rfl (by kernel_rfl) ?_
 refine fl_val 2 rfl (fun _ => (v_fa TF.f117_1 rfl)) rfl (by kernel_rfl) ?_
 refine fl_ld 3 rfl (v_load rfl (st.reads (v := .int .i64 i) 0 rfl TF.t3 rfl)) (by kernel_rfl) ?_
 refine fl_val 4 rfl (fun _ => (v_move' (by conv => (lhs; whnf)))) rfl (by kernel_rfl) ?_
 refine fl_val 5 rfl (fun _ => (v_nil rfl)) rfl (by kernel_rfl) ?_
 refine fl_val 6 rfl (fun _ => (v_fa TF.f117_0 rfl)) rfl (by kernel_rfl) ?_
 refine fl_ld 7 rfl (v_load rfl (st.reads (v := .slice ba b.length bc) 0 rfl TF.t23 rfl)) (by kernel_rfl) ?_
 refine fl_val 8 rfl (fun _ => (v_len_s Tryz.underlying23 rfl)) rfl (by kernel_rfl) ?_
 refine fl_val 9 rfl (fun _ => (v_geq rfl rfl)) rfl (by kernel_rfl) ?_
 refine fl_nil (by kernel_rfl) ⟨obl_ld rfl rfl rfl (v_load rfl (st.reads (v := .slice ba b.length bc) 0 rfl TF.t23 rfl)), obl_ld rfl rfl rfl (v_load rfl (st.reads (v := .int .i64 i) 0 rfl TF.t3 rfl)), trivial⟩ ?_
 refine then_go ?_
 refine wc_cond rfl (fun h12 => ?_) (fun h12 => ?_)
 ·refine wc_region ?_
  refine wl_val (v_move' (by conv => (lhs; whnf))) rfl ?_
  exact wl_callP rfl c_fail rfl (fun w' h => by subst h; exact ⟨rfl, by have := of_decide_eq_true h12; omega, st⟩) (fun _ _ h => h.elim)
 ·refine wc_skip ?_
  refine then_go ?_
  refine wc_seq ?_
  have hib : i < b.length := by have := of_decide_eq_false h12; omega
  refine wc_region ?_
  refine wl_val (v_move' (by conv => (lhs; whnf))) rfl ?_
  refine wl_val (v_nil rfl) rfl ?_
  refine wl_val (v_fa TF.f117_1 rfl) rfl ?_
  refine wl_val (v_load rfl (st.reads (v := .int .i64 i) 0 rfl TF.t3 rfl)) rfl ?_
  refine wl_val (v_add' (c := ((i + 1 : Nat) : Int)) rfl rfl (by omega) (by omega) (by omega)) rfl ?_
  refine wl_val (v_nil rfl) rfl ?_
  refine wl_val (v_fa TF.f117_1 rfl) rfl ?_
  refine wl_store1 (v := .int .i64 ((i + 1 : Nat) : Int)) 0 st rfl TF.t3 rfl rfl rfl (lt_ok rfl) ?_
  intro w st
  have st : St m0 m F w0 w (rdE rb (.slice ba b.length bc) (i + 1) :: Es) := st
  refine wl_nil ?_
  refine then_go ?_
  refine wc_seq ?_
  obtain ⟨bb, bo, _, hbe, _⟩ := hb.ptr1 (by omega) (by decide)
  simp only [Value.slice.injEq] at hbe
  obtain ⟨hba, _, _⟩ := hbe
  subst hba
  refine wc_draw TF.mixed ?_
  have st := st.pure (touch_drew _)
  refine fl_val 0 rfl (fun _ => (v_move' (by conv => (lhs; whnf)))) rfl (by kernel_rfl) ?_
  refine fl_val 1 rfl (fun _ => (v_nil rfl)) rfl (by kernel_rfl) ?_
  refine fl_val 2 rfl (fun _ => (v_fa TF.f117_0 rfl)) rfl (by kernel_rfl) ?_
  refine fl_ld 3 rfl (v_load rfl (st.reads (v := .slice (some ⟨bb, bo, none⟩) b.length bc) 0 rfl TF.t23 rfl)) (by kernel_rfl) ?_
  refine fl_val 4 rfl (fun _ => (v_move' (by conv => (lhs; whnf)))) rfl (by kernel_rfl) ?_
  refine fl_val 5 rfl (fun _ => (v_nil rfl)) rfl (by kernel_rfl) ?_
  refine fl_val 6 rfl (fun _ => (v_fa TF.f117_1 rfl)) rfl (by kernel_rfl) ?_
  refine fl_ld 7 rfl (v_load rfl (st.reads (v := .int .i64 ((i + 1 : Nat) : Int)) 0 rfl TF.t3 rfl)) (by kernel_rfl) ?_
  refine fl_val 8 rfl (fun _ => (v_sub' (c := (i : Int)) rfl rfl (by omega) (by omega) (by omega))) rfl (by kernel_rfl) ?_
  refine fl_val 9 rfl (fun _ => (v_ias i Tryz.underlying23 TF.t5 rfl rfl (by first | rfl | omega) (by first | omega | (dsimp only at *; omega)))) rfl (by kernel_rfl) ?_
  refine fl_ld 10 rfl (v_load rfl (SlM.rdB TF.t5 i hb hib st.im)) (by kernel_rfl) ?_
  refine fl_eff1 11 [] [] (by kernel_rfl) ⟨obl_ld rfl rfl rfl (v_load rfl (SlM.rdB TF.t5 i hb hib st.im)), obl_ld rfl rfl rfl (v_load rfl (st.reads (v := .int .i64 ((i + 1 : Nat) : Int)) 0 rfl TF.t3 rfl)), obl_ld rfl rfl rfl (v_load rfl (st.reads (v := .slice (some ⟨bb, bo, none⟩) b.length bc) 0 rfl TF.t23 rfl)), trivial⟩ rfl ?_
  refine wl_val (v_assign' (by conv => (lhs; whnf))) rfl ?_
  refine wl_nil ⟨rfl, ?_⟩
  refine fl_nil (by kernel_rfl) trivial ?_
  refine then_go ?_
  refine wc_ret ?_
  exact toP (ret1 rfl ⟨hib, rfl, st⟩)
theorem or_low {A : UInt64} {c k : Nat} (hA : A.toNat < 2 ^ (7 * k)) (hk : k ≤ 9) (hc : c < 128) (h9 : k = 9 → c ≤ 1) : (A ||| shl64 (UInt64.ofNat c) (7 * k)).toNat = A.toNat + 2 ^ (7 * k) * c ∧ A.toNat + 2 ^ (7 * k) * c < 2 ^ (7 * (k + 1)) := by
 have e1 : (UInt64.ofNat c).toNat = c := by rw [UInt64.toNat_ofNat']; omega
 have hp : 0 < 2 ^ (7 * k) := Nat.pow_pos (by decide)
 have e7 : 2 ^ (7 * (k + 1)) = 2 ^ (7 * k) * 128 := by rw [show 7 * (k + 1) = 7 * k + 7 by omega, Nat.pow_add]
 have hcb : 2 ^ (7 * k) * c ≤ 2 ^ (7 * k) * 127 := Nat.mul_le_mul_left _ (by omega)
 have h64 : c * 2 ^ (7 * k) < 2 ^ 64 := by
  by_cases h : k = 9
  ·subst h
   have := h9 rfl
   have h1 : c * 2 ^ (7 * 9) ≤ 1 * 2 ^ (7 * 9) := Nat.mul_le_mul_right _ this
   exact Nat.lt_of_le_of_lt h1 (by decide)
  ·have h1 : 2 ^ (7 * k) ≤ 2 ^ 56 := Nat.pow_le_pow_right (by decide) (by omega)
   have h2 : c * 2 ^ (7 * k) ≤ 127 * 2 ^ 56 := Nat.mul_le_mul (by omega) h1
   exact Nat.lt_of_le_of_lt h2 (by decide)
 have e2 : (shl64 (UInt64.ofNat c) (7 * k)).toNat = c * 2 ^ (7 * k) := by
  unfold shl64
  rw [UInt64.toNat_ofNat', e1, Nat.mod_eq_of_lt h64]
 refine ⟨?_, by rw [e7]; omega⟩
 rw [UInt64.toNat_or, e2, Nat.or_comm, ← Nat.shiftLeft_eq, ← Nat.shiftLeft_add_eq_or_of_lt hA, Nat.shiftLeft_eq, Nat.mul_comm c]
 omega
theorem c_rdnum {rb i : Nat} {bv : Value} {b : List UInt8} (st : St m0 m F w0 w (rdE rb bv i :: Es)) (hb : SlM m bv 1 b.length (bs b)) (hl : b.length ≤ 1099511627776) (hi : i ≤ b.length) :
  RetP Tryz.prog 66 #[rdP rb] w faultV (fun v w' => ∃ n j, i < j ∧ j ≤ b.length ∧ numR 0 (b.drop i) = some (n, b.drop j) ∧ v = u64 (UInt64.ofNat n) ∧ St m0 m F w0 w' (rdE rb bv j :: Es)) (fun w' => numR 0 (b.drop i) = none ∧ ∃ j, j ≤ b.length ∧ St m0 m F w0 w' (rdE rb bv j :: Es)) := by
 obtain ⟨N0, hN0⟩ : ∃ N0, N0 = numR 0 (b.drop i) := ⟨_, rfl⟩
 rw [← hN0]
 refine ret_ofP Tryz.call66 Tryz.func66 rfl Tryz.ntmps66 Tryz.results66 rfl ?_
 refine wc_seq ?_
 refine wc_region ?_
 refine wl_val (v_assign' (by conv => (lhs; whnf))) rfl ?_
 refine wl_nil ?_
 refine then_go ?_
 refine wc_seq ?_
 refine wc_region ?_
 refine wl_val (v_assign' (by conv => (lhs; whnf))) rfl ?_
 refine wl_val (v_assign' (by conv => (lhs; whnf))) rfl ?_
 refine wl_nil ?_
 refine then_go ?_
 refine wc_block ?_
 refine wc_loop (S := Nat) (fun q r w' => ∃ (k j : Nat) (A : UInt64), q = 10 - k ∧ k ≤ 9 ∧ i ≤ j ∧ j ≤ b.length ∧ A.toNat < 2 ^ (7 * k) ∧ r 0 = rdP rb ∧ r 3 = u64 A ∧ r 4 = .int .i64 ((7 * k : Nat) : Int) ∧ (N0 = match numR k (b.drop j) with | none => none | some (n, r) => some (A.toNat + 2 ^ (7 * k) * n, r)) ∧ St m0 m F w0 w' (rdE rb bv j :: Es)) id 10 ⟨0, i, 0, rfl, by omega, Nat.le_refl _, hi, by decide, rfl, rfl, rfl, by rw [hN0]; cases numR 0 (b.drop i) <;> simp, st⟩ ?_
 clear st hN0
 rintro q r w2 ⟨k, j, A, hq, hk, hij, hj, hA, g0, g3, g4, hN, st⟩
 refine wc_o 0 g0 (wc_o 3 g3 (wc_o 4 g4 ?_))
 refine wc_block ?_
 refine wc_seq ?_
 refine wc_region ?_
 refine wl_val (v_move' (by conv => (lhs; whnf))) rfl ?_
 refine wl_callP rfl (c_rbyte st hb hl hj) rfl (fun w' h => ⟨rfl, by rw [hN, List.drop_eq_nil_of_le (by omega)]; rfl, j, hj, h.2⟩) ?_
 rintro v7 w ⟨hjl, rfl, st⟩
 rw [List.drop_eq_getElem_cons hjl, numR_cons] at hN
 obtain ⟨c, hc⟩ : ∃ c, c = b[j] := ⟨_, rfl⟩
 rw [← hc] at hN ⊢
 have hc8 := c.toNat_lt
 refine wl_val (v_assign' (by conv => (lhs; whnf))) rfl ?_
 refine wl_nil ?_
 refine then_go ?_
 refine wc_cut (fun r w' => ¬ ((k = 9 ∧ 1 < c.toNat) ∨ (0 < k ∧ c.toNat = 0)) ∧ r 0 = rdP rb ∧ r 3 = u64 A ∧ r 4 = .int .i64 ((7 * k : Nat) : Int) ∧ r 5 = u8 c ∧ St m0 m F w0 w' (rdE rb bv (j + 1) :: Es)) ?_ ?_
 ·refine wc_seq ?_
  by_cases h9 : k = 9
  ·by_cases hc1 : 1 < c.toNat
   ·refine wc_region ?_
    refine wl_val (v_move' (by conv => (lhs; whnf))) rfl ?_
    refine wl_val (wl_valD (v_eql rfl rfl) (q := true) (decide_eq_true (by omega))) rfl ?_
    refine wl_val (v_move' (by conv => (lhs; whnf))) rfl ?_
    refine wl_on rfl rfl ?_
    refine wl_val (v_move' (by conv => (lhs; whnf))) rfl ?_
    refine wl_on rfl rfl ?_
    refine wl_val (wl_valD (v_gtr (a := (c.toNat : Int)) (b := 1) rfl rfl) (q := true) (decide_eq_true (by omega))) rfl ?_
    refine wl_val (v_pick rfl) rfl ?_
    refine wl_val (v_move' (by conv => (lhs; whnf))) rfl ?_
    refine wl_off rfl rfl rfl rfl ?_
    refine wl_off rfl rfl rfl rfl ?_
    refine wl_off rfl rfl rfl rfl ?_
    refine offU rfl rfl rfl ?_
    refine offU rfl rfl rfl ?_
    refine wl_off rfl rfl rfl rfl ?_
    refine wl_val (v_pick rfl) rfl ?_
    refine wl_nil ?_
    refine then_go ?_
    refine wc_true rfl ?_
    refine wc_region ?_
    refine wl_val (v_move' (by conv => (lhs; whnf))) rfl ?_
    rw [if_pos (by omega)] at hN
    exact wl_callP rfl c_fail rfl (fun w' h => by subst h; exact ⟨rfl, hN, j + 1, by omega, st⟩) (fun _ _ h => h.elim)
   ·refine wc_region ?_
    refine wl_val (v_move' (by conv => (lhs; whnf))) rfl ?_
    refine wl_val (wl_valD (v_eql rfl rfl) (q := true) (decide_eq_true (by omega))) rfl ?_
    refine wl_val (v_move' (by conv => (lhs; whnf))) rfl ?_
    refine wl_on rfl rfl ?_
    refine wl_val (v_move' (by conv => (lhs; whnf))) rfl ?_
    refine wl_on rfl rfl ?_
    refine wl_val (wl_valD (v_gtr (a := (c.toNat : Int)) (b := 1) rfl rfl) (q := false) (decide_eq_false (by omega))) rfl ?_
    refine wl_val (v_pick rfl) rfl ?_
    refine wl_val (v_move' (by conv => (lhs; whnf))) rfl ?_
    refine wl_on rfl rfl ?_
    refine wl_val (v_move' (by conv => (lhs; whnf))) rfl ?_
    refine wl_on rfl rfl ?_
    refine wl_val (wl_valD (v_gtr rfl rfl) (q := true) (decide_eq_true (by omega))) rfl ?_
    refine wl_on rfl rfl ?_
    refine wl_val (v_move' (by conv => (lhs; whnf))) rfl ?_
    refine wl_on rfl rfl ?_
    refine wl_val (v_move' (by conv => (lhs; whnf))) rfl ?_
    refine wl_on rfl rfl ?_
    refine wl_val (v_eql (a := (c.toNat : Int)) (b := 0) rfl rfl) rfl ?_
    refine wl_on rfl rfl ?_
    refine wl_val (v_pick rfl) rfl ?_
    refine wl_val (v_pick rfl) rfl ?_
    refine wl_nil ?_
    refine then_go ?_
    refine wc_cond rfl (fun h21 => ?_) (fun h21 => ?_)
    ·refine wc_region ?_
     refine wl_val (v_move' (by conv => (lhs; whnf))) rfl ?_
     have hz := of_decide_eq_true h21
     rw [if_pos (by omega)] at hN
     exact wl_callP rfl c_fail rfl (fun w' h => by subst h; exact ⟨rfl, hN, j + 1, by omega, st⟩) (fun _ _ h => h.elim)
    ·refine wc_skip ?_
     refine then_go ?_
     exact ⟨by have := of_decide_eq_false h21; omega, rfl, rfl, rfl, rfl, st⟩
  ·by_cases hk0 : 0 < k
   ·refine wc_region ?_
    refine wl_val (v_move' (by conv => (lhs; whnf))) rfl ?_
    refine wl_val (wl_valD (v_eql rfl rfl) (q := false) (decide_eq_false (by omega))) rfl ?_
    refine wl_val (v_move' (by conv => (lhs; whnf))) rfl ?_
    refine wl_off rfl rfl rfl rfl ?_
    refine wl_off rfl rfl rfl rfl ?_
    refine wl_val (v_pick rfl) rfl ?_
    refine wl_val (v_move' (by conv => (lhs; whnf))) rfl ?_
    refine wl_on rfl rfl ?_
    refine wl_val (v_move' (by conv => (lhs; whnf))) rfl ?_
    refine wl_on rfl rfl ?_
    refine wl_val (wl_valD (v_gtr rfl rfl) (q := true) (decide_eq_true (by omega))) rfl ?_
    refine wl_on rfl rfl ?_
    refine wl_val (v_move' (by conv => (lhs; whnf))) rfl ?_
    refine wl_on rfl rfl ?_
    refine wl_val (v_move' (by conv => (lhs; whnf))) rfl ?_
    refine wl_on rfl rfl ?_
    refine wl_val (v_eql (a := (c.toNat : Int)) (b := 0) rfl rfl) rfl ?_
    refine wl_on rfl rfl ?_
    refine wl_val (v_pick rfl) rfl ?_
    refine wl_val (v_pick rfl) rfl ?_
    refine wl_nil ?_
    refine then_go ?_
    refine wc_cond rfl (fun h21 => ?_) (fun h21 => ?_)
    ·refine wc_region ?_
     refine wl_val (v_move' (by conv => (lhs; whnf))) rfl ?_
     have hz := of_decide_eq_true h21
     rw [if_pos (by omega)] at hN
     exact wl_callP rfl c_fail rfl (fun w' h => by subst h; exact ⟨rfl, hN, j + 1, by omega, st⟩) (fun _ _ h => h.elim)
    ·refine wc_skip ?_
     refine then_go ?_
     exact ⟨by have := of_decide_eq_false h21; omega, rfl, rfl, rfl, rfl, st⟩
   ·refine wc_region ?_
    refine wl_val (v_move' (by conv => (lhs; whnf))) rfl ?_
    refine wl_val (wl_valD (v_eql rfl rfl) (q := false) (decide_eq_false (by omega))) rfl ?_
    refine wl_val (v_move' (by conv => (lhs; whnf))) rfl ?_
    refine wl_off rfl rfl rfl rfl ?_
    refine wl_off rfl rfl rfl rfl ?_
    refine wl_val (v_pick rfl) rfl ?_
    refine wl_val (v_move' (by conv => (lhs; whnf))) rfl ?_
    refine wl_on rfl rfl ?_
    refine wl_val (v_move' (by conv => (lhs; whnf))) rfl ?_
    refine wl_on rfl rfl ?_
    refine wl_val (wl_valD (v_gtr rfl rfl) (q := false) (decide_eq_false (by omega))) rfl ?_
    refine wl_on rfl rfl ?_
    refine wl_val (v_move' (by conv => (lhs; whnf))) rfl ?_
    refine wl_off rfl rfl rfl rfl ?_
    refine wl_off rfl rfl rfl rfl ?_
    refine wl_on rfl rfl ?_
    refine wl_val (v_pick rfl) rfl ?_
    refine wl_val (v_pick rfl) rfl ?_
    refine wl_nil ?_
    refine then_go ?_
    refine wc_false rfl ?_
    refine wc_skip ?_
    refine then_go ?_
    exact ⟨by omega, rfl, rfl, rfl, rfl, st⟩
 ·clear st
  rintro r w ⟨hgood, g0, g3, g4, g5, st⟩
  refine wc_o 0 g0 (wc_o 3 g3 (wc_o 4 g4 (wc_o 5 g5 ?_)))
  rw [if_neg hgood] at hN
  have hor := or_low (c := c.toNat % 128) hA hk (by omega) (by omega)
  have h127 : c.toNat &&& 127 = c.toNat % 128 := Nat.and_two_pow_sub_one_eq_mod c.toNat 7
  refine wc_seq ?_
  refine wc_region ?_
  refine wl_val (v_move' (by conv => (lhs; whnf))) rfl ?_
  refine wl_val (v_move' (by conv => (lhs; whnf))) rfl ?_
  refine wl_val (v_to (v' := .int .u8 (c.toNat % 128 : Nat)) (v_and8 127 (by omega) rfl rfl) (by rw [h127])) rfl ?_
  refine wl_val (v_convi_64 Tryz.underlying5 Tryz.underlying47 rfl) rfl ?_
  refine wl_val (v_move' (by conv => (lhs; whnf))) rfl ?_
  refine wl_val (v_shl64 (7 * k) rfl rfl (by omega)) rfl ?_
  refine wl_val (v_or64 rfl rfl) rfl ?_
  refine wl_val (v_assign' (by conv => (lhs; whnf))) rfl ?_
  refine wl_nil ?_
  refine then_go ?_
  refine wc_seq ?_
  refine wc_seq ?_
  refine wc_region ?_
  refine wl_val (v_move' (by conv => (lhs; whnf))) rfl ?_
  refine wl_val (v_lss (a := (c.toNat : Int)) (b := 128) rfl rfl) rfl ?_
  refine wl_nil ?_
  refine then_go ?_
  refine wc_cond rfl (fun h32 => ?_) (fun h32 => ?_)
  ·refine wc_seq ?_
   refine wc_region ?_
   refine wl_val (v_move' (by conv => (lhs; whnf))) rfl ?_
   refine wl_val (v_assign' (by conv => (lhs; whnf))) rfl ?_
   refine wl_nil ?_
   refine then_go ?_
   refine wc_ret (then_ret (block_ret (then_ret (block_ret ?_))))
   have h128 : c.toNat < 128 := by have := of_decide_eq_true h32; omega
   rw [if_pos h128] at hN
   have e128 : c.toNat % 128 = c.toNat := Nat.mod_eq_of_lt h128
   have hval : u64 (A ||| shl64 (UInt64.ofNat (c.toNat % 128)) (7 * k)) = u64 (UInt64.ofNat (A.toNat + 2 ^ (7 * k) * c.toNat)) := by
    rw [e128] at hor ⊢
    rw [← hor.1, UInt64.ofNat_toNat]
   exact toP (ret1 rfl ⟨A.toNat + 2 ^ (7 * k) * c.toNat, j + 1, by omega, by omega, hN, hval, st⟩)
  ·refine wc_skip ?_
   refine then_go ?_
   refine wc_region ?_
   refine wl_val (v_move' (by conv => (lhs; whnf))) rfl ?_
   refine wl_val (v_add' (c := ((7 * (k + 1) : Nat) : Int)) rfl rfl (by omega) (by omega) (by omega)) rfl ?_
   refine wl_val (v_assign' (by conv => (lhs; whnf))) rfl ?_
   refine wl_nil ?_
   refine block_go (then_go ?_)
   have h128 : ¬ c.toNat < 128 := by have := of_decide_eq_false h32; omega
   have hk9 : k ≠ 9 := by rintro rfl; exact hgood (.inl ⟨rfl, by omega⟩)
   rw [if_neg h128] at hN
   refine ⟨10 - (k + 1), by simp; omega, k + 1, j + 1, _, rfl, by omega, by omega, by omega, ?_, rfl, rfl, rfl, ?_, st⟩
   ·rw [hor.1]; exact hor.2
   ·rw [hN, hor.1]
    cases numR (k + 1) (b.drop (j + 1)) with
    | none => rfl
    | some p =>
     obtain ⟨n, r⟩ := p
     simp only [Option.some.injEq, Prod.mk.injEq, and_true]
     rw [show 7 * (k + 1) = 7 * k + 7 by omega, Nat.pow_add, Nat.mul_add, Nat.mul_assoc, Nat.add_assoc]
end
end Go.Proofs.YtladpaehbolghaaGreat

namespace Go.Proofs.YtladpaehbolghaaGreat
open Go Go.RowKit K Go.Sort Go.Shelf
section
variable {α : Type} [Inhabited α] {enc : α → List Value} {k : Nat}
omit [Inhabited α] in
theorem flat_len0 (hk : ∀ x, (enc x).length = k) (L : List α) : (L.flatMap enc).length = L.length * k := by
 induction L with
 | nil => simp
 | cons x L ih => rw [List.flatMap_cons, List.length_append, ih, hk, List.length_cons, Nat.add_mul]; omega
theorem flat_get (hk : ∀ x, (enc x).length = k) : ∀ (L : List α) (t : Nat), t < L.length * k → (L.flatMap enc)[t]! = (enc L[t / k]!)[t % k]!
  | [], t, h => by simp at h
  | x :: L, t, h => by
    have k0 : 0 < k := by rcases Nat.eq_zero_or_pos k with e | e; · simp [e] at h
                          · exact e
    rw [List.length_cons, Nat.add_mul, Nat.one_mul] at h
    rw [List.flatMap_cons, List.getElem!_eq_getElem?_getD]
    by_cases ht : t < k
    · rw [List.getElem?_append_left (by rw [hk]; exact ht), Nat.div_eq_of_lt ht, Nat.mod_eq_of_lt ht, ← List.getElem!_eq_getElem?_getD]
      rfl
    · obtain ⟨u, rfl⟩ : ∃ u, t = u + k := ⟨t - k, by omega⟩
      rw [List.getElem?_append_right (by rw [hk]; omega), hk, Nat.add_sub_cancel, Nat.add_div_right _ k0, Nat.add_mod_right, ← List.getElem!_eq_getElem?_getD, flat_get hk L u (by omega)]
      simp
theorem flatK_eq (hk : ∀ x, (enc x).length = k) (L : List α) : flatK enc k L.toArray = (L.flatMap enc).toArray := by
 refine ext_get! (by simp [flat_len0 hk]) fun t ht => ?_
 have ht' : t < L.length * k := by simpa using ht
 rw [get_flatK _ _ _ t (by simpa using ht')]
 have := flat_get hk L t ht'
 simpa using this.symm
theorem put_cells {F G sp : List Value} (h : F.length = G.length) : putCells id 0 F.toArray (G ++ sp).toArray = (F ++ sp).toArray := by
 refine ext_get! (by simp [putCells, h]) fun t ht => ?_
 have ht' : t < G.length + sp.length := by simpa [putCells] using ht
 unfold putCells
 rw [getElem!_pos _ t (by simpa using ht'), Array.getElem_mapIdx, getElem!_pos _ t (by simp [h]; omega)]
 by_cases hf : t < F.length
 ·simp [hf, List.getElem_append_left]
 ·have hg : ¬ t < G.length := by omega
  simp [hg, h]
  rw [List.getElem_append_right (by omega), List.getElem_append_right (by omega)]
  simp [h]
theorem sortedW {P : Program} {w : World} {b : Nat} {L L' : List α} {sp : List Value} {E : TypeId} {n : Nat} {os : Array Obj} (hk : ∀ x, (enc x).length = k) (hl : L'.length = L.length) (hb : w.heap[b]? = some (.cells (L.flatMap enc ++ sp).toArray E (0, 0))) :
  Tch w (sortWorldK enc k w b 0 n L'.toArray os) [b] [b] ∧ (sortWorldK enc k w b 0 n L'.toArray os).heap[b]? = some (.cells (L'.flatMap enc ++ sp).toArray E (0, 0)) := by
 have hlt := lt_of_get hb
 unfold sortWorldK putRowK putRow mapBlock
 rw [flatK_eq hk]
 refine ⟨⟨rfl, rfl, rfl, by simp [grow, ahead], fun j hj hn => ?_, fun _ h => .inl h⟩, ?_⟩
 ·show ((w.heap.modify b _) ++ os)[j]? = _
  rw [Array.getElem?_append_left (by simpa using hj), Array.getElem?_modify, if_neg (by simp at hn; exact fun e => hn e.symm)]
 ·show ((w.heap.modify b _) ++ os)[b]? = _
  rw [Array.getElem?_append_left (by simpa using hlt), Array.getElem?_modify, if_pos rfl, hb]
  show some (Obj.cells (putCells id 0 _ _) E (0, 0)) = _
  rw [put_cells (by rw [flat_len0 hk, flat_len0 hk, hl])]
theorem holds_row {w : World} {b : Nat} {L : List α} {sp : List Value} {E : TypeId} (hk : ∀ x, (enc x).length = k) (hb : w.heap[b]? = some (.cells (L.flatMap enc ++ sp).toArray E (0, 0))) : HoldsK enc k w b 0 L.toArray := by
 unfold HoldsK
 rw [flatK_eq hk]
 intro j hj
 have hj' : j < (L.flatMap enc).length := by simpa using hj
 constructor
 ·unfold World.cell?
  rw [hb]
  simp only [Option.isSome_none, Bool.false_eq_true, if_false, Nat.zero_add, List.getElem?_toArray, id_eq]
  rw [List.getElem?_append_left hj', List.getElem?_eq_getElem hj', getElem!_pos _ j hj]
  simp
 ·unfold World.frozen?
  rw [hb]
  simp
theorem wl_boxX {P : Program} {n d : Nat} {ops : Array Oper} {Q : Po} {r : Fr} {w : World} {rest : List Oper} {ty : TypeId} {pos : String} {after : Array Edge} {T : TypeId} {x : Operand} {v : Value} (hx : ev r x = v) (hd : Nat.blt d n = true)
  (k : WL P n ops Q rest (upd d (.pointer (some ⟨w.heap.size, 0, none⟩)) r) (grow w #[.cells v.cells T (0, 0)])) :
  WL P n ops Q (⟨some d, .box T x, ty, pos, after, none⟩ :: rest) r w := by
 refine wl_val (v := .pointer (some ⟨w.heap.size, 0, none⟩)) (w' := w.alloc (.cells v.cells T)) ?_ hd (by rw [alloc_eq_grow]; exact k)
 intro _ _ _ _
 simp [execOp, Instr.box, newVar, newRow, hx]
theorem grow_at {w : World} {os : Array Obj} {k : Nat} : (grow w os).heap[w.heap.size + k]? = os[k]? := by
 show (w.heap ++ os)[w.heap.size + k]? = _
 rw [Array.getElem?_append_right (by omega), Nat.add_sub_cancel_left]
theorem sort_row {P : Program} {ρ : Ren} {E : TypeId} {by' : Nat} (LY : SlLaysF0.n6 P ρ) (hE : ρ.t 24 = E) (tf : TyF P E true k by') (hk : ∀ x, (enc x).length = k) (h1 : ∀ x, ∀ v ∈ enc x, v.oneCell' = true) {cf : α → α → Int} (hO : SWO (ltOf cf)) {g : Nat}
  (eg : ∀ args w, (callFunc g args).run P w = .ok (.enter g args) w) (hcmp : ∀ (W : World) (x y : α), Calls P g #[.agg (enc x).toArray, .agg (enc y).toArray] W fun e w' => e = .returned (.int .i64 (cf x y)) ∧ ∃ q os', w' = grow (W.drewN q) os')
  {m0 m : Mem} {F : List Nat} {w0 w : World} {Es : List Ent} {v : Value} {L : List α} (st : St m0 m F w0 w Es) (i : Nat) (hi : Es[i]? = some (rowE v E k L.length (L.flatMap enc))) (hL : L.length ≤ 1000000000) :
  Calls P (ρ.f 6) #[v, .func (.func g) #[] #[]] w fun e w' => e = .returned (.tuple #[]) ∧ ∃ L' : List α, L'.Perm L ∧ L'.Pairwise (fun x y => ltOf cf y x = false) ∧ St m0 m F w0 w' (Es.set i (rowE v E k L'.length (L'.flatMap enc))) := by
 have hset : Es.set i (rowE v E k L.length (L.flatMap enc)) = Es := by
  obtain ⟨h, he⟩ := List.getElem?_eq_some_iff.1 hi
  rw [← he, List.set_getElem_self]
 rcases (st.at hi).2 with ⟨rfl, h0⟩ | ⟨b, cap, cur, rfl, _, hg, hc, hm, hs, ht⟩
 ·have hn : L.length = 0 := h0
  refine Calls.mono (AnyF.slices_SortFunc_none LY none 0 _ w) ?_
  rintro e w' ⟨rfl, rfl⟩
  have hnil : L = [] := List.length_eq_zero_iff.1 hn
  subst hnil
  exact ⟨rfl, [], List.Perm.refl _, List.Pairwise.nil, by rw [hset]; exact st⟩
 ·obtain ⟨sp, hsp⟩ : ∃ sp, cur = (L.flatMap enc ++ sp).toArray := ⟨cur.toList.drop (L.length * k), by rw [← ht, List.take_append_drop]⟩
  rw [hsp] at hg
  have hcon := AnyQ.slices_SortFunc LY k (hE ▸ tf.isagg) (hE ▸ tf.sz) enc hk h1 cf hO g #[] b 0 cap L.toArray w eg (fun _ _ _ _ x y => hcmp _ x y) (holds_row hk hg) (lt_of_get hg) (by rw [List.size_toArray]; omega)
  rw [List.size_toArray] at hcon
  refine Calls.mono hcon ?_
  rintro e w' ⟨rfl, d', n, os, hp, hs', rfl⟩
  obtain ⟨L', hL'⟩ : ∃ L', d' = L'.toArray := ⟨d'.toList, rfl⟩
  subst hL'
  have hlen : L'.length = L.length := by simpa using hp.1
  have hperm : L'.Perm L := by
   have := hp.2.2
   simpa [hlen, List.take_of_length_le (Nat.le_of_eq hlen)] using this
  have hsort : L'.Pairwise (fun x y => ltOf cf y x = false) := by
   rw [List.pairwise_iff_getElem]
   intro a c ha hc' hac
   have := hs' a c (Nat.zero_le _) hac (by omega)
   simpa [ha, hc'] using this
  have hW := sortedW (P := P) (n := n) (os := os) hk hlen hg
  refine ⟨rfl, L', hperm, hsort, st.step i hi ?_ ⟨by rw [flat_len0 hk], .inr ⟨b, cap, (L'.flatMap enc ++ sp).toArray, by rw [hlen], Nat.zero_le _, hW.2, by rw [hlen]; exact hc, hm, ?_, ?_⟩⟩⟩
  ·simpa [rowE, Value.ownBlock] using hW.1
  ·rw [← hs, hsp]
   simp only [List.size_toArray, List.length_append, flat_len0 hk, hlen]
  ·show (L'.flatMap enc ++ sp).take _ = _
   rw [List.take_left' (by rw [flat_len0 hk])]
end
end Go.Proofs.YtladpaehbolghaaGreat

namespace Go.Proofs.YtladpaehbolghaaGreat
open Go Go.RowKit K Go.Sort
theorem cmpB_lt : ∀ {a b : List UInt8}, Lib.compareBytes a b < 0 ↔ a < b
 | [], [] => by simp [Lib.compareBytes]
 | [], _ :: _ => by simp [Lib.compareBytes]
 | _ :: _, [] => by simp [Lib.compareBytes]
 | x :: a, y :: b => by
  have ih := cmpB_lt (a := a) (b := b)
  rw [Lib.compareBytes, List.cons_lt_cons_iff]
  by_cases h1 : x < y
  ·simp [h1]
  ·by_cases h2 : y < x
   ·have : x ≠ y := fun e => by subst e; exact h1 h2
    simp [h1, h2, this]
   ·have : x = y := UInt8.le_antisymm (UInt8.not_lt.1 h2) (UInt8.not_lt.1 h1)
    simp [h1, h2, this, ih]
theorem cmpB_swo {α : Type} (f : α → List UInt8) : SWO (Proofs.ltOf fun x y => Lib.compareBytes (f x) (f y)) where
 irrefl x := by simp [Proofs.ltOf, cmpB_lt]
 trans x y z h1 h2 := by
  simp only [Proofs.ltOf, decide_eq_true_eq, cmpB_lt] at *
  exact List.lt_trans h1 h2
 ntrans x y z h1 h2 := by
  simp only [Proofs.ltOf, decide_eq_false_iff_not, cmpB_lt, List.not_lt] at *
  exact List.le_trans h2 h1
theorem size_strB (n : List UInt8) : (strB n).size = n.length := rfl
theorem bytesLess_iff : ∀ {a b : List UInt8}, Op.bytesLess a b = decide (a < b)
 | _, [] => by simp [Op.bytesLess]
 | [], _ :: _ => by simp [Op.bytesLess]
 | x :: a, y :: b => by
  have ih := bytesLess_iff (a := a) (b := b)
  rw [Op.bytesLess, ih, Bool.eq_iff_iff]
  simp [List.cons_lt_cons_iff]
section
variable {P : Program} {r : Fr} {w : World} {ty T U : TypeId} {x y : Operand} {a b : List UInt8}
theorem v_geStr (hx : ev r x = .string (strB a)) (hy : ev r y = .string (strB b)) : Val P (.binOp .geq T x y U) ty r w (.bool (decide (¬ a < b))) w := by
 intro _ _ _ _
 have e : (!decide (a < b)) = decide (¬ a < b) := decide_not.symm
 simp only [execOp, eqGuard, binOp, hx, hy, Op.stringOp, strB_toList, bytesLess_iff, e]
 rfl
theorem v_leStr (hx : ev r x = .string (strB a)) (hy : ev r y = .string (strB b)) : Val P (.binOp .leq T x y U) ty r w (.bool (decide (¬ b < a))) w := by
 intro _ _ _ _
 have e : (decide (a < b) || a == b) = decide (¬ b < a) := by
  rw [Bool.eq_iff_iff]
  simp only [Bool.or_eq_true, decide_eq_true_eq, beq_iff_eq, List.not_lt]
  exact (List.le_iff_lt_or_eq).symm
 simp only [execOp, eqGuard, binOp, hx, hy, Op.stringOp, strB_toList, bytesLess_iff, e]
 rfl
theorem v_ltStr (hx : ev r x = .string (strB a)) (hy : ev r y = .string (strB b)) : Val P (.binOp .lss T x y U) ty r w (.bool (decide (a < b))) w := by
 intro _ _ _ _
 simp [execOp, eqGuard, binOp, hx, hy, Op.stringOp, strB_toList, bytesLess_iff]
end
end Go.Proofs.YtladpaehbolghaaGreat

namespace Go.Proofs.YtladpaehbolghaaGreat
open Go Go.RowKit K SH
abbrev lrE (v : Value) (N : List ((List UInt8) × Value)) : Ent := rowE v 23 1 N.length (N.map (·.2))
def Pcs (m : Mem) (N : List ((List UInt8) × Value)) : Prop := ∀ x ∈ N, SlM m x.2 1 x.1.length (bs x.1)
theorem Pcs.mono {m m' : Mem} {N : List ((List UInt8) × Value)} (h : Pcs m N) (hm : ∀ k o, m k = some o → m' k = some o) : Pcs m' N := fun x hx => (h x hx).mono hm
theorem Pcs.snoc {m : Mem} {N : List ((List UInt8) × Value)} {x : (List UInt8) × Value} (h : Pcs m N) (hx : SlM m x.2 1 x.1.length (bs x.1)) : Pcs m (N ++ [x]) := fun y hy => (List.mem_append.1 hy).elim (h y) fun hy => by rw [List.mem_singleton.1 hy]; exact hx
def Apart (m m' : Mem) (v : Value) (l : List UInt8) : Prop := ∃ m1, (∀ k o, m1 k = some o → m' k = some o ∧ m k = none) ∧ SlM m1 v 1 l.length (bs l)
def PcsN (m m' : Mem) (N N' : List ((List UInt8) × Value)) : Prop := ∀ y ∈ N', y ∈ N ∨ Apart m m' y.2 y.1
theorem Apart.mono {m n m' m'' : Mem} {v : Value} {l : (List UInt8)} (h : Apart m m' v l) (hn : ∀ k o, n k = some o → m k = some o) (hm : ∀ k o, m' k = some o → m'' k = some o) : Apart n m'' v l := by
 obtain ⟨m1, h1, h2⟩ := h
 refine ⟨m1, fun k o hk => ⟨hm k o (h1 k o hk).1, ?_⟩, h2⟩
 cases hq : n k with
 | none => rfl
 | some q => have := hn k q hq; rw [(h1 k o hk).2] at this; cases this
theorem PcsN.refl {m m' : Mem} {N : List ((List UInt8) × Value)} : PcsN m m' N N := fun _ h => .inl h
theorem lr_PcsM {m0 m : Mem} {F : List Nat} {w0 w : World} {Es : List Ent} {v : Value} {N : List ((List UInt8) × Value)} (st : St m0 m F w0 w Es) (i : Nat) (hi : Es[i]? = some (lrE v N)) (h : Pcs m N) : PcsM (heapM w) v N := ⟨row_SlM (m := heapM w) (st.at hi) (fun _ _ _ h => h), fun x hx => (h x hx).mono fun k o h => st.im k o h⟩
section
variable {P : Program} {n : Nat} {ops : Array Oper} {Q : Po} {rest : List Oper} {r : Fr} {w : World} {d : Nat} {ty : TypeId} {pos : String} {after : Array Edge} {m0 m : Mem} {F : List Nat} {w0 : World} {Es : List Ent}
theorem wl_lrApp (i : Nat) {b cap : Nat} {v xv : Value} {s y : Operand} {N : List ((List UInt8) × Value)} {x : (List UInt8)} (st : St m0 m F w0 w (K.blk b #[xv] 23 :: Es)) (hi : Es[i]? = some (lrE v N)) (ho : xv.oneCell' = true) (hs : ev r s = v) (hy : ev r y = .slice (some ⟨b, 0, none⟩) 1 cap) (hN : N.length ≤ 1000000000) (hd : Nat.blt d n = true)
  (k : ∀ v' w', St m0 m F w0 w' (Es.set i (lrE v' (N ++ [(x, xv)]))) → WL Tryz.prog n ops Q rest (upd d v' r) w') :
  WL Tryz.prog n ops Q (⟨some d, .call ⟨.builtin .append, #[s, y], #[41, 41]⟩, ty, pos, after, none⟩ :: rest) r w := by
 refine wl_append (news := [xv]) (i + 1) st hi Tryz.underlying41 Tryz.underlying41 (.inr ⟨_, rfl⟩) TF.t23 TF.z23 rfl hs hy (st.srcArr (off := 0) 0 rfl rfl (fun j u hj => by simpa using hj) (fun u hu => by rw [List.mem_singleton.1 hu]; exact ho)) (by omega) (by omega) hd ?_
 intro v' w' _ st'
 have e1 : N.map (·.2) ++ [xv] = (N ++ [(x, xv)]).map (·.2) := by simp
 have e2 : N.length + 1 = (N ++ [(x, xv)]).length := by simp
 have st2 := st'.drop 0
 rw [e1, e2] at st2
 exact k v' w' st2
end
end Go.Proofs.YtladpaehbolghaaGreat

namespace Go.Proofs.YtladpaehbolghaaGreat
open Go Go.RowKit K SH GC JR
structure Ac where
 key : By
 set : Bool
 data : By
def acC (x : Ac) (vData : Value) : List Value := [.string (strB x.key)] ++ ([.bool x.set] ++ ([vData]))
structure AcOk (m : Mem) (x : Ac) (vData : Value) : Prop where
 key : x.key.length ≤ 9223372036854775807
 data : SlM m vData 1 x.data.length (bs x.data)
theorem AcOk.mono {m m' : Mem} {x : Ac} {vData : Value} (h : AcOk m x vData) (hm : ∀ k o, m k = some o → m' k = some o) : AcOk m' x vData :=
 ⟨h.key, h.data.mono hm⟩
def AcM (m : Mem) (v : Value) (x : Ac) : Prop := ∃ vData, v = .agg (acC x vData).toArray ∧ AcOk m x vData
theorem AcM.mono {m m' : Mem} {v : Value} {x : Ac} (h : AcM m v x) (hm : ∀ k o, m k = some o → m' k = some o) : AcM m' v x := by
 obtain ⟨vData, h1, h2⟩ := h
 exact ⟨_, h1, h2.mono hm⟩
section
variable {m : Mem} {x : Ac} {vData : Value} (h : AcOk m x vData)
include h
theorem Ac.len : (acC x vData).length = 3 := by
 have _ := h
 simp only [acC, List.length_append, List.length_cons, List.length_nil]
theorem Ac.g0_1 : getV false 1 (acC x vData).toArray 0 = some (.string (strB x.key)) := by
 have _ := h
 have e : acC x vData = (([] : List Value)) ++ ([.string (strB x.key)]) ++ ([.bool x.set] ++ [vData] ++ ([] : List Value)) := by simp [acC]
 exact getV_lst (b := []) (a := ([] : List Value)) (c := [.bool x.set] ++ [vData] ++ ([] : List Value)) (by rw [e]; simp) (by simp only [List.length_append, List.length_cons, List.length_nil])
theorem Ac.g1_1 : getV false 1 (acC x vData).toArray 1 = some (.bool x.set) := by
 have _ := h
 have e : acC x vData = (([] : List Value) ++ [.string (strB x.key)]) ++ ([.bool x.set]) ++ ([vData] ++ ([] : List Value)) := by simp [acC]
 exact getV_lst (b := []) (a := ([] : List Value) ++ [.string (strB x.key)]) (c := [vData] ++ ([] : List Value)) (by rw [e]; simp) (by simp only [List.length_append, List.length_cons, List.length_nil])
theorem Ac.g2_1 : getV false 1 (acC x vData).toArray 2 = some (vData) := by
 have _ := h
 have e : acC x vData = (([] : List Value) ++ [.string (strB x.key)] ++ [.bool x.set]) ++ ([vData]) ++ (([] : List Value)) := by simp [acC]
 exact getV_lst (b := []) (a := ([] : List Value) ++ [.string (strB x.key)] ++ [.bool x.set]) (c := ([] : List Value)) (by rw [e]; simp) (by simp only [List.length_append, List.length_cons, List.length_nil])
theorem Ac.one : ∀ u ∈ acC x vData, u.oneCell' = true := (one_app (one_cell rfl) (one_app (one_cell rfl) (one_cell (SlM.one1 h.data))))
end
def Ac.zero : Ac := ⟨[], false, []⟩
abbrev AcT := (Ac × Value)
def acP (p : AcT) : List Value := acC p.1 p.2
def AcsM (m : Mem) (v : Value) (L : List AcT) : Prop := LsM m v acP 3 L ∧ ∀ p ∈ L, AcOk m p.1 p.2
theorem AcsM.mono {m m' : Mem} {v : Value} {L : List AcT} (h : AcsM m v L) (hm : ∀ k o, m k = some o → m' k = some o) : AcsM m' v L := ⟨h.1.mono hm, fun p hp => (h.2 p hp).mono hm⟩
theorem AcsM.nil {m : Mem} : AcsM m (.slice none 0 0) [] := ⟨LsM.nil, by simp⟩
namespace OS
def actOk (a : Ac) : Prop := 1 ≤ a.key.length ∧ a.key.length ≤ 64 ∧ (a.set = true ∨ a.data.length = 0) ∧ a.data.length ≤ 1048576
instance (a : Ac) : Decidable (actOk a) := by unfold actOk; infer_instance
def okL (L : List Ac) : Prop := L.length ≤ 4096 ∧ (∀ a ∈ L, actOk a) ∧ (L.map (·.key)).Pairwise (· < ·)
instance (L : List Ac) : Decidable (okL L) := by unfold okL; infer_instance
def chkL (L : List Ac) : Nat := if okL L then 0 else 1
def GoodTo (L : List Ac) (i : Nat) : Prop := (∀ a ∈ L.take i, actOk a) ∧ ((L.take i).map (·.key)).Pairwise (· < ·)
theorem good0 {L : List Ac} : GoodTo L 0 := ⟨by simp, by simp⟩
theorem good_succ {L : List Ac} {i : Nat} (h : GoodTo L i) (hi : i < L.length) (ha : actOk L[i]) (hk : ∀ (h0 : 0 < i), L[i - 1].key < L[i].key) : GoodTo L (i + 1) := by
 unfold GoodTo
 rw [List.take_succ_eq_append_getElem hi]
 refine ⟨fun a h1 => ?_, ?_⟩
 ·rcases List.mem_append.1 h1 with h1 | h1
  ·exact h.1 a h1
  ·rw [List.mem_singleton.1 h1]; exact ha
 ·rw [List.map_append, List.pairwise_append]
  refine ⟨h.2, by simp, fun a h1 b h2 => ?_⟩
  rw [List.map_singleton, List.mem_singleton] at h2
  subst h2
  obtain ⟨y, hy, rfl⟩ := List.mem_map.1 h1
  obtain ⟨j, hj, rfl⟩ := List.getElem_of_mem hy
  have hji : j < i := by rw [List.length_take] at hj; omega
  have h0 := hk (by omega)
  rw [List.getElem_take]
  by_cases e : j = i - 1
  ·subst e; exact h0
  ·have h3 := List.pairwise_iff_getElem.1 h.2 j (i - 1) (by simp; omega) (by simp; omega) (by omega)
   simp only [List.getElem_map, List.getElem_take] at h3
   exact List.lt_trans h3 h0
theorem good_all {L : List Ac} (h : GoodTo L L.length) : okL L ↔ L.length ≤ 4096 := by
 unfold GoodTo at h
 rw [List.take_length] at h
 exact ⟨fun x => x.1, fun x => ⟨x, h⟩⟩
theorem ok_at {L : List Ac} (h : okL L) {i : Nat} (hi : i < L.length) : actOk L[i] := h.2.1 _ (List.getElem_mem hi)
theorem ok_lt {L : List Ac} (h : okL L) {i : Nat} (hi : i < L.length) (h0 : 0 < i) : L[i - 1].key < L[i].key := by
 have := List.pairwise_iff_getElem.1 h.2.2 (i - 1) i (by simp; omega) (by simp; omega) (by omega)
 simpa using this
end OS
section
open OS
variable {m : Mem} {wI : World}
theorem AcsM.at {m : Mem} {a : Option Addr} {k c : Nat} {L : List AcT} (h : AcsM m (.slice a k c) L) {i : Nat} (hi : i < L.length) :
  ∃ lb lo da dc, a = some ⟨lb, lo, none⟩ ∧ L[i].2 = .slice da L[i].1.data.length dc ∧ (∀ {w' : World}, Im m w' → Reads Tryz.prog w' 57 ⟨lb, lo + i * 3, none⟩ (.agg (acC L[i].1 L[i].2).toArray)) ∧ (∀ {w' : World}, Im m w' → Reads Tryz.prog w' 9 ⟨lb, lo + i * 3 + 0, none⟩ (.string (strB L[i].1.key))) ∧ (∀ {w' : World}, Im m w' → Reads Tryz.prog w' 4 ⟨lb, lo + i * 3 + 1, none⟩ (.bool L[i].1.set)) ∧ (∀ {w' : World}, Im m w' → Reads Tryz.prog w' 23 ⟨lb, lo + i * 3 + 2, none⟩ L[i].2) := by
 obtain ⟨lb, lo, hla⟩ := h.1.ptr (by omega) (by decide)
 have hok := h.2 _ (List.getElem_mem hi)
 obtain ⟨da, dc, hd, _⟩ := hok.data.opn
 subst hla
 exact ⟨lb, lo, da, dc, rfl, hd, fun him => h.1.rd0 rfl hi (by decide) TF.t57 (getV_all (Ac.len hok)) him, fun him => h.1.rd rfl hi (by decide) TF.t9 (Ac.g0_1 hok) him, fun him => h.1.rd rfl hi (by decide) TF.t4 (Ac.g1_1 hok) him, fun him => h.1.rd rfl hi (by decide) TF.t23 (Ac.g2_1 hok) him⟩
theorem c_chk {v : Value} {L : List AcT} (him : Im m wI) (hL : AcsM m v L) (hLl : L.length ≤ 1099511627776) :
  Ret Tryz.prog 10 #[v] wI fun v' w' => Tch wI w' [] [] ∧ v' = .int .i64 (chkL (L.map (·.1)) : Nat) := by
 have st := St.start him
 obtain ⟨la, lc, rfl⟩ := hL.1.sl
 obtain ⟨M, hM⟩ : ∃ M, M = L.map (·.1) := ⟨_, rfl⟩
 have hMl : M.length = L.length := by rw [hM, List.length_map]
 rw [← hM]
 refine ret_of Tryz.call10 Tryz.func10 rfl Tryz.ntmps10 Tryz.results10 rfl ?_
 refine wc_seq ?_
 refine wc_region ?_
 refine wl_val (v_assign' (by conv => (lhs; whnf))) rfl ?_
 refine wl_nil ?_
 refine then_go ?_
 refine wc_seq ?_
 refine wc_seq ?_
 refine wc_region ?_
 refine wl_val (v_move' (by conv => (lhs; whnf))) rfl ?_
 refine wl_val (v_len_s Tryz.underlying22 rfl) rfl ?_
 refine wl_val (v_move' (by conv => (lhs; whnf))) rfl ?_
 refine wl_nil ?_
 refine then_go ?_
 refine wc_block ?_
 refine wc_loop (S := Nat) (fun q r w' => ∃ i, q + i = L.length ∧ r 0 = .slice la L.length lc ∧ r 5 = .slice la L.length lc ∧ r 6 = .int .i64 L.length ∧ r 7 = .int .i64 i ∧ GoodTo M i ∧ St m m [] wI w' []) id L.length ⟨0, by omega, rfl, rfl, rfl, rfl, good0, st⟩ ?_
 clear st
 rintro q r w2 ⟨i, hqi, g0, g5, g6, g7, hg, st⟩
 refine wc_o 0 g0 (wc_o 5 g5 (wc_o 6 g6 (wc_o 7 g7 ?_)))
 refine wc_seq ?_
 refine wc_region ?_
 refine wl_val (v_lss rfl rfl) rfl ?_
 refine wl_nil ?_
 refine then_go ?_
 refine wc_seq ?_
 refine wc_if rfl (fun h8 => ?_) (fun h8 => ?_)
 ·refine wc_skip ?_
  refine then_go ?_
  refine wc_seq ?_
  refine wc_block ?_
  refine wc_seq ?_
  have hi : i < L.length := by omega
  have hiM : i < M.length := by omega
  obtain ⟨lb, lo, da, dc, hla, hd, hrL, _⟩ := hL.at hi
  subst hla
  have hok : AcOk m L[i].1 L[i].2 := hL.2 _ (List.getElem_mem hi)
  have hMi : M[i] = L[i].1 := by simp [hM]
  obtain ⟨x, hx⟩ : ∃ x, x = L[i].1 := ⟨_, rfl⟩
  rw [← hx] at hd hok hMi
  rw [hd] at hok
  have hrX : ∀ {w' : World}, Im m w' → Reads Tryz.prog w' 57 ⟨lb, lo + i * 3, none⟩ (.agg (acC x (.slice da x.data.length dc)).toArray) := by rw [← hd, hx]; exact hrL
  refine wc_region ?_
  refine wl_val (v_move' (by conv => (lhs; whnf))) rfl ?_
  refine wl_val (v_ias i Tryz.underlying22 TF.t57 rfl rfl (by first | rfl | omega) (by first | omega | (dsimp only at *; omega))) rfl ?_
  refine wl_val (v_load rfl (hrX st.im)) rfl ?_
  refine wl_alloc TF.z57 st rfl ?_
  intro b4 w st
  refine wl_val (v_assign' (by conv => (lhs; whnf))) rfl ?_
  refine wl_storeW (cs := (acC x (.slice da x.data.length dc)).toArray) 0 st rfl TF.t57 rfl rfl (by exact Ac.len hok) rfl (by exact Ac.one hok) ?_
  intro w st
  refine wl_nil ?_
  refine then_go ?_
  refine wc_block ?_
  refine wc_seq ?_
  by_cases h1 : x.key.length = 0
  ·refine wc_region ?_
   refine wl_val (v_fa TF.f57_0 rfl) rfl ?_
   refine wl_val (v_load rfl (by first | exact st.rdp 0 rfl (by exact rfl) TF.t9 (by exact (Ac.g0_1 (by assumption))) | exact st.rdp 1 rfl (by exact rfl) TF.t9 (by exact (Ac.g0_1 (by assumption))) | exact st.rdp 2 rfl (by exact rfl) TF.t9 (by exact (Ac.g0_1 (by assumption))) | exact st.rdp 3 rfl (by exact rfl) TF.t9 (by exact (Ac.g0_1 (by assumption))) | exact st.rdp 4 rfl (by exact rfl) TF.t9 (by exact (Ac.g0_1 (by assumption))) | exact st.rdp 5 rfl (by exact rfl) TF.t9 (by exact (Ac.g0_1 (by assumption))) | exact st.rdp 6 rfl (by exact rfl) TF.t9 (by exact (Ac.g0_1 (by assumption))) | exact st.rdp 7 rfl (by exact rfl) TF.t9 (by exact (Ac.g0_1 (by assumption))))) rfl ?_
   refine wl_val (wl_valD (v_eqs (b := []) rfl rfl) (q := true) (decide_eq_true (List.eq_nil_of_length_eq_zero h1))) rfl ?_
   refine wl_val (v_move' (by conv => (lhs; whnf))) rfl ?_
   refine wl_off rfl rfl rfl rfl ?_
   refine wl_off rfl rfl rfl rfl ?_
   refine wl_off rfl rfl rfl rfl ?_
   refine wl_off rfl rfl rfl rfl ?_
   refine wl_val (v_pick rfl) rfl ?_
   refine wl_val (v_move' (by conv => (lhs; whnf))) rfl ?_
   refine wl_off rfl rfl rfl rfl ?_
   refine wl_off rfl rfl rfl rfl ?_
   refine wl_off rfl rfl rfl rfl ?_
   refine wl_off rfl rfl rfl rfl ?_
   refine offU rfl rfl rfl ?_
   refine offU rfl rfl rfl ?_
   refine offU rfl rfl rfl ?_
   refine offU rfl rfl rfl ?_
   refine wl_off rfl rfl rfl rfl ?_
   refine wl_val (v_pick rfl) rfl ?_
   refine wl_val (v_move' (by conv => (lhs; whnf))) rfl ?_
   refine wl_off rfl rfl rfl rfl ?_
   refine wl_off rfl rfl rfl rfl ?_
   refine wl_off rfl rfl rfl rfl ?_
   refine wl_off rfl rfl rfl rfl ?_
   refine wl_val (v_pick rfl) rfl ?_
   refine wl_val (v_assign' (by conv => (lhs; whnf))) rfl ?_
   refine wl_nil ?_
   refine then_go ?_
   refine wc_true rfl ?_
   refine wc_seq ?_
   refine wc_region ?_
   refine wl_val (v_assign' (by conv => (lhs; whnf))) rfl ?_
   refine wl_nil ?_
   refine then_go ?_
   refine wc_ret (block_ret (block_ret (then_ret (then_ret (block_ret (then_ret ?_))))))
   exact ret1 rfl ⟨(st.keepOnly (l := []) (List.nil_sublist _)).touch, by unfold chkL; rw [if_neg (fun h => by have := ok_at h hiM; rw [hMi] at this; unfold actOk at this; omega)]; rfl⟩
  ·by_cases h2 : 64 < x.key.length
   ·refine wc_region ?_
    refine wl_val (v_fa TF.f57_0 rfl) rfl ?_
    refine wl_val (v_load rfl (by first | exact st.rdp 0 rfl (by exact rfl) TF.t9 (by exact (Ac.g0_1 (by assumption))) | exact st.rdp 1 rfl (by exact rfl) TF.t9 (by exact (Ac.g0_1 (by assumption))) | exact st.rdp 2 rfl (by exact rfl) TF.t9 (by exact (Ac.g0_1 (by assumption))) | exact st.rdp 3 rfl (by exact rfl) TF.t9 (by exact (Ac.g0_1 (by assumption))) | exact st.rdp 4 rfl (by exact rfl) TF.t9 (by exact (Ac.g0_1 (by assumption))) | exact st.rdp 5 rfl (by exact rfl) TF.t9 (by exact (Ac.g0_1 (by assumption))) | exact st.rdp 6 rfl (by exact rfl) TF.t9 (by exact (Ac.g0_1 (by assumption))) | exact st.rdp 7 rfl (by exact rfl) TF.t9 (by exact (Ac.g0_1 (by assumption))))) rfl ?_
    refine wl_val (wl_valD (v_eqs (b := []) rfl rfl) (q := false) (decide_eq_false (fun e => h1 (by rw [e]; rfl)))) rfl ?_
    refine wl_val (v_move' (by conv => (lhs; whnf))) rfl ?_
    refine wl_on rfl rfl ?_
    refine wl_val (v_fa TF.f57_0 rfl) rfl ?_
    refine wl_on rfl rfl ?_
    refine wl_val (v_load rfl (by first | exact st.rdp 0 rfl (by exact rfl) TF.t9 (by exact (Ac.g0_1 (by assumption))) | exact st.rdp 1 rfl (by exact rfl) TF.t9 (by exact (Ac.g0_1 (by assumption))) | exact st.rdp 2 rfl (by exact rfl) TF.t9 (by exact (Ac.g0_1 (by assumption))) | exact st.rdp 3 rfl (by exact rfl) TF.t9 (by exact (Ac.g0_1 (by assumption))) | exact st.rdp 4 rfl (by exact rfl) TF.t9 (by exact (Ac.g0_1 (by assumption))) | exact st.rdp 5 rfl (by exact rfl) TF.t9 (by exact (Ac.g0_1 (by assumption))) | exact st.rdp 6 rfl (by exact rfl) TF.t9 (by exact (Ac.g0_1 (by assumption))) | exact st.rdp 7 rfl (by exact rfl) TF.t9 (by exact (Ac.g0_1 (by assumption))))) rfl ?_
    refine wl_on rfl rfl ?_
    refine wl_val (v_to (v' := .int .i64 x.key.length) (v_len_str Tryz.underlying9 rfl) (by rw [size_strB])) rfl ?_
    refine wl_on rfl rfl ?_
    refine wl_val (wl_valD (v_gtr rfl rfl) (q := true) (decide_eq_true (by omega))) rfl ?_
    refine wl_val (v_pick rfl) rfl ?_
    refine wl_val (v_move' (by conv => (lhs; whnf))) rfl ?_
    refine wl_off rfl rfl rfl rfl ?_
    refine wl_off rfl rfl rfl rfl ?_
    refine wl_off rfl rfl rfl rfl ?_
    refine wl_off rfl rfl rfl rfl ?_
    refine offU rfl rfl rfl ?_
    refine offU rfl rfl rfl ?_
    refine offU rfl rfl rfl ?_
    refine offU rfl rfl rfl ?_
    refine wl_off rfl rfl rfl rfl ?_
    refine wl_val (v_pick rfl) rfl ?_
    refine wl_val (v_move' (by conv => (lhs; whnf))) rfl ?_
    refine wl_off rfl rfl rfl rfl ?_
    refine wl_off rfl rfl rfl rfl ?_
    refine wl_off rfl rfl rfl rfl ?_
    refine wl_off rfl rfl rfl rfl ?_
    refine wl_val (v_pick rfl) rfl ?_
    refine wl_val (v_assign' (by conv => (lhs; whnf))) rfl ?_
    refine wl_nil ?_
    refine then_go ?_
    refine wc_true rfl ?_
    refine wc_seq ?_
    refine wc_region ?_
    refine wl_val (v_assign' (by conv => (lhs; whnf))) rfl ?_
    refine wl_nil ?_
    refine then_go ?_
    refine wc_ret (block_ret (block_ret (then_ret (then_ret (block_ret (then_ret ?_))))))
    exact ret1 rfl ⟨(st.keepOnly (l := []) (List.nil_sublist _)).touch, by unfold chkL; rw [if_neg (fun h => by have := ok_at h hiM; rw [hMi] at this; unfold actOk at this; omega)]; rfl⟩
   ·rcases Bool.eq_false_or_eq_true x.set with h3 | h3
    ·refine wc_region ?_
     refine wl_val (v_fa TF.f57_0 rfl) rfl ?_
     refine wl_val (v_load rfl (by first | exact st.rdp 0 rfl (by exact rfl) TF.t9 (by exact (Ac.g0_1 (by assumption))) | exact st.rdp 1 rfl (by exact rfl) TF.t9 (by exact (Ac.g0_1 (by assumption))) | exact st.rdp 2 rfl (by exact rfl) TF.t9 (by exact (Ac.g0_1 (by assumption))) | exact st.rdp 3 rfl (by exact rfl) TF.t9 (by exact (Ac.g0_1 (by assumption))) | exact st.rdp 4 rfl (by exact rfl) TF.t9 (by exact (Ac.g0_1 (by assumption))) | exact st.rdp 5 rfl (by exact rfl) TF.t9 (by exact (Ac.g0_1 (by assumption))) | exact st.rdp 6 rfl (by exact rfl) TF.t9 (by exact (Ac.g0_1 (by assumption))) | exact st.rdp 7 rfl (by exact rfl) TF.t9 (by exact (Ac.g0_1 (by assumption))))) rfl ?_
     refine wl_val (wl_valD (v_eqs (b := []) rfl rfl) (q := false) (decide_eq_false (fun e => h1 (by rw [e]; rfl)))) rfl ?_
     refine wl_val (v_move' (by conv => (lhs; whnf))) rfl ?_
     refine wl_on rfl rfl ?_
     refine wl_val (v_fa TF.f57_0 rfl) rfl ?_
     refine wl_on rfl rfl ?_
     refine wl_val (v_load rfl (by first | exact st.rdp 0 rfl (by exact rfl) TF.t9 (by exact (Ac.g0_1 (by assumption))) | exact st.rdp 1 rfl (by exact rfl) TF.t9 (by exact (Ac.g0_1 (by assumption))) | exact st.rdp 2 rfl (by exact rfl) TF.t9 (by exact (Ac.g0_1 (by assumption))) | exact st.rdp 3 rfl (by exact rfl) TF.t9 (by exact (Ac.g0_1 (by assumption))) | exact st.rdp 4 rfl (by exact rfl) TF.t9 (by exact (Ac.g0_1 (by assumption))) | exact st.rdp 5 rfl (by exact rfl) TF.t9 (by exact (Ac.g0_1 (by assumption))) | exact st.rdp 6 rfl (by exact rfl) TF.t9 (by exact (Ac.g0_1 (by assumption))) | exact st.rdp 7 rfl (by exact rfl) TF.t9 (by exact (Ac.g0_1 (by assumption))))) rfl ?_
     refine wl_on rfl rfl ?_
     refine wl_val (v_to (v' := .int .i64 x.key.length) (v_len_str Tryz.underlying9 rfl) (by rw [size_strB])) rfl ?_
     refine wl_on rfl rfl ?_
     refine wl_val (wl_valD (v_gtr rfl rfl) (q := false) (decide_eq_false (by omega))) rfl ?_
     refine wl_val (v_pick rfl) rfl ?_
     refine wl_val (v_move' (by conv => (lhs; whnf))) rfl ?_
     refine wl_on rfl rfl ?_
     refine wl_val (v_fa TF.f57_1 rfl) rfl ?_
     refine wl_on rfl rfl ?_
     refine wl_val (v_load rfl (by first | exact st.rdp 0 rfl (by exact rfl) TF.t4 (by exact (Ac.g1_1 (by assumption))) | exact st.rdp 1 rfl (by exact rfl) TF.t4 (by exact (Ac.g1_1 (by assumption))) | exact st.rdp 2 rfl (by exact rfl) TF.t4 (by exact (Ac.g1_1 (by assumption))) | exact st.rdp 3 rfl (by exact rfl) TF.t4 (by exact (Ac.g1_1 (by assumption))) | exact st.rdp 4 rfl (by exact rfl) TF.t4 (by exact (Ac.g1_1 (by assumption))) | exact st.rdp 5 rfl (by exact rfl) TF.t4 (by exact (Ac.g1_1 (by assumption))) | exact st.rdp 6 rfl (by exact rfl) TF.t4 (by exact (Ac.g1_1 (by assumption))) | exact st.rdp 7 rfl (by exact rfl) TF.t4 (by exact (Ac.g1_1 (by assumption))))) rfl ?_
     refine wl_on rfl rfl ?_
     refine wl_val (wl_valD (v_not rfl) (q := false) (by rw [h3]; rfl)) rfl ?_
     refine wl_on rfl rfl ?_
     refine wl_val (v_move' (by conv => (lhs; whnf))) rfl ?_
     refine wl_off rfl rfl rfl rfl ?_
     refine wl_off rfl rfl rfl rfl ?_
     refine wl_off rfl rfl rfl rfl ?_
     refine wl_off rfl rfl rfl rfl ?_
     refine wl_on rfl rfl ?_
     refine wl_val (v_pick rfl) rfl ?_
     refine wl_val (v_pick rfl) rfl ?_
     refine wl_val (v_move' (by conv => (lhs; whnf))) rfl ?_
     refine wl_on rfl rfl ?_
     refine wl_val (v_fa TF.f57_2 rfl) rfl ?_
     refine wl_on rfl rfl ?_
     refine wl_val (v_load rfl (st.reads (v := .slice da x.data.length dc) 0 rfl TF.t23 rfl)) rfl ?_
     refine wl_on rfl rfl ?_
     refine wl_val (v_len_s Tryz.underlying23 rfl) rfl ?_
     refine wl_on rfl rfl ?_
     refine wl_val (v_gtr rfl rfl) rfl ?_
     refine wl_val (v_pick rfl) rfl ?_
     refine wl_val (v_assign' (by conv => (lhs; whnf))) rfl ?_
     refine wl_nil ?_
     refine then_go ?_
     refine wc_cond rfl (fun h12 => ?_) (fun h12 => ?_)
     ·refine wc_seq ?_
      refine wc_region ?_
      refine wl_val (v_assign' (by conv => (lhs; whnf))) rfl ?_
      refine wl_nil ?_
      refine then_go ?_
      refine wc_ret (block_ret (block_ret (then_ret (then_ret (block_ret (then_ret ?_))))))
      exact ret1 rfl ⟨(st.keepOnly (l := []) (List.nil_sublist _)).touch, by have := of_decide_eq_true h12; unfold chkL; rw [if_neg (fun h => by have := ok_at h hiM; rw [hMi] at this; unfold actOk at this; omega)]; rfl⟩
     ·refine wc_seq ?_
      by_cases hi0 : 0 < i
      ·have hip : i - 1 < L.length := by omega
       obtain ⟨lb', lo', da', dc', hla', hd', _, hrK, _⟩ := hL.at hip
       cases hla'
       have hMp : M[i - 1] = L[i - 1].1 := by simp [hM]
       refine wc_draw TF.mixed ?_
       have st := st.pure (touch_drew _)
       refine fl_val 0 rfl (fun _ => (v_move' (by conv => (lhs; whnf)))) rfl (by kernel_rfl) ?_
       refine fl_val 1 rfl (fun _ => (wl_valD (v_gtr rfl rfl) (q := true) (decide_eq_true (by omega)))) rfl (by kernel_rfl) ?_
       refine fl_val 2 rfl (fun _ => (v_move' (by conv => (lhs; whnf)))) rfl (by kernel_rfl) ?_
       refine fl_on 3 rfl rfl rfl rfl (fun _ => (v_move' (by conv => (lhs; whnf)))) rfl (by kernel_rfl) ?_
       refine fl_on 4 rfl rfl rfl rfl (fun _ => (v_move' (by conv => (lhs; whnf)))) rfl (by kernel_rfl) ?_
       refine fl_on 5 rfl rfl rfl rfl (fun _ => (v_sub' (c := ((i - 1 : Nat) : Int)) rfl rfl (by omega) (by omega) (by omega))) rfl (by kernel_rfl) ?_
       refine fl_on 6 rfl rfl rfl rfl (fun _ => (v_ias ((i - 1)) Tryz.underlying22 TF.t57 rfl rfl (by first | rfl | omega) (by first | omega | (dsimp only at *; omega)))) rfl (by kernel_rfl) ?_
       refine fl_on 7 rfl rfl rfl rfl (fun _ => (v_fa TF.f57_0 rfl)) rfl (by kernel_rfl) ?_
       refine fl_ond 8 rfl rfl rfl rfl (v_load rfl (hrK st.im)) rfl (by kernel_rfl) ?_
       refine fl_on 9 rfl rfl rfl rfl (fun _ => (v_fa TF.f57_0 rfl)) rfl (by kernel_rfl) ?_
       refine fl_ond 10 rfl rfl rfl rfl (v_load rfl (by first | exact st.rdp 0 rfl (by exact rfl) TF.t9 (by exact (Ac.g0_1 (by assumption))) | exact st.rdp 1 rfl (by exact rfl) TF.t9 (by exact (Ac.g0_1 (by assumption))) | exact st.rdp 2 rfl (by exact rfl) TF.t9 (by exact (Ac.g0_1 (by assumption))) | exact st.rdp 3 rfl (by exact rfl) TF.t9 (by exact (Ac.g0_1 (by assumption))) | exact st.rdp 4 rfl (by exact rfl) TF.t9 (by exact (Ac.g0_1 (by assumption))) | exact st.rdp 5 rfl (by exact rfl) TF.t9 (by exact (Ac.g0_1 (by assumption))) | exact st.rdp 6 rfl (by exact rfl) TF.t9 (by exact (Ac.g0_1 (by assumption))) | exact st.rdp 7 rfl (by exact rfl) TF.t9 (by exact (Ac.g0_1 (by assumption))))) rfl (by kernel_rfl) ?_
       refine fl_on 11 rfl rfl rfl rfl (fun _ => (v_geStr rfl rfl)) rfl (by kernel_rfl) ?_
       refine fl_val 12 rfl (fun _ => (v_pick rfl)) rfl (by kernel_rfl) ?_
       refine fl_eff1 13 [11, 9, 7, 6, 5, 4, 3, 1, 0] [10, 8] (by kernel_rfl) ⟨obl_on rfl rfl rfl rfl rfl (v_load rfl (by first | exact st.rdp 0 rfl (by exact rfl) TF.t9 (by exact (Ac.g0_1 (by assumption))) | exact st.rdp 1 rfl (by exact rfl) TF.t9 (by exact (Ac.g0_1 (by assumption))) | exact st.rdp 2 rfl (by exact rfl) TF.t9 (by exact (Ac.g0_1 (by assumption))) | exact st.rdp 3 rfl (by exact rfl) TF.t9 (by exact (Ac.g0_1 (by assumption))) | exact st.rdp 4 rfl (by exact rfl) TF.t9 (by exact (Ac.g0_1 (by assumption))) | exact st.rdp 5 rfl (by exact rfl) TF.t9 (by exact (Ac.g0_1 (by assumption))) | exact st.rdp 6 rfl (by exact rfl) TF.t9 (by exact (Ac.g0_1 (by assumption))) | exact st.rdp 7 rfl (by exact rfl) TF.t9 (by exact (Ac.g0_1 (by assumption))))), obl_on rfl rfl rfl rfl rfl (v_load rfl (hrK st.im)), trivial⟩ rfl ?_
       refine wl_val (v_assign' (by conv => (lhs; whnf))) rfl ?_
       refine wl_nil ⟨rfl, ?_⟩
       refine fl_nil (by kernel_rfl) ⟨obl_on rfl rfl rfl rfl rfl (v_load rfl (by first | exact st.rdp 0 rfl (by exact rfl) TF.t9 (by exact (Ac.g0_1 (by assumption))) | exact st.rdp 1 rfl (by exact rfl) TF.t9 (by exact (Ac.g0_1 (by assumption))) | exact st.rdp 2 rfl (by exact rfl) TF.t9 (by exact (Ac.g0_1 (by assumption))) | exact st.rdp 3 rfl (by exact rfl) TF.t9 (by exact (Ac.g0_1 (by assumption))) | exact st.rdp 4 rfl (by exact rfl) TF.t9 (by exact (Ac.g0_1 (by assumption))) | exact st.rdp 5 rfl (by exact rfl) TF.t9 (by exact (Ac.g0_1 (by assumption))) | exact st.rdp 6 rfl (by exact rfl) TF.t9 (by exact (Ac.g0_1 (by assumption))) | exact st.rdp 7 rfl (by exact rfl) TF.t9 (by exact (Ac.g0_1 (by assumption))))), obl_on rfl rfl rfl rfl rfl (v_load rfl (hrK st.im)), trivial⟩ ?_
       refine then_go ?_
       refine wc_cond rfl (fun h39 => ?_) (fun h39 => ?_)
       ·refine wc_seq ?_
        refine wc_region ?_
        refine wl_val (v_assign' (by conv => (lhs; whnf))) rfl ?_
        refine wl_nil ?_
        refine then_go ?_
        refine wc_ret (block_ret (block_ret (then_ret (then_ret (block_ret (then_ret ?_))))))
        exact ret1 rfl ⟨(st.keepOnly (l := []) (List.nil_sublist _)).touch, by unfold chkL; rw [if_neg (fun h => of_decide_eq_true h39 (by have := ok_lt h hiM hi0; rw [hMi, hMp] at this; exact this))]; rfl⟩
       ·refine wc_skip ?_
        refine block_go (block_go (then_go ?_))
        refine wc_region ?_
        refine wl_val (v_add' (c := ((i + 1 : Nat) : Int)) rfl rfl (by omega) (by omega) (by omega)) rfl ?_
        refine wl_val (v_move' (by conv => (lhs; whnf))) rfl ?_
        refine wl_nil ?_
        refine then_go ?_
        exact ⟨q - 1, by simp; omega, i + 1, by omega, rfl, rfl, rfl, rfl, good_succ hg hiM (by rw [hMi]; have := of_decide_eq_false h12; unfold actOk; rw [h3]; refine ⟨by omega, by omega, .inl rfl, by omega⟩) (fun _ => by have := of_decide_eq_false h39; rw [hMi, hMp]; exact Decidable.not_not.1 this), st.drop 0⟩
      ·refine wc_draw TF.mixed ?_
       have st := st.pure (touch_drew _)
       refine fl_val 0 rfl (fun _ => (v_move' (by conv => (lhs; whnf)))) rfl (by kernel_rfl) ?_
       refine fl_val 1 rfl (fun _ => (wl_valD (v_gtr rfl rfl) (q := false) (decide_eq_false (by omega)))) rfl (by kernel_rfl) ?_
       refine fl_val 2 rfl (fun _ => (v_move' (by conv => (lhs; whnf)))) rfl (by kernel_rfl) ?_
       refine fl_off 3 rfl rfl rfl rfl rfl rfl (by kernel_rfl) ?_
       refine fl_off 4 rfl rfl rfl rfl rfl rfl (by kernel_rfl) ?_
       refine fl_off 5 rfl rfl rfl rfl rfl rfl (by kernel_rfl) ?_
       refine fl_off 6 rfl rfl rfl rfl rfl rfl (by kernel_rfl) ?_
       refine fl_off 7 rfl rfl rfl rfl rfl rfl (by kernel_rfl) ?_
       refine fl_offd 8 rfl rfl rfl rfl rfl rfl (by kernel_rfl) ?_
       refine fl_off 9 rfl rfl rfl rfl rfl rfl (by kernel_rfl) ?_
       refine fl_offd 10 rfl rfl rfl rfl rfl rfl (by kernel_rfl) ?_
       refine fl_off 11 rfl rfl rfl rfl rfl rfl (by kernel_rfl) ?_
       refine fl_val 12 rfl (fun _ => (v_pick rfl)) rfl (by kernel_rfl) ?_
       refine fl_eff1 13 [11, 9, 7, 6, 5, 4, 3, 1, 0] [10, 8] (by kernel_rfl) ⟨obl_off rfl rfl rfl rfl rfl rfl, obl_off rfl rfl rfl rfl rfl rfl, trivial⟩ rfl ?_
       refine wl_val (v_assign' (by conv => (lhs; whnf))) rfl ?_
       refine wl_nil ⟨rfl, ?_⟩
       refine fl_nil (by kernel_rfl) ⟨obl_off rfl rfl rfl rfl rfl rfl, obl_off rfl rfl rfl rfl rfl rfl, trivial⟩ ?_
       refine then_go ?_
       refine wc_false rfl ?_
       refine wc_skip ?_
       refine block_go (block_go (then_go ?_))
       refine wc_region ?_
       refine wl_val (v_add' (c := ((i + 1 : Nat) : Int)) rfl rfl (by omega) (by omega) (by omega)) rfl ?_
       refine wl_val (v_move' (by conv => (lhs; whnf))) rfl ?_
       refine wl_nil ?_
       refine then_go ?_
       exact ⟨q - 1, by simp; omega, i + 1, by omega, rfl, rfl, rfl, rfl, good_succ hg hiM (by rw [hMi]; have := of_decide_eq_false h12; unfold actOk; rw [h3]; refine ⟨by omega, by omega, .inl rfl, by omega⟩) (fun h => (hi0 h).elim), st.drop 0⟩
    ·by_cases h4 : 0 < x.data.length
     ·refine wc_region ?_
      refine wl_val (v_fa TF.f57_0 rfl) rfl ?_
      refine wl_val (v_load rfl (by first | exact st.rdp 0 rfl (by exact rfl) TF.t9 (by exact (Ac.g0_1 (by assumption))) | exact st.rdp 1 rfl (by exact rfl) TF.t9 (by exact (Ac.g0_1 (by assumption))) | exact st.rdp 2 rfl (by exact rfl) TF.t9 (by exact (Ac.g0_1 (by assumption))) | exact st.rdp 3 rfl (by exact rfl) TF.t9 (by exact (Ac.g0_1 (by assumption))) | exact st.rdp 4 rfl (by exact rfl) TF.t9 (by exact (Ac.g0_1 (by assumption))) | exact st.rdp 5 rfl (by exact rfl) TF.t9 (by exact (Ac.g0_1 (by assumption))) | exact st.rdp 6 rfl (by exact rfl) TF.t9 (by exact (Ac.g0_1 (by assumption))) | exact st.rdp 7 rfl (by exact rfl) TF.t9 (by exact (Ac.g0_1 (by assumption))))) rfl ?_
      refine wl_val (wl_valD (v_eqs (b := []) rfl rfl) (q := false) (decide_eq_false (fun e => h1 (by rw [e]; rfl)))) rfl ?_
      refine wl_val (v_move' (by conv => (lhs; whnf))) rfl ?_
      refine wl_on rfl rfl ?_
      refine wl_val (v_fa TF.f57_0 rfl) rfl ?_
      refine wl_on rfl rfl ?_
      refine wl_val (v_load rfl (by first | exact st.rdp 0 rfl (by exact rfl) TF.t9 (by exact (Ac.g0_1 (by assumption))) | exact st.rdp 1 rfl (by exact rfl) TF.t9 (by exact (Ac.g0_1 (by assumption))) | exact st.rdp 2 rfl (by exact rfl) TF.t9 (by exact (Ac.g0_1 (by assumption))) | exact st.rdp 3 rfl (by exact rfl) TF.t9 (by exact (Ac.g0_1 (by assumption))) | exact st.rdp 4 rfl (by exact rfl) TF.t9 (by exact (Ac.g0_1 (by assumption))) | exact st.rdp 5 rfl (by exact rfl) TF.t9 (by exact (Ac.g0_1 (by assumption))) | exact st.rdp 6 rfl (by exact rfl) TF.t9 (by exact (Ac.g0_1 (by assumption))) | exact st.rdp 7 rfl (by exact rfl) TF.t9 (by exact (Ac.g0_1 (by assumption))))) rfl ?_
      refine wl_on rfl rfl ?_
      refine wl_val (v_to (v' := .int .i64 x.key.length) (v_len_str Tryz.underlying9 rfl) (by rw [size_strB])) rfl ?_
      refine wl_on rfl rfl ?_
      refine wl_val (wl_valD (v_gtr rfl rfl) (q := false) (decide_eq_false (by omega))) rfl ?_
      refine wl_val (v_pick rfl) rfl ?_
      refine wl_val (v_move' (by conv => (lhs; whnf))) rfl ?_
      refine wl_on rfl rfl ?_
      refine wl_val (v_fa TF.f57_1 rfl) rfl ?_
      refine wl_on rfl rfl ?_
      refine wl_val (v_load rfl (by first | exact st.rdp 0 rfl (by exact rfl) TF.t4 (by exact (Ac.g1_1 (by assumption))) | exact st.rdp 1 rfl (by exact rfl) TF.t4 (by exact (Ac.g1_1 (by assumption))) | exact st.rdp 2 rfl (by exact rfl) TF.t4 (by exact (Ac.g1_1 (by assumption))) | exact st.rdp 3 rfl (by exact rfl) TF.t4 (by exact (Ac.g1_1 (by assumption))) | exact st.rdp 4 rfl (by exact rfl) TF.t4 (by exact (Ac.g1_1 (by assumption))) | exact st.rdp 5 rfl (by exact rfl) TF.t4 (by exact (Ac.g1_1 (by assumption))) | exact st.rdp 6 rfl (by exact rfl) TF.t4 (by exact (Ac.g1_1 (by assumption))) | exact st.rdp 7 rfl (by exact rfl) TF.t4 (by exact (Ac.g1_1 (by assumption))))) rfl ?_
      refine wl_on rfl rfl ?_
      refine wl_val (wl_valD (v_not rfl) (q := true) (by rw [h3]; rfl)) rfl ?_
      refine wl_on rfl rfl ?_
      refine wl_val (v_move' (by conv => (lhs; whnf))) rfl ?_
      refine wl_on rfl rfl ?_
      refine wl_val (v_fa TF.f57_2 rfl) rfl ?_
      refine wl_on rfl rfl ?_
      refine wl_val (v_load rfl (st.reads (v := .slice da x.data.length dc) 0 rfl TF.t23 rfl)) rfl ?_
      refine wl_on rfl rfl ?_
      refine wl_val (v_len_s Tryz.underlying23 rfl) rfl ?_
      refine wl_on rfl rfl ?_
      refine wl_val (wl_valD (v_gtr rfl rfl) (q := true) (decide_eq_true (by omega))) rfl ?_
      refine wl_on rfl rfl ?_
      refine wl_val (v_pick rfl) rfl ?_
      refine wl_val (v_pick rfl) rfl ?_
      refine wl_val (v_move' (by conv => (lhs; whnf))) rfl ?_
      refine wl_off rfl rfl rfl rfl ?_
      refine wl_off rfl rfl rfl rfl ?_
      refine wl_off rfl rfl rfl rfl ?_
      refine wl_off rfl rfl rfl rfl ?_
      refine wl_val (v_pick rfl) rfl ?_
      refine wl_val (v_assign' (by conv => (lhs; whnf))) rfl ?_
      refine wl_nil ?_
      refine then_go ?_
      refine wc_true rfl ?_
      refine wc_seq ?_
      refine wc_region ?_
      refine wl_val (v_assign' (by conv => (lhs; whnf))) rfl ?_
      refine wl_nil ?_
      refine then_go ?_
      refine wc_ret (block_ret (block_ret (then_ret (then_ret (block_ret (then_ret ?_))))))
      exact ret1 rfl ⟨(st.keepOnly (l := []) (List.nil_sublist _)).touch, by unfold chkL; rw [if_neg (fun h => by have := ok_at h hiM; rw [hMi] at this; have h5 := this.2.2.1; rw [h3] at h5; rcases h5 with h5 | h5 <;> first | cases h5 | omega)]; rfl⟩
     ·refine wc_region ?_
      refine wl_val (v_fa TF.f57_0 rfl) rfl ?_
      refine wl_val (v_load rfl (by first | exact st.rdp 0 rfl (by exact rfl) TF.t9 (by exact (Ac.g0_1 (by assumption))) | exact st.rdp 1 rfl (by exact rfl) TF.t9 (by exact (Ac.g0_1 (by assumption))) | exact st.rdp 2 rfl (by exact rfl) TF.t9 (by exact (Ac.g0_1 (by assumption))) | exact st.rdp 3 rfl (by exact rfl) TF.t9 (by exact (Ac.g0_1 (by assumption))) | exact st.rdp 4 rfl (by exact rfl) TF.t9 (by exact (Ac.g0_1 (by assumption))) | exact st.rdp 5 rfl (by exact rfl) TF.t9 (by exact (Ac.g0_1 (by assumption))) | exact st.rdp 6 rfl (by exact rfl) TF.t9 (by exact (Ac.g0_1 (by assumption))) | exact st.rdp 7 rfl (by exact rfl) TF.t9 (by exact (Ac.g0_1 (by assumption))))) rfl ?_
      refine wl_val (wl_valD (v_eqs (b := []) rfl rfl) (q := false) (decide_eq_false (fun e => h1 (by rw [e]; rfl)))) rfl ?_
      refine wl_val (v_move' (by conv => (lhs; whnf))) rfl ?_
      refine wl_on rfl rfl ?_
      refine wl_val (v_fa TF.f57_0 rfl) rfl ?_
      refine wl_on rfl rfl ?_
      refine wl_val (v_load rfl (by first | exact st.rdp 0 rfl (by exact rfl) TF.t9 (by exact (Ac.g0_1 (by assumption))) | exact st.rdp 1 rfl (by exact rfl) TF.t9 (by exact (Ac.g0_1 (by assumption))) | exact st.rdp 2 rfl (by exact rfl) TF.t9 (by exact (Ac.g0_1 (by assumption))) | exact st.rdp 3 rfl (by exact rfl) TF.t9 (by exact (Ac.g0_1 (by assumption))) | exact st.rdp 4 rfl (by exact rfl) TF.t9 (by exact (Ac.g0_1 (by assumption))) | exact st.rdp 5 rfl (by exact rfl) TF.t9 (by exact (Ac.g0_1 (by assumption))) | exact st.rdp 6 rfl (by exact rfl) TF.t9 (by exact (Ac.g0_1 (by assumption))) | exact st.rdp 7 rfl (by exact rfl) TF.t9 (by exact (Ac.g0_1 (by assumption))))) rfl ?_
      refine wl_on rfl rfl ?_
      refine wl_val (v_to (v' := .int .i64 x.key.length) (v_len_str Tryz.underlying9 rfl) (by rw [size_strB])) rfl ?_
      refine wl_on rfl rfl ?_
      refine wl_val (wl_valD (v_gtr rfl rfl) (q := false) (decide_eq_false (by omega))) rfl ?_
      refine wl_val (v_pick rfl) rfl ?_
      refine wl_val (v_move' (by conv => (lhs; whnf))) rfl ?_
      refine wl_on rfl rfl ?_
      refine wl_val (v_fa TF.f57_1 rfl) rfl ?_
      refine wl_on rfl rfl ?_
      refine wl_val (v_load rfl (by first | exact st.rdp 0 rfl (by exact rfl) TF.t4 (by exact (Ac.g1_1 (by assumption))) | exact st.rdp 1 rfl (by exact rfl) TF.t4 (by exact (Ac.g1_1 (by assumption))) | exact st.rdp 2 rfl (by exact rfl) TF.t4 (by exact (Ac.g1_1 (by assumption))) | exact st.rdp 3 rfl (by exact rfl) TF.t4 (by exact (Ac.g1_1 (by assumption))) | exact st.rdp 4 rfl (by exact rfl) TF.t4 (by exact (Ac.g1_1 (by assumption))) | exact st.rdp 5 rfl (by exact rfl) TF.t4 (by exact (Ac.g1_1 (by assumption))) | exact st.rdp 6 rfl (by exact rfl) TF.t4 (by exact (Ac.g1_1 (by assumption))) | exact st.rdp 7 rfl (by exact rfl) TF.t4 (by exact (Ac.g1_1 (by assumption))))) rfl ?_
      refine wl_on rfl rfl ?_
      refine wl_val (wl_valD (v_not rfl) (q := true) (by rw [h3]; rfl)) rfl ?_
      refine wl_on rfl rfl ?_
      refine wl_val (v_move' (by conv => (lhs; whnf))) rfl ?_
      refine wl_on rfl rfl ?_
      refine wl_val (v_fa TF.f57_2 rfl) rfl ?_
      refine wl_on rfl rfl ?_
      refine wl_val (v_load rfl (st.reads (v := .slice da x.data.length dc) 0 rfl TF.t23 rfl)) rfl ?_
      refine wl_on rfl rfl ?_
      refine wl_val (v_len_s Tryz.underlying23 rfl) rfl ?_
      refine wl_on rfl rfl ?_
      refine wl_val (wl_valD (v_gtr rfl rfl) (q := false) (decide_eq_false (by omega))) rfl ?_
      refine wl_on rfl rfl ?_
      refine wl_val (v_pick rfl) rfl ?_
      refine wl_val (v_pick rfl) rfl ?_
      refine wl_val (v_move' (by conv => (lhs; whnf))) rfl ?_
      refine wl_on rfl rfl ?_
      refine wl_val (v_fa TF.f57_2 rfl) rfl ?_
      refine wl_on rfl rfl ?_
      refine wl_val (v_load rfl (st.reads (v := .slice da x.data.length dc) 0 rfl TF.t23 rfl)) rfl ?_
      refine wl_on rfl rfl ?_
      refine wl_val (v_len_s Tryz.underlying23 rfl) rfl ?_
      refine wl_on rfl rfl ?_
      refine wl_val (v_gtr rfl rfl) rfl ?_
      refine wl_val (v_pick rfl) rfl ?_
      refine wl_val (v_assign' (by conv => (lhs; whnf))) rfl ?_
      refine wl_nil ?_
      refine then_go ?_
      refine wc_cond rfl (fun h12 => ?_) (fun h12 => ?_)
      ·refine wc_seq ?_
       refine wc_region ?_
       refine wl_val (v_assign' (by conv => (lhs; whnf))) rfl ?_
       refine wl_nil ?_
       refine then_go ?_
       refine wc_ret (block_ret (block_ret (then_ret (then_ret (block_ret (then_ret ?_))))))
       exact ret1 rfl ⟨(st.keepOnly (l := []) (List.nil_sublist _)).touch, by have := of_decide_eq_true h12; unfold chkL; rw [if_neg (fun h => by have := ok_at h hiM; rw [hMi] at this; unfold actOk at this; omega)]; rfl⟩
      ·refine wc_seq ?_
       by_cases hi0 : 0 < i
       ·have hip : i - 1 < L.length := by omega
        obtain ⟨lb', lo', da', dc', hla', hd', _, hrK, _⟩ := hL.at hip
        cases hla'
        have hMp : M[i - 1] = L[i - 1].1 := by simp [hM]
        refine wc_draw TF.mixed ?_
        have st := st.pure (touch_drew _)
        refine fl_val 0 rfl (fun _ => (v_move' (by conv => (lhs; whnf)))) rfl (by kernel_rfl) ?_
        refine fl_val 1 rfl (fun _ => (wl_valD (v_gtr rfl rfl) (q := true) (decide_eq_true (by omega)))) rfl (by kernel_rfl) ?_
        refine fl_val 2 rfl (fun _ => (v_move' (by conv => (lhs; whnf)))) rfl (by kernel_rfl) ?_
        refine fl_on 3 rfl rfl rfl rfl (fun _ => (v_move' (by conv => (lhs; whnf)))) rfl (by kernel_rfl) ?_
        refine fl_on 4 rfl rfl rfl rfl (fun _ => (v_move' (by conv => (lhs; whnf)))) rfl (by kernel_rfl) ?_
        refine fl_on 5 rfl rfl rfl rfl (fun _ => (v_sub' (c := ((i - 1 : Nat) : Int)) rfl rfl (by omega) (by omega) (by omega))) rfl (by kernel_rfl) ?_
        refine fl_on 6 rfl rfl rfl rfl (fun _ => (v_ias ((i - 1)) Tryz.underlying22 TF.t57 rfl rfl (by first | rfl | omega) (by first | omega | (dsimp only at *; omega)))) rfl (by kernel_rfl) ?_
        refine fl_on 7 rfl rfl rfl rfl (fun _ => (v_fa TF.f57_0 rfl)) rfl (by kernel_rfl) ?_
        refine fl_ond 8 rfl rfl rfl rfl (v_load rfl (hrK st.im)) rfl (by kernel_rfl) ?_
        refine fl_on 9 rfl rfl rfl rfl (fun _ => (v_fa TF.f57_0 rfl)) rfl (by kernel_rfl) ?_
        refine fl_ond 10 rfl rfl rfl rfl (v_load rfl (by first | exact st.rdp 0 rfl (by exact rfl) TF.t9 (by exact (Ac.g0_1 (by assumption))) | exact st.rdp 1 rfl (by exact rfl) TF.t9 (by exact (Ac.g0_1 (by assumption))) | exact st.rdp 2 rfl (by exact rfl) TF.t9 (by exact (Ac.g0_1 (by assumption))) | exact st.rdp 3 rfl (by exact rfl) TF.t9 (by exact (Ac.g0_1 (by assumption))) | exact st.rdp 4 rfl (by exact rfl) TF.t9 (by exact (Ac.g0_1 (by assumption))) | exact st.rdp 5 rfl (by exact rfl) TF.t9 (by exact (Ac.g0_1 (by assumption))) | exact st.rdp 6 rfl (by exact rfl) TF.t9 (by exact (Ac.g0_1 (by assumption))) | exact st.rdp 7 rfl (by exact rfl) TF.t9 (by exact (Ac.g0_1 (by assumption))))) rfl (by kernel_rfl) ?_
        refine fl_on 11 rfl rfl rfl rfl (fun _ => (v_geStr rfl rfl)) rfl (by kernel_rfl) ?_
        refine fl_val 12 rfl (fun _ => (v_pick rfl)) rfl (by kernel_rfl) ?_
        refine fl_eff1 13 [11, 9, 7, 6, 5, 4, 3, 1, 0] [10, 8] (by kernel_rfl) ⟨obl_on rfl rfl rfl rfl rfl (v_load rfl (by first | exact st.rdp 0 rfl (by exact rfl) TF.t9 (by exact (Ac.g0_1 (by assumption))) | exact st.rdp 1 rfl (by exact rfl) TF.t9 (by exact (Ac.g0_1 (by assumption))) | exact st.rdp 2 rfl (by exact rfl) TF.t9 (by exact (Ac.g0_1 (by assumption))) | exact st.rdp 3 rfl (by exact rfl) TF.t9 (by exact (Ac.g0_1 (by assumption))) | exact st.rdp 4 rfl (by exact rfl) TF.t9 (by exact (Ac.g0_1 (by assumption))) | exact st.rdp 5 rfl (by exact rfl) TF.t9 (by exact (Ac.g0_1 (by assumption))) | exact st.rdp 6 rfl (by exact rfl) TF.t9 (by exact (Ac.g0_1 (by assumption))) | exact st.rdp 7 rfl (by exact rfl) TF.t9 (by exact (Ac.g0_1 (by assumption))))), obl_on rfl rfl rfl rfl rfl (v_load rfl (hrK st.im)), trivial⟩ rfl ?_
        refine wl_val (v_assign' (by conv => (lhs; whnf))) rfl ?_
        refine wl_nil ⟨rfl, ?_⟩
        refine fl_nil (by kernel_rfl) ⟨obl_on rfl rfl rfl rfl rfl (v_load rfl (by first | exact st.rdp 0 rfl (by exact rfl) TF.t9 (by exact (Ac.g0_1 (by assumption))) | exact st.rdp 1 rfl (by exact rfl) TF.t9 (by exact (Ac.g0_1 (by assumption))) | exact st.rdp 2 rfl (by exact rfl) TF.t9 (by exact (Ac.g0_1 (by assumption))) | exact st.rdp 3 rfl (by exact rfl) TF.t9 (by exact (Ac.g0_1 (by assumption))) | exact st.rdp 4 rfl (by exact rfl) TF.t9 (by exact (Ac.g0_1 (by assumption))) | exact st.rdp 5 rfl (by exact rfl) TF.t9 (by exact (Ac.g0_1 (by assumption))) | exact st.rdp 6 rfl (by exact rfl) TF.t9 (by exact (Ac.g0_1 (by assumption))) | exact st.rdp 7 rfl (by exact rfl) TF.t9 (by exact (Ac.g0_1 (by assumption))))), obl_on rfl rfl rfl rfl rfl (v_load rfl (hrK st.im)), trivial⟩ ?_
        refine then_go ?_
        refine wc_cond rfl (fun h39 => ?_) (fun h39 => ?_)
        ·refine wc_seq ?_
         refine wc_region ?_
         refine wl_val (v_assign' (by conv => (lhs; whnf))) rfl ?_
         refine wl_nil ?_
         refine then_go ?_
         refine wc_ret (block_ret (block_ret (then_ret (then_ret (block_ret (then_ret ?_))))))
         exact ret1 rfl ⟨(st.keepOnly (l := []) (List.nil_sublist _)).touch, by unfold chkL; rw [if_neg (fun h => of_decide_eq_true h39 (by have := ok_lt h hiM hi0; rw [hMi, hMp] at this; exact this))]; rfl⟩
        ·refine wc_skip ?_
         refine block_go (block_go (then_go ?_))
         refine wc_region ?_
         refine wl_val (v_add' (c := ((i + 1 : Nat) : Int)) rfl rfl (by omega) (by omega) (by omega)) rfl ?_
         refine wl_val (v_move' (by conv => (lhs; whnf))) rfl ?_
         refine wl_nil ?_
         refine then_go ?_
         exact ⟨q - 1, by simp; omega, i + 1, by omega, rfl, rfl, rfl, rfl, good_succ hg hiM (by rw [hMi]; have := of_decide_eq_false h12; unfold actOk; refine ⟨by omega, by omega, .inr (by omega), by omega⟩) (fun _ => by have := of_decide_eq_false h39; rw [hMi, hMp]; exact Decidable.not_not.1 this), st.drop 0⟩
       ·refine wc_draw TF.mixed ?_
        have st := st.pure (touch_drew _)
        refine fl_val 0 rfl (fun _ => (v_move' (by conv => (lhs; whnf)))) rfl (by kernel_rfl) ?_
        refine fl_val 1 rfl (fun _ => (wl_valD (v_gtr rfl rfl) (q := false) (decide_eq_false (by omega)))) rfl (by kernel_rfl) ?_
        refine fl_val 2 rfl (fun _ => (v_move' (by conv => (lhs; whnf)))) rfl (by kernel_rfl) ?_
        refine fl_off 3 rfl rfl rfl rfl rfl rfl (by kernel_rfl) ?_
        refine fl_off 4 rfl rfl rfl rfl rfl rfl (by kernel_rfl) ?_
        refine fl_off 5 rfl rfl rfl rfl rfl rfl (by kernel_rfl) ?_
        refine fl_off 6 rfl rfl rfl rfl rfl rfl (by kernel_rfl) ?_
        refine fl_off 7 rfl rfl rfl rfl rfl rfl (by kernel_rfl) ?_
        refine fl_offd 8 rfl rfl rfl rfl rfl rfl (by kernel_rfl) ?_
        refine fl_off 9 rfl rfl rfl rfl rfl rfl (by kernel_rfl) ?_
        refine fl_offd 10 rfl rfl rfl rfl rfl rfl (by kernel_rfl) ?_
        refine fl_off 11 rfl rfl rfl rfl rfl rfl (by kernel_rfl) ?_
        refine fl_val 12 rfl (fun _ => (v_pick rfl)) rfl (by kernel_rfl) ?_
        refine fl_eff1 13 [11, 9, 7, 6, 5, 4, 3, 1, 0] [10, 8] (by kernel_rfl) ⟨obl_off rfl rfl rfl rfl rfl rfl, obl_off rfl rfl rfl rfl rfl rfl, trivial⟩ rfl ?_
        refine wl_val (v_assign' (by conv => (lhs; whnf))) rfl ?_
        refine wl_nil ⟨rfl, ?_⟩
        refine fl_nil (by kernel_rfl) ⟨obl_off rfl rfl rfl rfl rfl rfl, obl_off rfl rfl rfl rfl rfl rfl, trivial⟩ ?_
        refine then_go ?_
        refine wc_false rfl ?_
        refine wc_skip ?_
        refine block_go (block_go (then_go ?_))
        refine wc_region ?_
        refine wl_val (v_add' (c := ((i + 1 : Nat) : Int)) rfl rfl (by omega) (by omega) (by omega)) rfl ?_
        refine wl_val (v_move' (by conv => (lhs; whnf))) rfl ?_
        refine wl_nil ?_
        refine then_go ?_
        exact ⟨q - 1, by simp; omega, i + 1, by omega, rfl, rfl, rfl, rfl, good_succ hg hiM (by rw [hMi]; have := of_decide_eq_false h12; unfold actOk; refine ⟨by omega, by omega, .inr (by omega), by omega⟩) (fun h => (hi0 h).elim), st.drop 0⟩
 ·refine wc_exit (then_exit (then_exit (block_hit ?_)))
  refine then_go ?_
  refine wc_seq ?_
  refine wc_seq ?_
  have hi : i = M.length := by omega
  subst hi
  have hall := good_all hg
  refine wc_region ?_
  refine wl_val (v_move' (by conv => (lhs; whnf))) rfl ?_
  refine wl_val (v_len_s Tryz.underlying22 rfl) rfl ?_
  refine wl_val (v_gtr rfl rfl) rfl ?_
  refine wl_nil ?_
  refine then_go ?_
  refine wc_cond rfl (fun h56 => ?_) (fun h56 => ?_)
  ·refine wc_seq ?_
   refine wc_region ?_
   refine wl_val (v_assign' (by conv => (lhs; whnf))) rfl ?_
   refine wl_nil ?_
   refine then_go ?_
   refine wc_ret (then_ret ?_)
   exact ret1 rfl ⟨st.touch, by have := of_decide_eq_true h56; unfold chkL; rw [if_neg (fun h => by have := hall.1 h; omega)]; rfl⟩
  ·refine wc_skip ?_
   refine then_go ?_
   refine wc_seq ?_
   refine wc_region ?_
   refine wl_val (v_assign' (by conv => (lhs; whnf))) rfl ?_
   refine wl_nil ?_
   refine then_go ?_
   refine wc_ret ?_
   exact ret1 rfl ⟨st.touch, by have := of_decide_eq_false h56; unfold chkL; rw [if_pos (hall.2 (by omega))]; rfl⟩
theorem c_rchk {v : Value} {L : List AcT} (him : Im m wI) (hL : AcsM m v L) (hLl : L.length ≤ 1099511627776) :
  Ret Tryz.prog 13 #[v] wI fun v' w' => Tch wI w' [] [] ∧ v' = .int .i64 (chkL (L.map (·.1)) : Nat) := by
 have st := St.start him
 obtain ⟨la, lc, rfl⟩ := hL.1.sl
 obtain ⟨M, hM⟩ : ∃ M, M = L.map (·.1) := ⟨_, rfl⟩
 have hMl : M.length = L.length := by rw [hM, List.length_map]
 rw [← hM]
 refine ret_of Tryz.call13 Tryz.func13 rfl Tryz.ntmps13 Tryz.results13 rfl ?_
 refine wc_seq ?_
 refine wc_region ?_
 refine wl_val (v_assign' (by conv => (lhs; whnf))) rfl ?_
 refine wl_nil ?_
 refine then_go ?_
 refine wc_seq ?_
 refine wc_seq ?_
 refine wc_region ?_
 refine wl_val (v_move' (by conv => (lhs; whnf))) rfl ?_
 refine wl_val (v_len_s Tryz.underlying22 rfl) rfl ?_
 refine wl_val (v_gtr rfl rfl) rfl ?_
 refine wl_nil ?_
 refine then_go ?_
 refine wc_cond rfl (fun h7 => ?_) (fun h7 => ?_)
 ·refine wc_seq ?_
  refine wc_region ?_
  refine wl_val (v_assign' (by conv => (lhs; whnf))) rfl ?_
  refine wl_nil ?_
  refine then_go ?_
  refine wc_ret (then_ret ?_)
  exact ret1 rfl ⟨st.touch, by have := of_decide_eq_true h7; unfold chkL; rw [if_neg (fun h => by have := h.1; omega)]; rfl⟩
 ·refine wc_skip ?_
  refine then_go ?_
  refine wc_seq ?_
  refine wc_seq ?_
  refine wc_region ?_
  refine wl_val (v_assign' (by conv => (lhs; whnf))) rfl ?_
  refine wl_nil ?_
  refine then_go ?_
  refine wc_block ?_
  refine wc_loop (S := Nat) (fun q r w' => ∃ i, q + i = L.length ∧ r 0 = .slice la L.length lc ∧ r 3 = .int .i64 i ∧ GoodTo M i ∧ St m m [] wI w' []) id L.length ⟨0, by omega, rfl, rfl, good0, st⟩ ?_
  clear st
  rintro q r w2 ⟨i, hqi, g0, g3, hg, st⟩
  refine wc_o 0 g0 (wc_o 3 g3 ?_)
  refine wc_seq ?_
  refine wc_seq ?_
  refine wc_region ?_
  refine wl_val (v_move' (by conv => (lhs; whnf))) rfl ?_
  refine wl_val (v_move' (by conv => (lhs; whnf))) rfl ?_
  refine wl_val (v_len_s Tryz.underlying22 rfl) rfl ?_
  refine wl_val (v_lss rfl rfl) rfl ?_
  refine wl_nil ?_
  refine then_go ?_
  refine wc_if rfl (fun h11 => ?_) (fun h11 => ?_)
  ·refine wc_skip ?_
   refine then_go ?_
   refine wc_seq ?_
   refine wc_block ?_
   refine wc_seq ?_
   have hi : i < L.length := by omega
   have hiM : i < M.length := by omega
   obtain ⟨lb, lo, da, dc, hla, hd, hrL, _⟩ := hL.at hi
   subst hla
   have hok : AcOk m L[i].1 L[i].2 := hL.2 _ (List.getElem_mem hi)
   have hMi : M[i] = L[i].1 := by simp [hM]
   obtain ⟨x, hx⟩ : ∃ x, x = L[i].1 := ⟨_, rfl⟩
   rw [← hx] at hd hok hMi
   rw [hd] at hok
   have hrX : ∀ {w' : World}, Im m w' → Reads Tryz.prog w' 57 ⟨lb, lo + i * 3, none⟩ (.agg (acC x (.slice da x.data.length dc)).toArray) := by rw [← hd, hx]; exact hrL
   refine wc_region ?_
   refine wl_val (v_move' (by conv => (lhs; whnf))) rfl ?_
   refine wl_val (v_move' (by conv => (lhs; whnf))) rfl ?_
   refine wl_val (v_ias i Tryz.underlying22 TF.t57 rfl rfl (by first | rfl | omega) (by first | omega | (dsimp only at *; omega))) rfl ?_
   refine wl_val (v_load rfl (hrX st.im)) rfl ?_
   refine wl_alloc TF.z57 st rfl ?_
   intro b4 w st
   refine wl_storeW (cs := (acC x (.slice da x.data.length dc)).toArray) 0 st rfl TF.t57 rfl rfl (by exact Ac.len hok) rfl (by exact Ac.one hok) ?_
   intro w st
   refine wl_nil ?_
   refine then_go ?_
   refine wc_seq ?_
   refine wc_seq ?_
   by_cases h1 : x.key.length = 0
   ·refine wc_region ?_
    refine wl_val (v_fa TF.f57_0 rfl) rfl ?_
    refine wl_val (v_load rfl (by first | exact st.rdp 0 rfl (by exact rfl) TF.t9 (by exact (Ac.g0_1 (by assumption))) | exact st.rdp 1 rfl (by exact rfl) TF.t9 (by exact (Ac.g0_1 (by assumption))) | exact st.rdp 2 rfl (by exact rfl) TF.t9 (by exact (Ac.g0_1 (by assumption))) | exact st.rdp 3 rfl (by exact rfl) TF.t9 (by exact (Ac.g0_1 (by assumption))) | exact st.rdp 4 rfl (by exact rfl) TF.t9 (by exact (Ac.g0_1 (by assumption))) | exact st.rdp 5 rfl (by exact rfl) TF.t9 (by exact (Ac.g0_1 (by assumption))) | exact st.rdp 6 rfl (by exact rfl) TF.t9 (by exact (Ac.g0_1 (by assumption))) | exact st.rdp 7 rfl (by exact rfl) TF.t9 (by exact (Ac.g0_1 (by assumption))))) rfl ?_
    refine wl_val (v_to (v' := .int .i64 x.key.length) (v_len_str Tryz.underlying9 rfl) (by rw [size_strB])) rfl ?_
    refine wl_val (wl_valD (v_lss rfl rfl) (q := true) (decide_eq_true (by omega))) rfl ?_
    refine wl_val (v_move' (by conv => (lhs; whnf))) rfl ?_
    refine wl_off rfl rfl rfl rfl ?_
    refine wl_off rfl rfl rfl rfl ?_
    refine wl_off rfl rfl rfl rfl ?_
    refine wl_off rfl rfl rfl rfl ?_
    refine wl_val (v_pick rfl) rfl ?_
    refine wl_val (v_move' (by conv => (lhs; whnf))) rfl ?_
    refine wl_off rfl rfl rfl rfl ?_
    refine wl_off rfl rfl rfl rfl ?_
    refine wl_off rfl rfl rfl rfl ?_
    refine wl_off rfl rfl rfl rfl ?_
    refine offU rfl rfl rfl ?_
    refine offU rfl rfl rfl ?_
    refine offU rfl rfl rfl ?_
    refine offU rfl rfl rfl ?_
    refine wl_off rfl rfl rfl rfl ?_
    refine wl_val (v_pick rfl) rfl ?_
    refine wl_val (v_move' (by conv => (lhs; whnf))) rfl ?_
    refine wl_off rfl rfl rfl rfl ?_
    refine wl_off rfl rfl rfl rfl ?_
    refine wl_off rfl rfl rfl rfl ?_
    refine wl_off rfl rfl rfl rfl ?_
    refine wl_val (v_pick rfl) rfl ?_
    refine wl_nil ?_
    refine then_go ?_
    refine wc_true rfl ?_
    refine wc_seq ?_
    refine wc_region ?_
    refine wl_val (v_assign' (by conv => (lhs; whnf))) rfl ?_
    refine wl_nil ?_
    refine then_go ?_
    refine wc_ret (then_ret (block_ret (then_ret (then_ret (block_ret (then_ret ?_))))))
    exact ret1 rfl ⟨(st.keepOnly (l := []) (List.nil_sublist _)).touch, by unfold chkL; rw [if_neg (fun h => by have := ok_at h hiM; rw [hMi] at this; unfold actOk at this; omega)]; rfl⟩
   ·by_cases h2 : 64 < x.key.length
    ·refine wc_region ?_
     refine wl_val (v_fa TF.f57_0 rfl) rfl ?_
     refine wl_val (v_load rfl (by first | exact st.rdp 0 rfl (by exact rfl) TF.t9 (by exact (Ac.g0_1 (by assumption))) | exact st.rdp 1 rfl (by exact rfl) TF.t9 (by exact (Ac.g0_1 (by assumption))) | exact st.rdp 2 rfl (by exact rfl) TF.t9 (by exact (Ac.g0_1 (by assumption))) | exact st.rdp 3 rfl (by exact rfl) TF.t9 (by exact (Ac.g0_1 (by assumption))) | exact st.rdp 4 rfl (by exact rfl) TF.t9 (by exact (Ac.g0_1 (by assumption))) | exact st.rdp 5 rfl (by exact rfl) TF.t9 (by exact (Ac.g0_1 (by assumption))) | exact st.rdp 6 rfl (by exact rfl) TF.t9 (by exact (Ac.g0_1 (by assumption))) | exact st.rdp 7 rfl (by exact rfl) TF.t9 (by exact (Ac.g0_1 (by assumption))))) rfl ?_
     refine wl_val (v_to (v' := .int .i64 x.key.length) (v_len_str Tryz.underlying9 rfl) (by rw [size_strB])) rfl ?_
     refine wl_val (wl_valD (v_lss rfl rfl) (q := false) (decide_eq_false (by omega))) rfl ?_
     refine wl_val (v_move' (by conv => (lhs; whnf))) rfl ?_
     refine wl_on rfl rfl ?_
     refine wl_val (v_fa TF.f57_0 rfl) rfl ?_
     refine wl_on rfl rfl ?_
     refine wl_val (v_load rfl (by first | exact st.rdp 0 rfl (by exact rfl) TF.t9 (by exact (Ac.g0_1 (by assumption))) | exact st.rdp 1 rfl (by exact rfl) TF.t9 (by exact (Ac.g0_1 (by assumption))) | exact st.rdp 2 rfl (by exact rfl) TF.t9 (by exact (Ac.g0_1 (by assumption))) | exact st.rdp 3 rfl (by exact rfl) TF.t9 (by exact (Ac.g0_1 (by assumption))) | exact st.rdp 4 rfl (by exact rfl) TF.t9 (by exact (Ac.g0_1 (by assumption))) | exact st.rdp 5 rfl (by exact rfl) TF.t9 (by exact (Ac.g0_1 (by assumption))) | exact st.rdp 6 rfl (by exact rfl) TF.t9 (by exact (Ac.g0_1 (by assumption))) | exact st.rdp 7 rfl (by exact rfl) TF.t9 (by exact (Ac.g0_1 (by assumption))))) rfl ?_
     refine wl_on rfl rfl ?_
     refine wl_val (v_to (v' := .int .i64 x.key.length) (v_len_str Tryz.underlying9 rfl) (by rw [size_strB])) rfl ?_
     refine wl_on rfl rfl ?_
     refine wl_val (wl_valD (v_gtr rfl rfl) (q := true) (decide_eq_true (by omega))) rfl ?_
     refine wl_val (v_pick rfl) rfl ?_
     refine wl_val (v_move' (by conv => (lhs; whnf))) rfl ?_
     refine wl_off rfl rfl rfl rfl ?_
     refine wl_off rfl rfl rfl rfl ?_
     refine wl_off rfl rfl rfl rfl ?_
     refine wl_off rfl rfl rfl rfl ?_
     refine offU rfl rfl rfl ?_
     refine offU rfl rfl rfl ?_
     refine offU rfl rfl rfl ?_
     refine offU rfl rfl rfl ?_
     refine wl_off rfl rfl rfl rfl ?_
     refine wl_val (v_pick rfl) rfl ?_
     refine wl_val (v_move' (by conv => (lhs; whnf))) rfl ?_
     refine wl_off rfl rfl rfl rfl ?_
     refine wl_off rfl rfl rfl rfl ?_
     refine wl_off rfl rfl rfl rfl ?_
     refine wl_off rfl rfl rfl rfl ?_
     refine wl_val (v_pick rfl) rfl ?_
     refine wl_nil ?_
     refine then_go ?_
     refine wc_true rfl ?_
     refine wc_seq ?_
     refine wc_region ?_
     refine wl_val (v_assign' (by conv => (lhs; whnf))) rfl ?_
     refine wl_nil ?_
     refine then_go ?_
     refine wc_ret (then_ret (block_ret (then_ret (then_ret (block_ret (then_ret ?_))))))
     exact ret1 rfl ⟨(st.keepOnly (l := []) (List.nil_sublist _)).touch, by unfold chkL; rw [if_neg (fun h => by have := ok_at h hiM; rw [hMi] at this; unfold actOk at this; omega)]; rfl⟩
    ·rcases Bool.eq_false_or_eq_true x.set with h3 | h3
     ·refine wc_region ?_
      refine wl_val (v_fa TF.f57_0 rfl) rfl ?_
      refine wl_val (v_load rfl (by first | exact st.rdp 0 rfl (by exact rfl) TF.t9 (by exact (Ac.g0_1 (by assumption))) | exact st.rdp 1 rfl (by exact rfl) TF.t9 (by exact (Ac.g0_1 (by assumption))) | exact st.rdp 2 rfl (by exact rfl) TF.t9 (by exact (Ac.g0_1 (by assumption))) | exact st.rdp 3 rfl (by exact rfl) TF.t9 (by exact (Ac.g0_1 (by assumption))) | exact st.rdp 4 rfl (by exact rfl) TF.t9 (by exact (Ac.g0_1 (by assumption))) | exact st.rdp 5 rfl (by exact rfl) TF.t9 (by exact (Ac.g0_1 (by assumption))) | exact st.rdp 6 rfl (by exact rfl) TF.t9 (by exact (Ac.g0_1 (by assumption))) | exact st.rdp 7 rfl (by exact rfl) TF.t9 (by exact (Ac.g0_1 (by assumption))))) rfl ?_
      refine wl_val (v_to (v' := .int .i64 x.key.length) (v_len_str Tryz.underlying9 rfl) (by rw [size_strB])) rfl ?_
      refine wl_val (wl_valD (v_lss rfl rfl) (q := false) (decide_eq_false (by omega))) rfl ?_
      refine wl_val (v_move' (by conv => (lhs; whnf))) rfl ?_
      refine wl_on rfl rfl ?_
      refine wl_val (v_fa TF.f57_0 rfl) rfl ?_
      refine wl_on rfl rfl ?_
      refine wl_val (v_load rfl (by first | exact st.rdp 0 rfl (by exact rfl) TF.t9 (by exact (Ac.g0_1 (by assumption))) | exact st.rdp 1 rfl (by exact rfl) TF.t9 (by exact (Ac.g0_1 (by assumption))) | exact st.rdp 2 rfl (by exact rfl) TF.t9 (by exact (Ac.g0_1 (by assumption))) | exact st.rdp 3 rfl (by exact rfl) TF.t9 (by exact (Ac.g0_1 (by assumption))) | exact st.rdp 4 rfl (by exact rfl) TF.t9 (by exact (Ac.g0_1 (by assumption))) | exact st.rdp 5 rfl (by exact rfl) TF.t9 (by exact (Ac.g0_1 (by assumption))) | exact st.rdp 6 rfl (by exact rfl) TF.t9 (by exact (Ac.g0_1 (by assumption))) | exact st.rdp 7 rfl (by exact rfl) TF.t9 (by exact (Ac.g0_1 (by assumption))))) rfl ?_
      refine wl_on rfl rfl ?_
      refine wl_val (v_to (v' := .int .i64 x.key.length) (v_len_str Tryz.underlying9 rfl) (by rw [size_strB])) rfl ?_
      refine wl_on rfl rfl ?_
      refine wl_val (wl_valD (v_gtr rfl rfl) (q := false) (decide_eq_false (by omega))) rfl ?_
      refine wl_val (v_pick rfl) rfl ?_
      refine wl_val (v_move' (by conv => (lhs; whnf))) rfl ?_
      refine wl_on rfl rfl ?_
      refine wl_val (v_fa TF.f57_1 rfl) rfl ?_
      refine wl_on rfl rfl ?_
      refine wl_val (v_load rfl (by first | exact st.rdp 0 rfl (by exact rfl) TF.t4 (by exact (Ac.g1_1 (by assumption))) | exact st.rdp 1 rfl (by exact rfl) TF.t4 (by exact (Ac.g1_1 (by assumption))) | exact st.rdp 2 rfl (by exact rfl) TF.t4 (by exact (Ac.g1_1 (by assumption))) | exact st.rdp 3 rfl (by exact rfl) TF.t4 (by exact (Ac.g1_1 (by assumption))) | exact st.rdp 4 rfl (by exact rfl) TF.t4 (by exact (Ac.g1_1 (by assumption))) | exact st.rdp 5 rfl (by exact rfl) TF.t4 (by exact (Ac.g1_1 (by assumption))) | exact st.rdp 6 rfl (by exact rfl) TF.t4 (by exact (Ac.g1_1 (by assumption))) | exact st.rdp 7 rfl (by exact rfl) TF.t4 (by exact (Ac.g1_1 (by assumption))))) rfl ?_
      refine wl_on rfl rfl ?_
      refine wl_val (wl_valD (v_not rfl) (q := false) (by rw [h3]; rfl)) rfl ?_
      refine wl_on rfl rfl ?_
      refine wl_val (v_move' (by conv => (lhs; whnf))) rfl ?_
      refine wl_off rfl rfl rfl rfl ?_
      refine wl_off rfl rfl rfl rfl ?_
      refine wl_off rfl rfl rfl rfl ?_
      refine wl_off rfl rfl rfl rfl ?_
      refine wl_on rfl rfl ?_
      refine wl_val (v_pick rfl) rfl ?_
      refine wl_val (v_pick rfl) rfl ?_
      refine wl_val (v_move' (by conv => (lhs; whnf))) rfl ?_
      refine wl_on rfl rfl ?_
      refine wl_val (v_fa TF.f57_2 rfl) rfl ?_
      refine wl_on rfl rfl ?_
      refine wl_val (v_load rfl (st.reads (v := .slice da x.data.length dc) 0 rfl TF.t23 rfl)) rfl ?_
      refine wl_on rfl rfl ?_
      refine wl_val (v_len_s Tryz.underlying23 rfl) rfl ?_
      refine wl_on rfl rfl ?_
      refine wl_val (v_gtr rfl rfl) rfl ?_
      refine wl_val (v_pick rfl) rfl ?_
      refine wl_nil ?_
      refine then_go ?_
      refine wc_cond rfl (fun h44 => ?_) (fun h44 => ?_)
      ·refine wc_seq ?_
       refine wc_region ?_
       refine wl_val (v_assign' (by conv => (lhs; whnf))) rfl ?_
       refine wl_nil ?_
       refine then_go ?_
       refine wc_ret (then_ret (block_ret (then_ret (then_ret (block_ret (then_ret ?_))))))
       exact ret1 rfl ⟨(st.keepOnly (l := []) (List.nil_sublist _)).touch, by have := of_decide_eq_true h44; unfold chkL; rw [if_neg (fun h => by have := ok_at h hiM; rw [hMi] at this; unfold actOk at this; omega)]; rfl⟩
      ·refine wc_skip ?_
       refine then_go ?_
       refine wc_seq ?_
       by_cases hi0 : 0 < i
       ·have hip : i - 1 < L.length := by omega
        obtain ⟨lb', lo', da', dc', hla', hd', _, hrK, _⟩ := hL.at hip
        cases hla'
        have hMp : M[i - 1] = L[i - 1].1 := by simp [hM]
        refine wc_draw TF.mixed ?_
        have st := st.pure (touch_drew _)
        refine fl_val 0 rfl (fun _ => (v_move' (by conv => (lhs; whnf)))) rfl (by kernel_rfl) ?_
        refine fl_val 1 rfl (fun _ => (wl_valD (v_gtr rfl rfl) (q := true) (decide_eq_true (by omega)))) rfl (by kernel_rfl) ?_
        refine fl_val 2 rfl (fun _ => (v_move' (by conv => (lhs; whnf)))) rfl (by kernel_rfl) ?_
        refine fl_on 3 rfl rfl rfl rfl (fun _ => (v_fa TF.f57_0 rfl)) rfl (by kernel_rfl) ?_
        refine fl_ond 4 rfl rfl rfl rfl (v_load rfl (by first | exact st.rdp 0 rfl (by exact rfl) TF.t9 (by exact (Ac.g0_1 (by assumption))) | exact st.rdp 1 rfl (by exact rfl) TF.t9 (by exact (Ac.g0_1 (by assumption))) | exact st.rdp 2 rfl (by exact rfl) TF.t9 (by exact (Ac.g0_1 (by assumption))) | exact st.rdp 3 rfl (by exact rfl) TF.t9 (by exact (Ac.g0_1 (by assumption))) | exact st.rdp 4 rfl (by exact rfl) TF.t9 (by exact (Ac.g0_1 (by assumption))) | exact st.rdp 5 rfl (by exact rfl) TF.t9 (by exact (Ac.g0_1 (by assumption))) | exact st.rdp 6 rfl (by exact rfl) TF.t9 (by exact (Ac.g0_1 (by assumption))) | exact st.rdp 7 rfl (by exact rfl) TF.t9 (by exact (Ac.g0_1 (by assumption))))) rfl (by kernel_rfl) ?_
        refine fl_on 5 rfl rfl rfl rfl (fun _ => (v_move' (by conv => (lhs; whnf)))) rfl (by kernel_rfl) ?_
        refine fl_on 6 rfl rfl rfl rfl (fun _ => (v_move' (by conv => (lhs; whnf)))) rfl (by kernel_rfl) ?_
        refine fl_on 7 rfl rfl rfl rfl (fun _ => (v_sub' (c := ((i - 1 : Nat) : Int)) rfl rfl (by omega) (by omega) (by omega))) rfl (by kernel_rfl) ?_
        refine fl_on 8 rfl rfl rfl rfl (fun _ => (v_ias ((i - 1)) Tryz.underlying22 TF.t57 rfl rfl (by first | rfl | omega) (by first | omega | (dsimp only at *; omega)))) rfl (by kernel_rfl) ?_
        refine fl_on 9 rfl rfl rfl rfl (fun _ => (v_fa TF.f57_0 rfl)) rfl (by kernel_rfl) ?_
        refine fl_ond 10 rfl rfl rfl rfl (v_load rfl (hrK st.im)) rfl (by kernel_rfl) ?_
        refine fl_on 11 rfl rfl rfl rfl (fun _ => (v_leStr rfl rfl)) rfl (by kernel_rfl) ?_
        refine fl_val 12 rfl (fun _ => (v_pick rfl)) rfl (by kernel_rfl) ?_
        refine fl_nil (by kernel_rfl) ⟨obl_on rfl rfl rfl rfl rfl (v_load rfl (hrK st.im)), obl_on rfl rfl rfl rfl rfl (v_load rfl (by first | exact st.rdp 0 rfl (by exact rfl) TF.t9 (by exact (Ac.g0_1 (by assumption))) | exact st.rdp 1 rfl (by exact rfl) TF.t9 (by exact (Ac.g0_1 (by assumption))) | exact st.rdp 2 rfl (by exact rfl) TF.t9 (by exact (Ac.g0_1 (by assumption))) | exact st.rdp 3 rfl (by exact rfl) TF.t9 (by exact (Ac.g0_1 (by assumption))) | exact st.rdp 4 rfl (by exact rfl) TF.t9 (by exact (Ac.g0_1 (by assumption))) | exact st.rdp 5 rfl (by exact rfl) TF.t9 (by exact (Ac.g0_1 (by assumption))) | exact st.rdp 6 rfl (by exact rfl) TF.t9 (by exact (Ac.g0_1 (by assumption))) | exact st.rdp 7 rfl (by exact rfl) TF.t9 (by exact (Ac.g0_1 (by assumption))))), trivial⟩ ?_
        refine then_go ?_
        refine wc_cond rfl (fun h57 => ?_) (fun h57 => ?_)
        ·refine wc_seq ?_
         refine wc_region ?_
         refine wl_val (v_assign' (by conv => (lhs; whnf))) rfl ?_
         refine wl_nil ?_
         refine then_go ?_
         refine wc_ret (block_ret (then_ret (then_ret (block_ret (then_ret ?_)))))
         exact ret1 rfl ⟨(st.keepOnly (l := []) (List.nil_sublist _)).touch, by unfold chkL; rw [if_neg (fun h => of_decide_eq_true h57 (by have := ok_lt h hiM hi0; rw [hMi, hMp] at this; exact this))]; rfl⟩
        ·refine wc_skip ?_
         refine block_go (then_go ?_)
         refine wc_region ?_
         refine wl_val (v_move' (by conv => (lhs; whnf))) rfl ?_
         refine wl_val (v_add' (c := ((i + 1 : Nat) : Int)) rfl rfl (by omega) (by omega) (by omega)) rfl ?_
         refine wl_val (v_assign' (by conv => (lhs; whnf))) rfl ?_
         refine wl_nil ?_
         refine then_go ?_
         exact ⟨q - 1, by simp; omega, i + 1, by omega, rfl, rfl, good_succ hg hiM (by rw [hMi]; have := of_decide_eq_false h44; unfold actOk; rw [h3]; refine ⟨by omega, by omega, .inl rfl, by omega⟩) (fun _ => by have := of_decide_eq_false h57; rw [hMi, hMp]; exact Decidable.not_not.1 this), st.drop 0⟩
       ·refine wc_draw TF.mixed ?_
        have st := st.pure (touch_drew _)
        refine fl_val 0 rfl (fun _ => (v_move' (by conv => (lhs; whnf)))) rfl (by kernel_rfl) ?_
        refine fl_val 1 rfl (fun _ => (wl_valD (v_gtr rfl rfl) (q := false) (decide_eq_false (by omega)))) rfl (by kernel_rfl) ?_
        refine fl_val 2 rfl (fun _ => (v_move' (by conv => (lhs; whnf)))) rfl (by kernel_rfl) ?_
        refine fl_off 3 rfl rfl rfl rfl rfl rfl (by kernel_rfl) ?_
        refine fl_offd 4 rfl rfl rfl rfl rfl rfl (by kernel_rfl) ?_
        refine fl_off 5 rfl rfl rfl rfl rfl rfl (by kernel_rfl) ?_
        refine fl_off 6 rfl rfl rfl rfl rfl rfl (by kernel_rfl) ?_
        refine fl_off 7 rfl rfl rfl rfl rfl rfl (by kernel_rfl) ?_
        refine fl_off 8 rfl rfl rfl rfl rfl rfl (by kernel_rfl) ?_
        refine fl_off 9 rfl rfl rfl rfl rfl rfl (by kernel_rfl) ?_
        refine fl_offd 10 rfl rfl rfl rfl rfl rfl (by kernel_rfl) ?_
        refine fl_off 11 rfl rfl rfl rfl rfl rfl (by kernel_rfl) ?_
        refine fl_val 12 rfl (fun _ => (v_pick rfl)) rfl (by kernel_rfl) ?_
        refine fl_nil (by kernel_rfl) ⟨obl_off rfl rfl rfl rfl rfl rfl, obl_off rfl rfl rfl rfl rfl rfl, trivial⟩ ?_
        refine then_go ?_
        refine wc_false rfl ?_
        refine wc_skip ?_
        refine block_go (then_go ?_)
        refine wc_region ?_
        refine wl_val (v_move' (by conv => (lhs; whnf))) rfl ?_
        refine wl_val (v_add' (c := ((i + 1 : Nat) : Int)) rfl rfl (by omega) (by omega) (by omega)) rfl ?_
        refine wl_val (v_assign' (by conv => (lhs; whnf))) rfl ?_
        refine wl_nil ?_
        refine then_go ?_
        exact ⟨q - 1, by simp; omega, i + 1, by omega, rfl, rfl, good_succ hg hiM (by rw [hMi]; have := of_decide_eq_false h44; unfold actOk; rw [h3]; refine ⟨by omega, by omega, .inl rfl, by omega⟩) (fun h => (hi0 h).elim), st.drop 0⟩
     ·by_cases h4 : 0 < x.data.length
      ·refine wc_region ?_
       refine wl_val (v_fa TF.f57_0 rfl) rfl ?_
       refine wl_val (v_load rfl (by first | exact st.rdp 0 rfl (by exact rfl) TF.t9 (by exact (Ac.g0_1 (by assumption))) | exact st.rdp 1 rfl (by exact rfl) TF.t9 (by exact (Ac.g0_1 (by assumption))) | exact st.rdp 2 rfl (by exact rfl) TF.t9 (by exact (Ac.g0_1 (by assumption))) | exact st.rdp 3 rfl (by exact rfl) TF.t9 (by exact (Ac.g0_1 (by assumption))) | exact st.rdp 4 rfl (by exact rfl) TF.t9 (by exact (Ac.g0_1 (by assumption))) | exact st.rdp 5 rfl (by exact rfl) TF.t9 (by exact (Ac.g0_1 (by assumption))) | exact st.rdp 6 rfl (by exact rfl) TF.t9 (by exact (Ac.g0_1 (by assumption))) | exact st.rdp 7 rfl (by exact rfl) TF.t9 (by exact (Ac.g0_1 (by assumption))))) rfl ?_
       refine wl_val (v_to (v' := .int .i64 x.key.length) (v_len_str Tryz.underlying9 rfl) (by rw [size_strB])) rfl ?_
       refine wl_val (wl_valD (v_lss rfl rfl) (q := false) (decide_eq_false (by omega))) rfl ?_
       refine wl_val (v_move' (by conv => (lhs; whnf))) rfl ?_
       refine wl_on rfl rfl ?_
       refine wl_val (v_fa TF.f57_0 rfl) rfl ?_
       refine wl_on rfl rfl ?_
       refine wl_val (v_load rfl (by first | exact st.rdp 0 rfl (by exact rfl) TF.t9 (by exact (Ac.g0_1 (by assumption))) | exact st.rdp 1 rfl (by exact rfl) TF.t9 (by exact (Ac.g0_1 (by assumption))) | exact st.rdp 2 rfl (by exact rfl) TF.t9 (by exact (Ac.g0_1 (by assumption))) | exact st.rdp 3 rfl (by exact rfl) TF.t9 (by exact (Ac.g0_1 (by assumption))) | exact st.rdp 4 rfl (by exact rfl) TF.t9 (by exact (Ac.g0_1 (by assumption))) | exact st.rdp 5 rfl (by exact rfl) TF.t9 (by exact (Ac.g0_1 (by assumption))) | exact st.rdp 6 rfl (by exact rfl) TF.t9 (by exact (Ac.g0_1 (by assumption))) | exact st.rdp 7 rfl (by exact rfl) TF.t9 (by exact (Ac.g0_1 (by assumption))))) rfl ?_
       refine wl_on rfl rfl ?_
       refine wl_val (v_to (v' := .int .i64 x.key.length) (v_len_str Tryz.underlying9 rfl) (by rw [size_strB])) rfl ?_
       refine wl_on rfl rfl ?_
       refine wl_val (wl_valD (v_gtr rfl rfl) (q := false) (decide_eq_false (by omega))) rfl ?_
       refine wl_val (v_pick rfl) rfl ?_
       refine wl_val (v_move' (by conv => (lhs; whnf))) rfl ?_
       refine wl_on rfl rfl ?_
       refine wl_val (v_fa TF.f57_1 rfl) rfl ?_
       refine wl_on rfl rfl ?_
       refine wl_val (v_load rfl (by first | exact st.rdp 0 rfl (by exact rfl) TF.t4 (by exact (Ac.g1_1 (by assumption))) | exact st.rdp 1 rfl (by exact rfl) TF.t4 (by exact (Ac.g1_1 (by assumption))) | exact st.rdp 2 rfl (by exact rfl) TF.t4 (by exact (Ac.g1_1 (by assumption))) | exact st.rdp 3 rfl (by exact rfl) TF.t4 (by exact (Ac.g1_1 (by assumption))) | exact st.rdp 4 rfl (by exact rfl) TF.t4 (by exact (Ac.g1_1 (by assumption))) | exact st.rdp 5 rfl (by exact rfl) TF.t4 (by exact (Ac.g1_1 (by assumption))) | exact st.rdp 6 rfl (by exact rfl) TF.t4 (by exact (Ac.g1_1 (by assumption))) | exact st.rdp 7 rfl (by exact rfl) TF.t4 (by exact (Ac.g1_1 (by assumption))))) rfl ?_
       refine wl_on rfl rfl ?_
       refine wl_val (wl_valD (v_not rfl) (q := true) (by rw [h3]; rfl)) rfl ?_
       refine wl_on rfl rfl ?_
       refine wl_val (v_move' (by conv => (lhs; whnf))) rfl ?_
       refine wl_on rfl rfl ?_
       refine wl_val (v_fa TF.f57_2 rfl) rfl ?_
       refine wl_on rfl rfl ?_
       refine wl_val (v_load rfl (st.reads (v := .slice da x.data.length dc) 0 rfl TF.t23 rfl)) rfl ?_
       refine wl_on rfl rfl ?_
       refine wl_val (v_len_s Tryz.underlying23 rfl) rfl ?_
       refine wl_on rfl rfl ?_
       refine wl_val (wl_valD (v_gtr rfl rfl) (q := true) (decide_eq_true (by omega))) rfl ?_
       refine wl_on rfl rfl ?_
       refine wl_val (v_pick rfl) rfl ?_
       refine wl_val (v_pick rfl) rfl ?_
       refine wl_val (v_move' (by conv => (lhs; whnf))) rfl ?_
       refine wl_off rfl rfl rfl rfl ?_
       refine wl_off rfl rfl rfl rfl ?_
       refine wl_off rfl rfl rfl rfl ?_
       refine wl_off rfl rfl rfl rfl ?_
       refine wl_val (v_pick rfl) rfl ?_
       refine wl_nil ?_
       refine then_go ?_
       refine wc_true rfl ?_
       refine wc_seq ?_
       refine wc_region ?_
       refine wl_val (v_assign' (by conv => (lhs; whnf))) rfl ?_
       refine wl_nil ?_
       refine then_go ?_
       refine wc_ret (then_ret (block_ret (then_ret (then_ret (block_ret (then_ret ?_))))))
       exact ret1 rfl ⟨(st.keepOnly (l := []) (List.nil_sublist _)).touch, by unfold chkL; rw [if_neg (fun h => by have := ok_at h hiM; rw [hMi] at this; have h5 := this.2.2.1; rw [h3] at h5; rcases h5 with h5 | h5 <;> first | cases h5 | omega)]; rfl⟩
      ·refine wc_region ?_
       refine wl_val (v_fa TF.f57_0 rfl) rfl ?_
       refine wl_val (v_load rfl (by first | exact st.rdp 0 rfl (by exact rfl) TF.t9 (by exact (Ac.g0_1 (by assumption))) | exact st.rdp 1 rfl (by exact rfl) TF.t9 (by exact (Ac.g0_1 (by assumption))) | exact st.rdp 2 rfl (by exact rfl) TF.t9 (by exact (Ac.g0_1 (by assumption))) | exact st.rdp 3 rfl (by exact rfl) TF.t9 (by exact (Ac.g0_1 (by assumption))) | exact st.rdp 4 rfl (by exact rfl) TF.t9 (by exact (Ac.g0_1 (by assumption))) | exact st.rdp 5 rfl (by exact rfl) TF.t9 (by exact (Ac.g0_1 (by assumption))) | exact st.rdp 6 rfl (by exact rfl) TF.t9 (by exact (Ac.g0_1 (by assumption))) | exact st.rdp 7 rfl (by exact rfl) TF.t9 (by exact (Ac.g0_1 (by assumption))))) rfl ?_
       refine wl_val (v_to (v' := .int .i64 x.key.length) (v_len_str Tryz.underlying9 rfl) (by rw [size_strB])) rfl ?_
       refine wl_val (wl_valD (v_lss rfl rfl) (q := false) (decide_eq_false (by omega))) rfl ?_
       refine wl_val (v_move' (by conv => (lhs; whnf))) rfl ?_
       refine wl_on rfl rfl ?_
       refine wl_val (v_fa TF.f57_0 rfl) rfl ?_
       refine wl_on rfl rfl ?_
       refine wl_val (v_load rfl (by first | exact st.rdp 0 rfl (by exact rfl) TF.t9 (by exact (Ac.g0_1 (by assumption))) | exact st.rdp 1 rfl (by exact rfl) TF.t9 (by exact (Ac.g0_1 (by assumption))) | exact st.rdp 2 rfl (by exact rfl) TF.t9 (by exact (Ac.g0_1 (by assumption))) | exact st.rdp 3 rfl (by exact rfl) TF.t9 (by exact (Ac.g0_1 (by assumption))) | exact st.rdp 4 rfl (by exact rfl) TF.t9 (by exact (Ac.g0_1 (by assumption))) | exact st.rdp 5 rfl (by exact rfl) TF.t9 (by exact (Ac.g0_1 (by assumption))) | exact st.rdp 6 rfl (by exact rfl) TF.t9 (by exact (Ac.g0_1 (by assumption))) | exact st.rdp 7 rfl (by exact rfl) TF.t9 (by exact (Ac.g0_1 (by assumption))))) rfl ?_
       refine wl_on rfl rfl ?_
       refine wl_val (v_to (v' := .int .i64 x.key.length) (v_len_str Tryz.underlying9 rfl) (by rw [size_strB])) rfl ?_
       refine wl_on rfl rfl ?_
       refine wl_val (wl_valD (v_gtr rfl rfl) (q := false) (decide_eq_false (by omega))) rfl ?_
       refine wl_val (v_pick rfl) rfl ?_
       refine wl_val (v_move' (by conv => (lhs; whnf))) rfl ?_
       refine wl_on rfl rfl ?_
       refine wl_val (v_fa TF.f57_1 rfl) rfl ?_
       refine wl_on rfl rfl ?_
       refine wl_val (v_load rfl (by first | exact st.rdp 0 rfl (by exact rfl) TF.t4 (by exact (Ac.g1_1 (by assumption))) | exact st.rdp 1 rfl (by exact rfl) TF.t4 (by exact (Ac.g1_1 (by assumption))) | exact st.rdp 2 rfl (by exact rfl) TF.t4 (by exact (Ac.g1_1 (by assumption))) | exact st.rdp 3 rfl (by exact rfl) TF.t4 (by exact (Ac.g1_1 (by assumption))) | exact st.rdp 4 rfl (by exact rfl) TF.t4 (by exact (Ac.g1_1 (by assumption))) | exact st.rdp 5 rfl (by exact rfl) TF.t4 (by exact (Ac.g1_1 (by assumption))) | exact st.rdp 6 rfl (by exact rfl) TF.t4 (by exact (Ac.g1_1 (by assumption))) | exact st.rdp 7 rfl (by exact rfl) TF.t4 (by exact (Ac.g1_1 (by assumption))))) rfl ?_
       refine wl_on rfl rfl ?_
       refine wl_val (wl_valD (v_not rfl) (q := true) (by rw [h3]; rfl)) rfl ?_
       refine wl_on rfl rfl ?_
       refine wl_val (v_move' (by conv => (lhs; whnf))) rfl ?_
       refine wl_on rfl rfl ?_
       refine wl_val (v_fa TF.f57_2 rfl) rfl ?_
       refine wl_on rfl rfl ?_
       refine wl_val (v_load rfl (st.reads (v := .slice da x.data.length dc) 0 rfl TF.t23 rfl)) rfl ?_
       refine wl_on rfl rfl ?_
       refine wl_val (v_len_s Tryz.underlying23 rfl) rfl ?_
       refine wl_on rfl rfl ?_
       refine wl_val (wl_valD (v_gtr rfl rfl) (q := false) (decide_eq_false (by omega))) rfl ?_
       refine wl_on rfl rfl ?_
       refine wl_val (v_pick rfl) rfl ?_
       refine wl_val (v_pick rfl) rfl ?_
       refine wl_val (v_move' (by conv => (lhs; whnf))) rfl ?_
       refine wl_on rfl rfl ?_
       refine wl_val (v_fa TF.f57_2 rfl) rfl ?_
       refine wl_on rfl rfl ?_
       refine wl_val (v_load rfl (st.reads (v := .slice da x.data.length dc) 0 rfl TF.t23 rfl)) rfl ?_
       refine wl_on rfl rfl ?_
       refine wl_val (v_len_s Tryz.underlying23 rfl) rfl ?_
       refine wl_on rfl rfl ?_
       refine wl_val (v_gtr rfl rfl) rfl ?_
       refine wl_val (v_pick rfl) rfl ?_
       refine wl_nil ?_
       refine then_go ?_
       refine wc_cond rfl (fun h44 => ?_) (fun h44 => ?_)
       ·refine wc_seq ?_
        refine wc_region ?_
        refine wl_val (v_assign' (by conv => (lhs; whnf))) rfl ?_
        refine wl_nil ?_
        refine then_go ?_
        refine wc_ret (then_ret (block_ret (then_ret (then_ret (block_ret (then_ret ?_))))))
        exact ret1 rfl ⟨(st.keepOnly (l := []) (List.nil_sublist _)).touch, by have := of_decide_eq_true h44; unfold chkL; rw [if_neg (fun h => by have := ok_at h hiM; rw [hMi] at this; unfold actOk at this; omega)]; rfl⟩
       ·refine wc_skip ?_
        refine then_go ?_
        refine wc_seq ?_
        by_cases hi0 : 0 < i
        ·have hip : i - 1 < L.length := by omega
         obtain ⟨lb', lo', da', dc', hla', hd', _, hrK, _⟩ := hL.at hip
         cases hla'
         have hMp : M[i - 1] = L[i - 1].1 := by simp [hM]
         refine wc_draw TF.mixed ?_
         have st := st.pure (touch_drew _)
         refine fl_val 0 rfl (fun _ => (v_move' (by conv => (lhs; whnf)))) rfl (by kernel_rfl) ?_
         refine fl_val 1 rfl (fun _ => (wl_valD (v_gtr rfl rfl) (q := true) (decide_eq_true (by omega)))) rfl (by kernel_rfl) ?_
         refine fl_val 2 rfl (fun _ => (v_move' (by conv => (lhs; whnf)))) rfl (by kernel_rfl) ?_
         refine fl_on 3 rfl rfl rfl rfl (fun _ => (v_fa TF.f57_0 rfl)) rfl (by kernel_rfl) ?_
         refine fl_ond 4 rfl rfl rfl rfl (v_load rfl (by first | exact st.rdp 0 rfl (by exact rfl) TF.t9 (by exact (Ac.g0_1 (by assumption))) | exact st.rdp 1 rfl (by exact rfl) TF.t9 (by exact (Ac.g0_1 (by assumption))) | exact st.rdp 2 rfl (by exact rfl) TF.t9 (by exact (Ac.g0_1 (by assumption))) | exact st.rdp 3 rfl (by exact rfl) TF.t9 (by exact (Ac.g0_1 (by assumption))) | exact st.rdp 4 rfl (by exact rfl) TF.t9 (by exact (Ac.g0_1 (by assumption))) | exact st.rdp 5 rfl (by exact rfl) TF.t9 (by exact (Ac.g0_1 (by assumption))) | exact st.rdp 6 rfl (by exact rfl) TF.t9 (by exact (Ac.g0_1 (by assumption))) | exact st.rdp 7 rfl (by exact rfl) TF.t9 (by exact (Ac.g0_1 (by assumption))))) rfl (by kernel_rfl) ?_
         refine fl_on 5 rfl rfl rfl rfl (fun _ => (v_move' (by conv => (lhs; whnf)))) rfl (by kernel_rfl) ?_
         refine fl_on 6 rfl rfl rfl rfl (fun _ => (v_move' (by conv => (lhs; whnf)))) rfl (by kernel_rfl) ?_
         refine fl_on 7 rfl rfl rfl rfl (fun _ => (v_sub' (c := ((i - 1 : Nat) : Int)) rfl rfl (by omega) (by omega) (by omega))) rfl (by kernel_rfl) ?_
         refine fl_on 8 rfl rfl rfl rfl (fun _ => (v_ias ((i - 1)) Tryz.underlying22 TF.t57 rfl rfl (by first | rfl | omega) (by first | omega | (dsimp only at *; omega)))) rfl (by kernel_rfl) ?_
         refine fl_on 9 rfl rfl rfl rfl (fun _ => (v_fa TF.f57_0 rfl)) rfl (by kernel_rfl) ?_
         refine fl_ond 10 rfl rfl rfl rfl (v_load rfl (hrK st.im)) rfl (by kernel_rfl) ?_
         refine fl_on 11 rfl rfl rfl rfl (fun _ => (v_leStr rfl rfl)) rfl (by kernel_rfl) ?_
         refine fl_val 12 rfl (fun _ => (v_pick rfl)) rfl (by kernel_rfl) ?_
         refine fl_nil (by kernel_rfl) ⟨obl_on rfl rfl rfl rfl rfl (v_load rfl (hrK st.im)), obl_on rfl rfl rfl rfl rfl (v_load rfl (by first | exact st.rdp 0 rfl (by exact rfl) TF.t9 (by exact (Ac.g0_1 (by assumption))) | exact st.rdp 1 rfl (by exact rfl) TF.t9 (by exact (Ac.g0_1 (by assumption))) | exact st.rdp 2 rfl (by exact rfl) TF.t9 (by exact (Ac.g0_1 (by assumption))) | exact st.rdp 3 rfl (by exact rfl) TF.t9 (by exact (Ac.g0_1 (by assumption))) | exact st.rdp 4 rfl (by exact rfl) TF.t9 (by exact (Ac.g0_1 (by assumption))) | exact st.rdp 5 rfl (by exact rfl) TF.t9 (by exact (Ac.g0_1 (by assumption))) | exact st.rdp 6 rfl (by exact rfl) TF.t9 (by exact (Ac.g0_1 (by assumption))) | exact st.rdp 7 rfl (by exact rfl) TF.t9 (by exact (Ac.g0_1 (by assumption))))), trivial⟩ ?_
         refine then_go ?_
         refine wc_cond rfl (fun h57 => ?_) (fun h57 => ?_)
         ·refine wc_seq ?_
          refine wc_region ?_
          refine wl_val (v_assign' (by conv => (lhs; whnf))) rfl ?_
          refine wl_nil ?_
          refine then_go ?_
          refine wc_ret (block_ret (then_ret (then_ret (block_ret (then_ret ?_)))))
          exact ret1 rfl ⟨(st.keepOnly (l := []) (List.nil_sublist _)).touch, by unfold chkL; rw [if_neg (fun h => of_decide_eq_true h57 (by have := ok_lt h hiM hi0; rw [hMi, hMp] at this; exact this))]; rfl⟩
         ·refine wc_skip ?_
          refine block_go (then_go ?_)
          refine wc_region ?_
          refine wl_val (v_move' (by conv => (lhs; whnf))) rfl ?_
          refine wl_val (v_add' (c := ((i + 1 : Nat) : Int)) rfl rfl (by omega) (by omega) (by omega)) rfl ?_
          refine wl_val (v_assign' (by conv => (lhs; whnf))) rfl ?_
          refine wl_nil ?_
          refine then_go ?_
          exact ⟨q - 1, by simp; omega, i + 1, by omega, rfl, rfl, good_succ hg hiM (by rw [hMi]; have := of_decide_eq_false h44; unfold actOk; refine ⟨by omega, by omega, .inr (by omega), by omega⟩) (fun _ => by have := of_decide_eq_false h57; rw [hMi, hMp]; exact Decidable.not_not.1 this), st.drop 0⟩
        ·refine wc_draw TF.mixed ?_
         have st := st.pure (touch_drew _)
         refine fl_val 0 rfl (fun _ => (v_move' (by conv => (lhs; whnf)))) rfl (by kernel_rfl) ?_
         refine fl_val 1 rfl (fun _ => (wl_valD (v_gtr rfl rfl) (q := false) (decide_eq_false (by omega)))) rfl (by kernel_rfl) ?_
         refine fl_val 2 rfl (fun _ => (v_move' (by conv => (lhs; whnf)))) rfl (by kernel_rfl) ?_
         refine fl_off 3 rfl rfl rfl rfl rfl rfl (by kernel_rfl) ?_
         refine fl_offd 4 rfl rfl rfl rfl rfl rfl (by kernel_rfl) ?_
         refine fl_off 5 rfl rfl rfl rfl rfl rfl (by kernel_rfl) ?_
         refine fl_off 6 rfl rfl rfl rfl rfl rfl (by kernel_rfl) ?_
         refine fl_off 7 rfl rfl rfl rfl rfl rfl (by kernel_rfl) ?_
         refine fl_off 8 rfl rfl rfl rfl rfl rfl (by kernel_rfl) ?_
         refine fl_off 9 rfl rfl rfl rfl rfl rfl (by kernel_rfl) ?_
         refine fl_offd 10 rfl rfl rfl rfl rfl rfl (by kernel_rfl) ?_
         refine fl_off 11 rfl rfl rfl rfl rfl rfl (by kernel_rfl) ?_
         refine fl_val 12 rfl (fun _ => (v_pick rfl)) rfl (by kernel_rfl) ?_
         refine fl_nil (by kernel_rfl) ⟨obl_off rfl rfl rfl rfl rfl rfl, obl_off rfl rfl rfl rfl rfl rfl, trivial⟩ ?_
         refine then_go ?_
         refine wc_false rfl ?_
         refine wc_skip ?_
         refine block_go (then_go ?_)
         refine wc_region ?_
         refine wl_val (v_move' (by conv => (lhs; whnf))) rfl ?_
         refine wl_val (v_add' (c := ((i + 1 : Nat) : Int)) rfl rfl (by omega) (by omega) (by omega)) rfl ?_
         refine wl_val (v_assign' (by conv => (lhs; whnf))) rfl ?_
         refine wl_nil ?_
         refine then_go ?_
         exact ⟨q - 1, by simp; omega, i + 1, by omega, rfl, rfl, good_succ hg hiM (by rw [hMi]; have := of_decide_eq_false h44; unfold actOk; refine ⟨by omega, by omega, .inr (by omega), by omega⟩) (fun h => (hi0 h).elim), st.drop 0⟩
  ·refine wc_exit (then_exit (then_exit (block_hit ?_)))
   refine then_go ?_
   refine wc_seq ?_
   refine wc_region ?_
   refine wl_val (v_assign' (by conv => (lhs; whnf))) rfl ?_
   refine wl_nil ?_
   refine then_go ?_
   refine wc_ret ?_
   have hi : i = M.length := by omega
   subst hi
   have hall := good_all hg
   exact ret1 rfl ⟨st.touch, by have := of_decide_eq_false h7; unfold chkL; rw [if_pos (hall.2 (by omega))]; rfl⟩
end
end Go.Proofs.YtladpaehbolghaaGreat

namespace Go.Proofs.YtladpaehbolghaaGreat
open Go Go.RowKit K SH DK JR
theorem halfB0 {b : By} {n : Nat} : halfB b n 0 = (b.drop 0).take (n - 0) := by simp [halfB]
theorem halfB1 {b : By} {n : Nat} : halfB b n 1 = (b.drop n).take (2 * n - n) := by unfold halfB; rw [Nat.one_mul]; congr 1; omega
section
variable {m : Mem} {w : World}
theorem c_pick {v : Value} {b : By} {n : Nat} (him : Im m w) (hb : SlM m v 1 b.length (bs b)) (hl : b.length ≤ 500000000) (hn : 64 ≤ n) (hn2 : 2 * n ≤ b.length) : Ret Tryz.prog 83 #[v, .int .i64 n] w fun v' w' => Tch w w' [] [] ∧ v' = .tuple #[.int .i64 ((pickF b n).1 : Nat), u64 (pickF b n).2] := by
 have st := St.start him
 obtain ⟨ba, bc, rfl, hbc⟩ := hb.opn
 have h0 := hb.partB 0 n (by omega) (by omega)
 have h1 := hb.partB n (2 * n) (by omega) (by omega)
 have hl0 : ((b.drop 0).take (n - 0)).length = n := by rw [List.length_take, List.length_drop]; omega
 have hl1 : ((b.drop n).take (2 * n - n)).length = n := by rw [List.length_take, List.length_drop]; omega
 refine ret_of Tryz.call83 Tryz.func83 rfl Tryz.ntmps83 Tryz.results83 rfl ?_
 refine wc_seq ?_
 refine wc_region ?_
 refine wl_val (v_assign' (by conv => (lhs; whnf))) rfl ?_
 refine wl_val (v_assign' (by conv => (lhs; whnf))) rfl ?_
 refine wl_nil ?_
 refine then_go ?_
 refine wc_seq ?_
 refine wc_draw TF.mixed ?_
 have st := st.pure (touch_drew _)
 refine fl_val 0 rfl (fun _ => (v_move' (by conv => (lhs; whnf)))) rfl (by kernel_rfl) ?_
 refine fl_val 1 rfl (fun _ => (v_move' (by conv => (lhs; whnf)))) rfl (by kernel_rfl) ?_
 refine fl_val 2 rfl (fun _ => (v_sls 0 n Tryz.underlying23 TF.t5 rfl rfl ⟨_, _, rfl, rfl⟩ (by omega) (by omega))) rfl (by kernel_rfl) ?_
 refine fl_val 4 rfl (fun _ => (v_move' (by conv => (lhs; whnf)))) rfl (by kernel_rfl) ?_
 refine fl_val 5 rfl (fun _ => (v_move' (by conv => (lhs; whnf)))) rfl (by kernel_rfl) ?_
 refine fl_val 6 rfl (fun _ => (v_move' (by conv => (lhs; whnf)))) rfl (by kernel_rfl) ?_
 refine fl_val 7 rfl (fun _ => (v_mul' (c := ((2 * n : Nat) : Int)) rfl rfl (by omega) (by omega) (by omega))) rfl (by kernel_rfl) ?_
 refine fl_val 8 rfl (fun _ => (v_sls n (2 * n) Tryz.underlying23 TF.t5 rfl ⟨_, _, rfl, rfl⟩ ⟨_, _, rfl, rfl⟩ (by omega) (by omega))) rfl (by kernel_rfl) ?_
 refine fl_eff1 3 [8, 7, 6, 5, 4, 1, 0] [] (by kernel_rfl) trivial rfl ?_
 refine wl_call rfl (c_begun st.im h0 (by omega) (by omega)) rfl ?_
 rintro v11 w ⟨t11, rfl⟩
 have st := st.pure t11
 refine wl_nil ⟨rfl, ?_⟩
 refine fl_eff1 9 [7, 6, 5, 4, 1, 0] [] (by kernel_rfl) trivial rfl ?_
 refine wl_call rfl (c_begun st.im h1 (by omega) (by omega)) rfl ?_
 rintro v17 w ⟨t17, rfl⟩
 have st := st.pure t17
 refine wl_nil ⟨rfl, ?_⟩
 refine fl_eff1 10 [7, 6, 5, 4] [] (by kernel_rfl) trivial rfl ?_
 refine wl_val (v_assign' (by conv => (lhs; whnf))) rfl ?_
 refine wl_nil ⟨rfl, ?_⟩
 refine fl_eff1 11 [] [] (by kernel_rfl) trivial rfl ?_
 refine wl_val (v_assign' (by conv => (lhs; whnf))) rfl ?_
 refine wl_nil ⟨rfl, ?_⟩
 refine fl_nil (by kernel_rfl) trivial ?_
 refine then_go ?_
 refine wc_seq ?_
 refine wc_seq ?_
 refine wc_region ?_
 refine wl_val (v_move' (by conv => (lhs; whnf))) rfl ?_
 refine wl_val (v_move' (by conv => (lhs; whnf))) rfl ?_
 refine wl_val (v_gtr64 rfl rfl) rfl ?_
 refine wl_nil ?_
 refine then_go ?_
 refine wc_if rfl (fun h20 => ?_) (fun h20 => ?_)
 ·refine wc_seq ?_
  refine wc_region ?_
  refine wl_val (v_move' (by conv => (lhs; whnf))) rfl ?_
  refine wl_val (v_assign' (by conv => (lhs; whnf))) rfl ?_
  refine wl_val (v_assign' (by conv => (lhs; whnf))) rfl ?_
  refine wl_nil ?_
  refine then_go ?_
  refine wc_ret (then_ret ?_)
  refine ret2 rfl rfl ⟨st.touch, ?_⟩
  unfold pickF
  rw [halfB0, halfB1, if_pos (UInt64.lt_iff_toNat_lt.2 h20)]
  rfl
 ·refine wc_skip ?_
  refine then_go ?_
  refine wc_seq ?_
  refine wc_region ?_
  refine wl_val (v_move' (by conv => (lhs; whnf))) rfl ?_
  refine wl_val (v_assign' (by conv => (lhs; whnf))) rfl ?_
  refine wl_val (v_assign' (by conv => (lhs; whnf))) rfl ?_
  refine wl_nil ?_
  refine then_go ?_
  refine wc_ret ?_
  refine ret2 rfl rfl ⟨st.touch, ?_⟩
  unfold pickF
  rw [halfB0, halfB1, if_neg (fun h => h20 (UInt64.lt_iff_toNat_lt.1 h))]
  rfl
theorem c_jcheck {v : Value} {b : By} (him : Im m w) (hb : SlM m v 1 b.length (bs b)) : Ret Tryz.prog 73 #[v] w fun v' w' => Tch w w' [] [] ∧ v' = .int .i64 (if 1 ≤ b.length ∧ b.length ≤ 1048576 then 0 else 1) := by
 have st := St.start him
 obtain ⟨ba, bc, rfl, hbc⟩ := hb.opn
 refine ret_of Tryz.call73 Tryz.func73 rfl Tryz.ntmps73 Tryz.results73 rfl ?_
 refine wc_seq ?_
 refine wc_region ?_
 refine wl_val (v_assign' (by conv => (lhs; whnf))) rfl ?_
 refine wl_nil ?_
 refine then_go ?_
 refine wc_seq ?_
 refine wc_seq ?_
 refine wc_region ?_
 refine wl_val (v_move' (by conv => (lhs; whnf))) rfl ?_
 refine wl_val (v_len_s Tryz.underlying23 rfl) rfl ?_
 refine wl_val (v_eql rfl rfl) rfl ?_
 refine wl_val (v_move' (by conv => (lhs; whnf))) rfl ?_
 refine wl_valg rfl rfl (fun e => (v_move' (by conv => (lhs; whnf)))) rfl ?_
 refine wl_valg rfl rfl (fun e => (v_len_s Tryz.underlying23 (by first | rfl | exact gx e rfl))) rfl ?_
 refine wl_valg rfl rfl (fun e => (v_gtr (by first | rfl | exact gx e rfl) (by first | rfl | exact gx e rfl))) rfl ?_
 refine wl_val (v_pickO rfl rfl rfl) rfl ?_
 refine wl_nil ?_
 refine then_go ?_
 refine wc_cond rfl (fun h10 => ?_) (fun h10 => ?_)
 ·refine wc_seq ?_
  refine wc_region ?_
  refine wl_val (v_assign' (by conv => (lhs; whnf))) rfl ?_
  refine wl_nil ?_
  refine then_go ?_
  refine wc_ret (then_ret ?_)
  exact ret1 rfl ⟨st.touch, by rw [if_neg (fun h => by rw [Bool.or_eq_true, decide_eq_true_eq, decide_eq_true_eq] at h10; omega)]; rfl⟩
 ·refine wc_skip ?_
  refine then_go ?_
  refine wc_seq ?_
  refine wc_region ?_
  refine wl_val (v_assign' (by conv => (lhs; whnf))) rfl ?_
  refine wl_nil ?_
  refine then_go ?_
  refine wc_ret ?_
  exact ret1 rfl ⟨st.touch, by rw [if_pos (by rw [Bool.or_eq_false_iff, decide_eq_false_iff_not, decide_eq_false_iff_not] at h10; omega)]; rfl⟩
end
section
variable {m0 m : Mem} {F : List Nat} {w0 w : World} {Es : List Ent}
theorem c_jread {g : UInt64} {v : Value} {half : By} (st : St m0 m F w0 w Es) (hb : SlM m v 1 half.length (bs half)) (h64 : 64 ≤ half.length) (hl : half.length ≤ 500000000) :
  Ret Tryz.prog 85 #[u64 g, v] w fun v' w' => ∃ m' lv N, St m0 m' F w0 w' (lrE lv N :: Es) ∧ (∀ k o, m k = some o → m' k = some o) ∧ Pcs m' N ∧ N.map (·.1) = recs g half ∧ v' = .tuple #[lv, .int .i64 ((64 + sizeL (recs g half) : Nat) : Int)] := by
 obtain ⟨ba, bc, rfl, hbc⟩ := hb.opn
 refine ret_of Tryz.call85 Tryz.func85 rfl Tryz.ntmps85 Tryz.results85 rfl ?_
 refine wc_seq ?_
 refine wc_region ?_
 refine wl_val (v_assign' (by conv => (lhs; whnf))) rfl ?_
 refine wl_val (v_assign' (by conv => (lhs; whnf))) rfl ?_
 refine wl_nil ?_
 refine then_go ?_
 refine wc_seq ?_
 refine wc_region ?_
 refine wl_val (v_assign' (by conv => (lhs; whnf))) rfl ?_
 refine wl_nil ?_
 refine then_go ?_
 refine wc_seq ?_
 refine wc_region ?_
 refine wl_val (v_assign' (by conv => (lhs; whnf))) rfl ?_
 refine wl_nil ?_
 refine then_go ?_
 refine wc_block ?_
 have st := nilRow st 23 1
 refine wc_loop (S := Nat) (fun q r w' => ∃ (m' : Mem) (lv : Value) (N : List (By × Value)), (half.drop (64 + sizeL (N.map (·.1)))).length ≤ q ∧ 64 + sizeL (N.map (·.1)) ≤ half.length ∧ N.length * 64 + 64 ≤ half.length ∧ recs g half = N.map (·.1) ++ recsF g q N.length (half.drop (64 + sizeL (N.map (·.1)))) ∧ r 0 = u64 g ∧ r 1 = .slice ba half.length bc ∧ r 6 = lv ∧ r 7 = .int .i64 ((64 + sizeL (N.map (·.1)) : Nat) : Int) ∧ St m0 m' F w0 w' (lrE lv N :: Es) ∧ (∀ k o, m k = some o → m' k = some o) ∧ Pcs m' N) id half.length ⟨m, _, [], by simp, by simpa [sizeL] using h64, by simpa using h64, rfl, rfl, rfl, rfl, rfl, st, fun _ _ h => h, by intro x hx; cases hx⟩ ?_
 clear st
 rintro q r w2 ⟨m', lv, N, hq, hat, hN64, hrec, g0, g1, g6, g7, st, hmm, hN⟩
 refine wc_o 0 g0 (wc_o 1 g1 (wc_o 6 g6 (wc_o 7 g7 ?_)))
 obtain ⟨la, lc, hlv⟩ := row_sl (st.at (i := 0) rfl)
 subst hlv
 obtain ⟨at', hate⟩ : ∃ a, a = 64 + sizeL (N.map (·.1)) := ⟨_, rfl⟩
 rw [← hate] at hq hat hrec ⊢
 have htl := (hb.mono hmm).tailB at' hat
 refine wc_block ?_
 refine wc_seq ?_
 rcases hnx : nextF g (UInt64.ofNat N.length) (half.drop at') with _ | x
 ·refine wc_region ?_
  refine wl_val (v_move' (by conv => (lhs; whnf))) rfl ?_
  refine wl_val (v_move' (by conv => (lhs; whnf))) rfl ?_
  refine wl_val (v_len_s Tryz.underlying41 rfl) rfl ?_
  refine wl_val (v_convi_64 Tryz.underlying3 Tryz.underlying47 rfl) rfl ?_
  refine wl_val (v_move' (by conv => (lhs; whnf))) rfl ?_
  refine wl_val (v_move' (by conv => (lhs; whnf))) rfl ?_
  refine wl_val (v_sls at' half.length Tryz.underlying23 TF.t5 rfl ⟨_, _, rfl, rfl⟩ rfl hat hbc) rfl ?_
  refine wl_call rfl (c_next st.im htl (by rw [List.length_drop]; omega)) rfl ?_
  rintro v18 w ⟨t18, m2, hg2, hi2, hno⟩
  have st := st.grown hg2 t18 hi2
  have hN := hN.mono hg2.le
  rw [hnx] at hno
  have hmm : ∀ k o, m k = some o → m2 k = some o := fun k o h => hg2.le k o (hmm k o h)
  have hno : v18 = .tuple #[.slice none 0 0, .int .i64 0] := hno
  subst hno
  refine wl_val (v_move' (by conv => (lhs; whnf))) rfl ?_
  refine wl_val (v_extract rfl rfl) rfl ?_
  refine wl_val (v_extract rfl rfl) rfl ?_
  refine wl_val (v_assign' (by conv => (lhs; whnf))) rfl ?_
  refine wl_val (v_assign' (by conv => (lhs; whnf))) rfl ?_
  refine wl_nil ?_
  refine then_go ?_
  refine wc_seq ?_
  refine wc_seq ?_
  refine wc_region ?_
  refine wl_val (v_move' (by conv => (lhs; whnf))) rfl ?_
  refine wl_val (v_eql rfl rfl) rfl ?_
  refine wl_nil ?_
  refine then_go ?_
  refine wc_true rfl ?_
  refine wc_seq ?_
  refine wc_region ?_
  refine wl_val (v_move' (by conv => (lhs; whnf))) rfl ?_
  refine wl_val (v_move' (by conv => (lhs; whnf))) rfl ?_
  refine wl_val (v_assign' (by conv => (lhs; whnf))) rfl ?_
  refine wl_val (v_assign' (by conv => (lhs; whnf))) rfl ?_
  refine wl_nil ?_
  refine then_go ?_
  refine wc_ret (then_ret (block_ret (then_ret (block_ret ?_))))
  rw [recsF_none hnx, List.append_nil] at hrec
  exact ret2 rfl rfl ⟨m2, _, N, st, hmm, hN, hrec.symm, by rw [hrec, ← hate]; rfl⟩
 ·refine wc_region ?_
  refine wl_val (v_move' (by conv => (lhs; whnf))) rfl ?_
  refine wl_val (v_move' (by conv => (lhs; whnf))) rfl ?_
  refine wl_val (v_len_s Tryz.underlying41 rfl) rfl ?_
  refine wl_val (v_convi_64 Tryz.underlying3 Tryz.underlying47 rfl) rfl ?_
  refine wl_val (v_move' (by conv => (lhs; whnf))) rfl ?_
  refine wl_val (v_move' (by conv => (lhs; whnf))) rfl ?_
  refine wl_val (v_sls at' half.length Tryz.underlying23 TF.t5 rfl ⟨_, _, rfl, rfl⟩ rfl hat hbc) rfl ?_
  refine wl_call rfl (c_next st.im htl (by rw [List.length_drop]; omega)) rfl ?_
  rintro v18 w ⟨t18, m2, hg2, hi2, hno⟩
  have st := st.grown hg2 t18 hi2
  have hN := hN.mono hg2.le
  rw [hnx] at hno
  have hmm : ∀ k o, m k = some o → m2 k = some o := fun k o h => hg2.le k o (hmm k o h)
  obtain ⟨xv, rfl, hxv⟩ := hno
  obtain ⟨k1, k2, k3, k4, k5⟩ := nextF_len hnx
  rw [List.length_drop] at k2 k5
  refine wl_val (v_move' (by conv => (lhs; whnf))) rfl ?_
  refine wl_val (v_extract rfl rfl) rfl ?_
  refine wl_val (v_extract rfl rfl) rfl ?_
  refine wl_val (v_assign' (by conv => (lhs; whnf))) rfl ?_
  refine wl_val (v_assign' (by conv => (lhs; whnf))) rfl ?_
  refine wl_nil ?_
  refine then_go ?_
  refine wc_seq ?_
  refine wc_seq ?_
  refine wc_region ?_
  refine wl_val (v_move' (by conv => (lhs; whnf))) rfl ?_
  refine wl_val (v_eql rfl rfl) rfl ?_
  refine wl_nil ?_
  refine then_go ?_
  refine wc_false (congrArg Value.bool (decide_eq_false (by omega))) ?_
  refine wc_skip ?_
  refine then_go ?_
  refine wc_region ?_
  refine wl_val (v_move' (by conv => (lhs; whnf))) rfl ?_
  refine wl_val (v_move' (by conv => (lhs; whnf))) rfl ?_
  refine wl_svOne (v := xv) Tryz.underlying41 TF.t23 TF.z23 (SlM.one1 hxv) rfl st rfl ?_
  intro b27 w st
  refine wl_lrApp (x := x) 0 st rfl (SlM.one1 hxv) rfl rfl (by omega) rfl ?_
  intro v28 w st
  refine wl_val (v_move' (by conv => (lhs; whnf))) rfl ?_
  refine wl_val (v_move' (by conv => (lhs; whnf))) rfl ?_
  refine wl_val (v_add' (c := ((at' + recL x.length : Nat) : Int)) rfl rfl (by omega) (by omega) (by omega)) rfl ?_
  refine wl_val (v_assign' (by conv => (lhs; whnf))) rfl ?_
  refine wl_val (v_assign' (by conv => (lhs; whnf))) rfl ?_
  refine wl_nil ?_
  refine block_go (then_go ?_)
  obtain ⟨q, rfl⟩ : ∃ q', q = q' + 1 := ⟨q - 1, by rw [List.length_drop] at hq; omega⟩
  rw [recsF_some hnx, List.drop_drop] at hrec
  have e2 : 64 + sizeL ((N ++ [(x, xv)]).map (·.1)) = at' + recL x.length := by rw [List.map_append, List.map_singleton, sizeL_snoc]; show 64 + (sizeL (N.map (·.1)) + recL x.length) = _; omega
  refine ⟨q, by simp, m2, v28, N ++ [(x, xv)], by rw [e2, List.length_drop]; rw [List.length_drop] at hq; omega, by rw [e2]; omega, ?_, ?_, rfl, rfl, rfl, by rw [e2]; rfl, st, hmm, hN.snoc hxv⟩
  ·rw [List.length_append]
   have := sizeL_ge (l := N.map (·.1))
   rw [List.length_map] at this
   show (N.length + 1) * 64 + 64 ≤ _
   omega
  ·rw [e2, hrec, List.map_append, List.length_append, List.append_assoc]
   rfl
end
end Go.Proofs.YtladpaehbolghaaGreat

namespace Go.Proofs.YtladpaehbolghaaGreat
open Go Go.RowKit K SH DK JR
end Go.Proofs.YtladpaehbolghaaGreat

namespace Go.Proofs.YtladpaehbolghaaGreat
open Go Go.RowKit K SH DK JR
theorem v_nesJ {P : Program} {r : Fr} {w : World} {ty T U : TypeId} {x y : Operand} {a b : By} (hx : ev r x = .string (strB a)) (hy : ev r y = .string (strB b)) : Val P (.binOp .neq T x y U) ty r w (.bool (decide (¬ a = b))) w := by
 intro _ _ _ _
 simp only [execOp, eqGuard, hx, hy, binOp, Op.stringOp, strB_toList, Sem.run_bind, Sem.run_pure, Result.andThen_ok]
 by_cases h : a = b
 ·subst h; simp
 ·simp [h]
section
variable {m : Mem} {wI : World}
theorem pickF_le {b : By} {n : Nat} : (pickF b n).1 ≤ 1 := by unfold pickF; split; exact Nat.le_refl _; exact Nat.zero_le _
end
end Go.Proofs.YtladpaehbolghaaGreat

namespace Go.Proofs.YtladpaehbolghaaGreat
open Go Go.RowKit K SH DK JR
def checkE (b : By) : Nat := if 1 ≤ b.length ∧ b.length ≤ 1048576 then 0 else 1
def appR (L : List By) (b : By) (n : Nat) : Nat := if checkE b ≠ 0 then 1 else if sizeL (L ++ [b]) ≤ n / 2 * 64 - 64 then 0 else 13
def resR (M : List By) (n : Nat) : Nat := if ∃ b ∈ M, checkE b ≠ 0 then 1 else if sizeL M ≤ n / 2 * 64 - 64 then 0 else 13
theorem sizeL_le {L : List By} (h : ∀ x ∈ L, x.length ≤ 1000000000) : sizeL L ≤ L.length * 1000000120 := by
 induction L with
 | nil => simp [sizeL]
 | cons x L ih =>
  have h1 := h x List.mem_cons_self
  have h2 := ih fun y hy => h y (List.mem_cons_of_mem _ hy)
  rw [sizeL_cons, List.length_cons]
  unfold recL
  omega
section
variable {m : Mem} {wI : World}
theorem c_rsize {v : Value} {N : List (By × Value)} (him : Im m wI) (hN : PcsM m v N) (hNl : ∀ x ∈ N, x.1.length ≤ 1000000000) (hNn : N.length ≤ 1048577) : Ret Tryz.prog 90 #[v] wI fun v' w' => Tch wI w' [] [] ∧ v' = .int .i64 (sizeL (N.map (·.1)) : Nat) := by
 have st := St.start him
 obtain ⟨na, nc, hlv⟩ : ∃ a c, v = .slice a N.length c := by obtain ⟨⟨_, a, c, h, _⟩, _⟩ := hN; exact ⟨a, c, h⟩
 subst hlv
 refine ret_of Tryz.call90 Tryz.func90 rfl Tryz.ntmps90 Tryz.results90 rfl ?_
 refine wc_seq ?_
 refine wc_region ?_
 refine wl_val (v_assign' (by conv => (lhs; whnf))) rfl ?_
 refine wl_nil ?_
 refine then_go ?_
 refine wc_seq ?_
 refine wc_region ?_
 refine wl_val (v_assign' (by conv => (lhs; whnf))) rfl ?_
 refine wl_nil ?_
 refine then_go ?_
 refine wc_seq ?_
 refine wc_seq ?_
 refine wc_region ?_
 refine wl_val (v_assign' (by conv => (lhs; whnf))) rfl ?_
 refine wl_nil ?_
 refine then_go ?_
 refine wc_block ?_
 refine wc_loop (S := Nat) (fun q r w' => ∃ (i : Nat), q + i = N.length ∧ r 0 = .slice na N.length nc ∧ r 3 = .int .i64 ((sizeL ((N.take i).map (·.1)) : Nat) : Int) ∧ r 4 = .int .i64 i ∧ St m m [] wI w' []) id N.length ⟨0, by omega, rfl, rfl, rfl, st⟩ ?_
 clear st
 rintro q r w2 ⟨i, hqi, g0, g3, g4, st⟩
 refine wc_o 0 g0 (wc_o 3 g3 (wc_o 4 g4 ?_))
 refine wc_seq ?_
 refine wc_seq ?_
 refine wc_region ?_
 refine wl_val (v_move' (by conv => (lhs; whnf))) rfl ?_
 refine wl_val (v_move' (by conv => (lhs; whnf))) rfl ?_
 refine wl_val (v_len_s Tryz.underlying41 rfl) rfl ?_
 refine wl_val (v_lss rfl rfl) rfl ?_
 refine wl_nil ?_
 refine then_go ?_
 refine wc_if rfl (fun h8 => ?_) (fun h8 => ?_)
 ·refine wc_skip ?_
  refine then_go ?_
  refine wc_seq ?_
  refine wc_block ?_
  have hi : i < N.length := by omega
  obtain ⟨nb, no, _, hnv, hsk, hrk⟩ := hN.elem hi
  cases hnv
  have hxl := hNl _ (List.getElem_mem hi)
  obtain ⟨_, qa, qc, hqv, _⟩ := id hsk
  rw [hqv] at hrk
  have hsz : sizeL ((N.take i).map (·.1)) ≤ 1048577 * 1000000120 := Nat.le_trans (sizeL_le fun x hx => by obtain ⟨y, hy, rfl⟩ := List.mem_map.1 hx; exact hNl y (List.mem_of_mem_take hy)) (Nat.mul_le_mul_right _ (by rw [List.length_map, List.length_take]; omega))
  have hrl : recL N[i].1.length ≤ N[i].1.length + 120 := by unfold recL; omega
  refine wc_region ?_
  refine wl_val (v_move' (by conv => (lhs; whnf))) rfl ?_
  refine wl_val (v_move' (by conv => (lhs; whnf))) rfl ?_
  refine wl_val (v_move' (by conv => (lhs; whnf))) rfl ?_
  refine wl_val (v_ias i Tryz.underlying41 TF.t23 rfl rfl (by first | rfl | omega) (by first | omega | (dsimp only at *; omega))) rfl ?_
  refine wl_val (v_load rfl (hrk st.im)) rfl ?_
  refine wl_val (v_len_s Tryz.underlying23 rfl) rfl ?_
  refine wl_val (v_add' (c := ((N[i].1.length + 57 : Nat) : Int)) rfl rfl (by omega) (by omega) (by omega)) rfl ?_
  refine wl_val (v_add' (c := ((N[i].1.length + 120 : Nat) : Int)) rfl rfl (by omega) (by omega) (by omega)) rfl ?_
  refine wl_val (v_to (v' := .int .i64 (((N[i].1.length + 120) / 64 : Nat) : Int)) (v_quo' rfl rfl (by omega) (by omega) rfl (by omega)) (by rw [Int.natCast_ediv]; rfl)) rfl ?_
  refine wl_val (v_mul' (c := ((recL N[i].1.length : Nat) : Int)) rfl rfl (by unfold recL; omega) (by omega) (by omega)) rfl ?_
  refine wl_val (v_add' (c := ((sizeL ((N.take i).map (·.1)) + recL N[i].1.length : Nat) : Int)) rfl rfl (by omega) (by omega) (by omega)) rfl ?_
  refine wl_val (v_assign' (by conv => (lhs; whnf))) rfl ?_
  refine wl_nil ?_
  refine block_go (then_go ?_)
  refine wc_region ?_
  refine wl_val (v_move' (by conv => (lhs; whnf))) rfl ?_
  refine wl_val (v_add' (c := ((i + 1 : Nat) : Int)) rfl rfl (by omega) (by omega) (by omega)) rfl ?_
  refine wl_val (v_assign' (by conv => (lhs; whnf))) rfl ?_
  refine wl_nil ?_
  refine then_go ?_
  refine ⟨q - 1, by simp; omega, i + 1, by omega, rfl, ?_, rfl, st⟩
  rw [List.take_succ_eq_append_getElem hi, List.map_append, List.map_singleton, sizeL_snoc]
  rfl
 ·refine wc_exit (then_exit (then_exit (block_hit ?_)))
  refine then_go ?_
  refine wc_seq ?_
  refine wc_region ?_
  refine wl_val (v_move' (by conv => (lhs; whnf))) rfl ?_
  refine wl_val (v_assign' (by conv => (lhs; whnf))) rfl ?_
  refine wl_nil ?_
  refine then_go ?_
  refine wc_ret ?_
  have hiN : i = N.length := by omega
  subst hiN
  exact ret1 rfl ⟨st.touch, by rw [List.take_length]; rfl⟩
theorem c_fits {v : Value} {N : List (By × Value)} {n : Nat} (him : Im m wI) (hN : PcsM m v N) (hNl : ∀ x ∈ N, x.1.length ≤ 1000000000) (hNn : N.length ≤ 1048577) (hn : n ≤ 1000000) (hn2 : 2 ≤ n) : Ret Tryz.prog 72 #[v, .int .i64 n] wI fun v' w' => Tch wI w' [] [] ∧ v' = .bool (decide (sizeL (N.map (·.1)) ≤ n / 2 * 64 - 64)) := by
 have st := St.start him
 refine ret_of Tryz.call72 Tryz.func72 rfl Tryz.ntmps72 Tryz.results72 rfl ?_
 refine wc_seq ?_
 refine wc_region ?_
 refine wl_val (v_assign' (by conv => (lhs; whnf))) rfl ?_
 refine wl_nil ?_
 refine then_go ?_
 refine wc_seq ?_
 refine wc_region ?_
 refine wl_val (v_move' (by conv => (lhs; whnf))) rfl ?_
 refine wl_call rfl (c_rsize st.im hN hNl hNn) rfl ?_
 rintro v6 w ⟨t6, rfl⟩
 have st := st.pure t6
 refine wl_val (v_move' (by conv => (lhs; whnf))) rfl ?_
 refine wl_val (v_to (v' := .int .i64 ((n / 2 : Nat) : Int)) (v_quo' rfl rfl (by omega) (by omega) rfl (by omega)) (by rw [Int.natCast_ediv]; rfl)) rfl ?_
 refine wl_val (v_mul' (c := ((n / 2 * 64 : Nat) : Int)) rfl rfl (by omega) (by omega) (by omega)) rfl ?_
 refine wl_val (v_sub' (c := ((n / 2 * 64 - 64 : Nat) : Int)) rfl rfl (by omega) (by omega) (by omega)) rfl ?_
 refine wl_val (wl_valD (v_leq rfl rfl) (q := decide (sizeL (N.map (·.1)) ≤ n / 2 * 64 - 64)) (by rw [decide_eq_decide]; omega)) rfl ?_
 refine wl_val (v_assign' (by conv => (lhs; whnf))) rfl ?_
 refine wl_nil ?_
 refine then_go ?_
 refine wc_ret ?_
 exact ret1 rfl ⟨st.touch, rfl⟩
theorem c_rcheck {v : Value} {b : By} (him : Im m wI) (hb : SlM m v 1 b.length (bs b)) : Ret Tryz.prog 71 #[v] wI fun v' w' => Tch wI w' [] [] ∧ v' = .int .i64 (checkE b) := by
 have st := St.start him
 obtain ⟨ba, bc, rfl, hbc⟩ := hb.opn
 refine ret_of Tryz.call71 Tryz.func71 rfl Tryz.ntmps71 Tryz.results71 rfl ?_
 refine wc_seq ?_
 refine wc_region ?_
 refine wl_val (v_assign' (by conv => (lhs; whnf))) rfl ?_
 refine wl_nil ?_
 refine then_go ?_
 refine wc_seq ?_
 refine wc_seq ?_
 refine wc_region ?_
 refine wl_val (v_move' (by conv => (lhs; whnf))) rfl ?_
 refine wl_val (v_len_s Tryz.underlying23 rfl) rfl ?_
 refine wl_val (v_eql rfl rfl) rfl ?_
 refine wl_val (v_move' (by conv => (lhs; whnf))) rfl ?_
 refine wl_valg rfl rfl (fun e => (v_move' (by conv => (lhs; whnf)))) rfl ?_
 refine wl_valg rfl rfl (fun e => (v_len_s Tryz.underlying23 (by first | rfl | exact gx e rfl))) rfl ?_
 refine wl_valg rfl rfl (fun e => (v_gtr (by first | rfl | exact gx e rfl) (by first | rfl | exact gx e rfl))) rfl ?_
 refine wl_val (v_pickO rfl rfl rfl) rfl ?_
 refine wl_nil ?_
 refine then_go ?_
 refine wc_cond rfl (fun h10 => ?_) (fun h10 => ?_)
 ·refine wc_seq ?_
  refine wc_region ?_
  refine wl_val (v_assign' (by conv => (lhs; whnf))) rfl ?_
  refine wl_nil ?_
  refine then_go ?_
  refine wc_ret (then_ret ?_)
  exact ret1 rfl ⟨st.touch, by unfold checkE; rw [if_neg (fun h => by rw [Bool.or_eq_true, decide_eq_true_eq, decide_eq_true_eq] at h10; omega)]; rfl⟩
 ·refine wc_skip ?_
  refine then_go ?_
  refine wc_seq ?_
  refine wc_region ?_
  refine wl_val (v_assign' (by conv => (lhs; whnf))) rfl ?_
  refine wl_nil ?_
  refine then_go ?_
  refine wc_ret ?_
  exact ret1 rfl ⟨st.touch, by unfold checkE; rw [if_pos (by rw [Bool.or_eq_false_iff, decide_eq_false_iff_not, decide_eq_false_iff_not] at h10; omega)]; rfl⟩
end
end Go.Proofs.YtladpaehbolghaaGreat

namespace Go.Proofs.YtladpaehbolghaaGreat
open Go Go.RowKit K SH DK JR
namespace JR
def writesD (n : Nat) : DS → Nat → List By → DS × Int
 | d, _, [] => syncD d
 | d, i, c :: cs => if (writeD d n i c).2 ≠ 0 then writeD d n i c else writesD n (writeD d n i c).1 (i + 1) cs
def chunk (b : By) : List By := (List.range (b.length / 64)).map fun j => (b.drop (64 * j)).take 64
def putD (n : Nat) (d : DS) (i : Nat) (b : By) : DS × Int := writesD n d i (chunk b)
structure LG where
 half : Nat
 gen : UInt64
 fin : Nat
def overD (n : Nat) (d : DS) (s : LG) (L : List By) : DS × LG × Int :=
 if n / 2 * 64 - 64 < sizeL L then (d, s, 13) else
 if (putD n d ((1 - s.half) * (n / 2)) (List.replicate (n / 2 * 64) 0)).2 ≠ 0 then ((putD n d ((1 - s.half) * (n / 2)) (List.replicate (n / 2 * 64) 0)).1, s, (putD n d ((1 - s.half) * (n / 2)) (List.replicate (n / 2 * 64) 0)).2) else
 if (putD n (putD n d ((1 - s.half) * (n / 2)) (List.replicate (n / 2 * 64) 0)).1 ((1 - s.half) * (n / 2) + 1) (allB (s.gen + 1) 0 L)).2 ≠ 0 then ((putD n (putD n d ((1 - s.half) * (n / 2)) (List.replicate (n / 2 * 64) 0)).1 ((1 - s.half) * (n / 2) + 1) (allB (s.gen + 1) 0 L)).1, s, (putD n (putD n d ((1 - s.half) * (n / 2)) (List.replicate (n / 2 * 64) 0)).1 ((1 - s.half) * (n / 2) + 1) (allB (s.gen + 1) 0 L)).2) else
 if (putD n (putD n (putD n d ((1 - s.half) * (n / 2)) (List.replicate (n / 2 * 64) 0)).1 ((1 - s.half) * (n / 2) + 1) (allB (s.gen + 1) 0 L)).1 ((1 - s.half) * (n / 2)) (headB (s.gen + 1))).2 ≠ 0 then ((putD n (putD n (putD n d ((1 - s.half) * (n / 2)) (List.replicate (n / 2 * 64) 0)).1 ((1 - s.half) * (n / 2) + 1) (allB (s.gen + 1) 0 L)).1 ((1 - s.half) * (n / 2)) (headB (s.gen + 1))).1, s, (putD n (putD n (putD n d ((1 - s.half) * (n / 2)) (List.replicate (n / 2 * 64) 0)).1 ((1 - s.half) * (n / 2) + 1) (allB (s.gen + 1) 0 L)).1 ((1 - s.half) * (n / 2)) (headB (s.gen + 1))).2) else
 ((putD n (putD n (putD n d ((1 - s.half) * (n / 2)) (List.replicate (n / 2 * 64) 0)).1 ((1 - s.half) * (n / 2) + 1) (allB (s.gen + 1) 0 L)).1 ((1 - s.half) * (n / 2)) (headB (s.gen + 1))).1, ⟨1 - s.half, s.gen + 1, 64 + sizeL L⟩, 0)
def appD (n : Nat) (d : DS) (s : LG) (L : List By) (b : By) : DS × LG × Int :=
 if checkE b ≠ 0 then (d, s, 1) else
 if n / 2 * 64 < s.fin + recL b.length then (d, s, 13) else
 if (putD n d ((s.half * (n / 2 * 64) + s.fin) / 64) (recB s.gen (UInt64.ofNat L.length) b)).2 ≠ 0 then ((putD n d ((s.half * (n / 2 * 64) + s.fin) / 64) (recB s.gen (UInt64.ofNat L.length) b)).1, s, (putD n d ((s.half * (n / 2 * 64) + s.fin) / 64) (recB s.gen (UInt64.ofNat L.length) b)).2) else
 ((putD n d ((s.half * (n / 2 * 64) + s.fin) / 64) (recB s.gen (UInt64.ofNat L.length) b)).1, { s with fin := s.fin + recL b.length }, 0)
theorem chunk_len {b : By} : (chunk b).length = b.length / 64 := by simp [chunk]
theorem chunk_64 {b : By} : ∀ c ∈ chunk b, c.length = 64 := fun c hc => by
 obtain ⟨j, hj, rfl⟩ := List.mem_map.1 hc
 have := List.mem_range.1 hj
 rw [List.length_take, List.length_drop]
 omega
theorem chunk_at {b : By} {j : Nat} (hj : j < (chunk b).length) : (chunk b)[j] = (b.drop (64 * j)).take 64 := by simp [chunk]
theorem chunk_join {b : By} (h : b.length % 64 = 0) : (chunk b).flatten = b := by
 have key : ∀ k, k ≤ b.length / 64 → ((List.range k).map fun j => (b.drop (64 * j)).take 64).flatten = b.take (64 * k) := by
  intro k
  induction k with
  | zero => intro _; simp
  | succ k ih =>
   intro hk
   rw [List.range_succ, List.map_append, List.flatten_append, ih (by omega), Nat.mul_succ, List.take_add]
   simp
 unfold chunk
 rw [key _ (Nat.le_refl _), List.take_of_length_le (by omega)]
def calm (S : By) : DS := ⟨S, [], -1, false⟩
def spl : By → Nat → List By → By
 | S, _, [] => S
 | S, i, c :: cs => spl (splice S (64 * i) c) (i + 1) cs
theorem writes_calm {n : Nat} : ∀ {cs : List By} {S : By} {W : List (Nat × By)} {i : Nat}, (∀ c ∈ cs, c.length = 64) → i + cs.length ≤ n → writesD n ⟨S, W, -1, false⟩ i cs = (calm (spl (dump ⟨S, W, -1, false⟩) i cs), 0)
 | [], S, W, i, _, _ => by simp [writesD, syncD, burn, calm, spl, dump]
 | c :: cs, S, W, i, hc, hn => by
  rw [List.length_cons] at hn
  have h64 := hc c List.mem_cons_self
  have hw : writeD ⟨S, W, -1, false⟩ n i c = (⟨S, W ++ [(i, c)], -1, false⟩, 0) := by
   unfold writeD
   rw [if_neg (by simp), if_neg (by omega), if_neg (by omega)]
   simp [burn]
  rw [writesD, hw, if_neg (by simp)]
  rw [writes_calm (fun x hx => hc x (List.mem_cons_of_mem _ hx)) (by omega)]
  simp [spl, dump]
theorem splice_splice {S a b : By} {o : Nat} (h : o + a.length + b.length ≤ S.length) : splice (splice S o a) (o + a.length) b = splice S o (a ++ b) := by
 have h1 : (S.take o ++ a).length = o + a.length := by simp; omega
 unfold splice
 have e : (S.take o ++ a ++ S.drop (o + a.length)).drop (o + a.length) = S.drop (o + a.length) := List.drop_left' h1
 rw [List.take_left' h1, ← List.drop_drop, e, List.drop_drop, List.length_append]
 simp only [List.append_assoc, Nat.add_assoc]
theorem spl_eq : ∀ {cs : List By} {S : By} {i : Nat}, (∀ c ∈ cs, c.length = 64) → 64 * (i + cs.length) ≤ S.length → spl S i cs = splice S (64 * i) cs.flatten
 | [], S, i, _, _ => by simp [spl, splice_nil]
 | c :: cs, S, i, hc, hn => by
  have h64 := hc c List.mem_cons_self
  have hfl : cs.flatten.length = 64 * cs.length := by
   have : ∀ l : List By, (∀ c ∈ l, c.length = 64) → l.flatten.length = 64 * l.length := by
    intro l
    induction l with
    | nil => intro _; rfl
    | cons x l ih => intro h; rw [List.flatten_cons, List.length_append, ih fun y hy => h y (List.mem_cons_of_mem _ hy), h x List.mem_cons_self, List.length_cons]; omega
   exact this cs fun x hx => hc x (List.mem_cons_of_mem _ hx)
  rw [List.length_cons] at hn
  rw [spl, spl_eq (fun x hx => hc x (List.mem_cons_of_mem _ hx)) (by rw [length_splice (by omega)]; omega), List.flatten_cons]
  have e : 64 * (i + 1) = 64 * i + c.length := by omega
  rw [e, splice_splice (by omega)]
theorem put_calm {n i : Nat} {S b : By} (hS : S.length = 64 * n) (hb : b.length % 64 = 0) (hi : 64 * i + b.length ≤ 64 * n) : putD n (calm S) i b = (calm (splice S (64 * i) b), 0) := by
 have hc := chunk_len (b := b)
 unfold putD calm
 rw [writes_calm chunk_64 (by omega)]
 have : dump ⟨S, [], -1, false⟩ = S := rfl
 rw [this, spl_eq chunk_64 (by omega), chunk_join hb]
 rfl
theorem ok_burn {d : DS} {n : Nat} (h : d.ok n) : (burn d).ok n := ⟨h.pos, h.len, h.le, h.wt⟩
theorem length_foldl_splice : ∀ {W : List (Nat × By)} {S : By} {n : Nat}, S.length = 64 * n → (∀ x ∈ W, x.1 < n ∧ x.2.length = 64) → (W.foldl (fun S x => splice S (64 * x.1) x.2) S).length = 64 * n
 | [], S, n, h, _ => h
 | x :: W, S, n, h, hW => by
  obtain ⟨h1, h2⟩ := hW x List.mem_cons_self
  rw [List.foldl_cons]
  exact length_foldl_splice (by rw [length_splice (by omega)]; exact h) fun y hy => hW y (List.mem_cons_of_mem _ hy)
theorem length_dump {d : DS} {n : Nat} (h : d.ok n) : (dump d).length = 64 * n := length_foldl_splice h.len h.wt
theorem ok_write {d : DS} {n i : Nat} {c : By} (h : d.ok n) : (writeD d n i c).1.ok n := by
 unfold writeD
 split
 ·exact h
 ·split
  ·exact h
  ·split
   ·exact h
   ·rename_i h1 h2 h3
    refine ok_burn ⟨h.pos, h.len, h.le, fun x hx => ?_⟩
    rcases List.mem_append.1 hx with hx | hx
    ·exact h.wt x hx
    ·rw [List.mem_singleton.1 hx]
     exact ⟨by simp; omega, by simpa using h3⟩
theorem ok_sync {d : DS} {n : Nat} (h : d.ok n) : (syncD d).1.ok n := by
 unfold syncD
 split
 ·exact h
 ·split
  ·exact ok_burn h
  ·exact ⟨h.pos, length_dump h, h.le, by intro x hx; cases hx⟩
def Fz (d : DS) : Prop := -1 ≤ d.fuse ∧ d.fuse ≤ 9223372036854775807
theorem fz_burn {d : DS} (h : Fz d) : Fz (burn d) := by
 unfold Fz burn at *
 dsimp only
 split <;> omega
theorem fz_write {d : DS} {n i : Nat} {c : By} (h : Fz d) : Fz (writeD d n i c).1 := by
 unfold writeD
 split
 ·exact h
 ·split
  ·exact h
  ·split
   ·exact h
   ·exact fz_burn (d := { d with wt := d.wt ++ [((i : Int).toNat, c)] }) h
theorem fz_sync {d : DS} (h : Fz d) : Fz (syncD d).1 := by
 unfold syncD
 split
 ·exact h
 ·split
  ·exact fz_burn h
  ·exact fz_burn h
theorem wt_write {d : DS} {n i : Nat} {c : By} : (writeD d n i c).1.wt.length ≤ d.wt.length + 1 := by
 unfold writeD
 split
 ·simp
 ·split
  ·simp
  ·split
   ·simp
   ·simp [burn]
theorem wt_sync {d : DS} : (syncD d).1.wt.length ≤ d.wt.length := by
 unfold syncD
 split
 ·simp
 ·split
  ·simp [burn]
  ·simp
theorem sync_done {d : DS} (h : (syncD d).2 = 0) : (syncD d).1.wt = [] := by
 unfold syncD at *
 split at h
 ·cases h
 ·split at h
  ·cases h
  ·rename_i h1 h2; rw [if_neg h1, if_neg h2]
structure Rdy (n : Nat) (d : DS) (k : Nat) : Prop where
 ok : d.ok n
 fz : Fz d
 few : d.wt.length ≤ k
theorem rdy_writes {n : Nat} : ∀ {cs : List By} {d : DS} {i k : Nat}, Rdy n d k → Rdy n (writesD n d i cs).1 (k + cs.length) ∧ ((writesD n d i cs).2 = 0 → (writesD n d i cs).1.wt = [])
 | [], d, i, k, h => ⟨⟨ok_sync h.ok, fz_sync h.fz, Nat.le_trans wt_sync h.few⟩, sync_done⟩
 | c :: cs, d, i, k, h => by
  have h1 : Rdy n (writeD d n i c).1 (k + 1) := ⟨ok_write h.ok, fz_write h.fz, Nat.le_trans wt_write (by have := h.few; omega)⟩
  rw [writesD]
  split
  ·rename_i hz
   exact ⟨⟨h1.ok, h1.fz, by have := h1.few; rw [List.length_cons]; omega⟩, fun h0 => (hz h0).elim⟩
  ·have := rdy_writes (cs := cs) (i := i + 1) h1
   rw [List.length_cons]
   exact ⟨⟨this.1.ok, this.1.fz, by have := this.1.few; omega⟩, this.2⟩
theorem rdy_put {n : Nat} {d : DS} {i k : Nat} {b : By} (h : Rdy n d k) : Rdy n (putD n d i b).1 (k + b.length / 64) ∧ ((putD n d i b).2 = 0 → (putD n d i b).1.wt = []) := by
 have := rdy_writes (cs := chunk b) (i := i) h
 rwa [chunk_len] at this
end JR
end Go.Proofs.YtladpaehbolghaaGreat

namespace Go.Proofs.YtladpaehbolghaaGreat
open Go Go.RowKit K DK
def wtCells (l : List (Nat × By)) : List Value := l.flatMap fun x => Value.int .i64 x.1 :: bs x.2
theorem drop_wtCells {l : List (Nat × By)} (h : ∀ x ∈ l, x.2.length = 64) (i : Nat) : (wtCells l).drop (i * 65) = wtCells (l.drop i) := by
 induction l generalizing i with
 | nil => simp [wtCells]
 | cons x l ih =>
  cases i with
  | zero => simp
  | succ i =>
   have h1 := ih (fun y hy => h y (List.mem_cons_of_mem _ hy)) i
   have h2 := h x List.mem_cons_self
   have e : (i + 1) * 65 = (Value.int .i64 x.1 :: bs x.2).length + i * 65 := by simp [length_bs, h2]; omega
   have e2 : wtCells (x :: l) = (Value.int .i64 x.1 :: bs x.2) ++ wtCells l := by simp [wtCells]
   rw [e, e2, ← List.drop_drop, List.drop_left, List.drop_succ_cons]
   exact h1
theorem wt_elem {l : List (Nat × By)} (h : ∀ x ∈ l, x.2.length = 64) {i : Nat} (hi : i < l.length) : cellsAt (wtCells l) 65 i = Value.int .i64 l[i].1 :: bs l[i].2 := by
 unfold cellsAt
 rw [drop_wtCells h, List.drop_eq_getElem_cons hi]
 have h2 := h l[i] (List.getElem_mem hi)
 simp only [wtCells, List.flatMap_cons]
 have e : (65 : Nat) = (Value.int .i64 l[i].1 :: bs l[i].2).length := by simp [length_bs, h2]
 rw [e, List.take_left]
structure diskM (m : Mem) (b n : Nat) (d : DS) : Prop where
 ok : d.ok n
 mem : ∃ s wv, m b = some (.cells #[.slice (some ⟨s, 0, none⟩) n n, wv, .int .i64 d.fuse, .bool d.down] 91 (0, 0)) ∧ m s = some (.cells (bs d.S).toArray 104 (0, 0)) ∧ SlM m wv 65 d.wt.length (wtCells d.wt)
 few : d.wt.length ≤ 9223372036854775807
theorem bs_append (a b : By) : bs (a ++ b) = bs a ++ bs b := by simp [bs]
theorem secs_split (S : By) (i : Nat) : S.take (64 * i) ++ sec S i ++ S.drop (64 * i + 64) = S := by
 unfold sec
 rw [List.append_assoc, ← List.drop_drop, List.take_append_drop, List.take_append_drop]
theorem c_check {m : Mem} {w : World} {b n : Nat} {d : DS} (i : Int) (him : Im m w) (hd : diskM m b n d) :
  Ret Tryz.prog 112 #[.pointer (some ⟨b, 0, none⟩), .int .i64 i] w fun v w' => w' = w ∧ v = .int .i64 (if d.down then 14 else if i < 0 ∨ i ≥ n then 2 else 0) := by
 obtain ⟨ok, ⟨s, wv, hb, hs, hw⟩, hf⟩ := hd
 have st := St.start him
 refine ret_of Tryz.call112 Tryz.func112 rfl Tryz.ntmps112 Tryz.results112 rfl ?_
 refine wc_seq ?_
 refine wc_region ?_
 refine wl_val (v_assign' (by conv => (lhs; whnf))) rfl ?_
 refine wl_nil ?_
 refine then_go ?_
 refine wc_seq ?_
 refine wc_block ?_
 refine wc_seq ?_
 refine wc_region ?_
 refine wl_val (v_move' (by conv => (lhs; whnf))) rfl ?_
 refine wl_val (v_nil rfl) rfl ?_
 refine wl_val (v_fa TF.f91_3 rfl) rfl ?_
 refine wl_val (v_load rfl (st.readm hb TF.t4 rfl)) rfl ?_
 refine wl_val (v_assign' (by conv => (lhs; whnf))) rfl ?_
 refine wl_nil ?_
 refine then_go ?_
 refine wc_cond rfl (fun h5 => ?_) (fun h5 => ?_)
 ·refine wc_seq ?_
  refine wc_region ?_
  refine wl_val (v_assign' (by conv => (lhs; whnf))) rfl ?_
  refine wl_nil ?_
  refine then_go ?_
  refine wc_ret (block_ret (then_ret ?_))
  exact ret1 (v := .int .i64 14) rfl ⟨rfl, by simp [h5]⟩
 ·refine wc_seq ?_
  refine wc_region ?_
  refine wl_val (v_move' (by conv => (lhs; whnf))) rfl ?_
  refine wl_val (v_lss rfl rfl) rfl ?_
  refine wl_val (v_move' (by conv => (lhs; whnf))) rfl ?_
  by_cases hg2 : i < 0
  ·rw [show decide (i < 0) = true from decide_eq_true hg2]
   refine wl_off rfl rfl rfl rfl ?_
   refine wl_off rfl rfl rfl rfl ?_
   refine wl_off rfl rfl rfl rfl ?_
   refine wl_off rfl rfl rfl rfl ?_
   refine wl_off rfl rfl rfl rfl ?_
   refine wl_off rfl rfl rfl rfl ?_
   refine wl_off rfl rfl rfl rfl ?_
   refine wl_val (v_pick rfl) rfl ?_
   refine wl_val (v_assign' (by conv => (lhs; whnf))) rfl ?_
   refine wl_nil ?_
   refine then_go ?_
   refine wc_true rfl ?_
   refine wc_seq ?_
   refine wc_region ?_
   refine wl_val (v_assign' (by conv => (lhs; whnf))) rfl ?_
   refine wl_nil ?_
   refine then_go ?_
   refine wc_ret (block_ret (then_ret ?_))
   exact ret1 (v := .int .i64 2) rfl ⟨rfl, by simp [h5, hg2]⟩
  ·rw [show decide (i < 0) = false from decide_eq_false hg2]
   refine wl_on rfl rfl ?_
   refine wl_val (v_move' (by conv => (lhs; whnf))) rfl ?_
   refine wl_on rfl rfl ?_
   refine wl_val (v_move' (by conv => (lhs; whnf))) rfl ?_
   refine wl_on rfl rfl ?_
   refine wl_val (v_nil rfl) rfl ?_
   refine wl_on rfl rfl ?_
   refine wl_val (v_fa TF.f91_0 rfl) rfl ?_
   refine wl_on rfl rfl ?_
   refine wl_val (v_load rfl (st.readm hb TF.t88 rfl)) rfl ?_
   refine wl_on rfl rfl ?_
   refine wl_val (v_len_s Tryz.underlying88 rfl) rfl ?_
   refine wl_on rfl rfl ?_
   refine wl_val (v_geq rfl rfl) rfl ?_
   refine wl_val (v_pick rfl) rfl ?_
   refine wl_val (v_assign' (by conv => (lhs; whnf))) rfl ?_
   refine wl_nil ?_
   refine then_go ?_
   refine wc_if rfl (fun h10 => ?_) (fun h10 => ?_)
   ·refine wc_seq ?_
    refine wc_region ?_
    refine wl_val (v_assign' (by conv => (lhs; whnf))) rfl ?_
    refine wl_nil ?_
    refine then_go ?_
    refine wc_ret (block_ret (then_ret ?_))
    exact ret1 (v := .int .i64 2) rfl ⟨rfl, by simp [h5, h10]⟩
   ·refine wc_skip ?_
    refine block_go (then_go ?_)
    refine wc_seq ?_
    refine wc_region ?_
    refine wl_val (v_assign' (by conv => (lhs; whnf))) rfl ?_
    refine wl_nil ?_
    refine then_go ?_
    refine wc_ret ?_
    exact ret1 (v := .int .i64 0) rfl ⟨rfl, by simp [h5, hg2]; omega⟩
theorem c_size {m : Mem} {w : World} {b n : Nat} {d : DS} (him : Im m w) (hd : diskM m b n d) :
  Ret Tryz.prog 21 #[.pointer (some ⟨b, 0, none⟩)] w fun v w' => w' = w ∧ v = .int .i64 n := by
 obtain ⟨ok, ⟨s, wv, hb, hs, hw⟩, hf⟩ := hd
 have st := St.start him
 refine ret_of Tryz.call21 Tryz.func21 rfl Tryz.ntmps21 Tryz.results21 rfl ?_
 refine wc_seq ?_
 refine wc_region ?_
 refine wl_val (v_assign' (by conv => (lhs; whnf))) rfl ?_
 refine wl_nil ?_
 refine then_go ?_
 refine wc_seq ?_
 refine wc_region ?_
 refine wl_val (v_move' (by conv => (lhs; whnf))) rfl ?_
 refine wl_val (v_nil rfl) rfl ?_
 refine wl_val (v_fa TF.f91_0 rfl) rfl ?_
 refine wl_val (v_load rfl (st.readm hb TF.t88 rfl)) rfl ?_
 refine wl_val (v_len_s Tryz.underlying88 rfl) rfl ?_
 refine wl_val (v_assign' (by conv => (lhs; whnf))) rfl ?_
 refine wl_nil ?_
 refine then_go ?_
 refine wc_ret ?_
 exact ret1 rfl ⟨rfl, rfl⟩
end Go.Proofs.YtladpaehbolghaaGreat

namespace Go.Proofs.YtladpaehbolghaaGreat
open Go Go.RowKit K DK
def diskL (b s n : Nat) (wv : Value) (d : DS) : List Ent :=
 [blk b #[.slice (some ⟨s, 0, none⟩) n n, wv, .int .i64 d.fuse, .bool d.down] 91, blk s (bs d.S).toArray 104, rowE wv 106 65 d.wt.length (wtCells d.wt)]
def diskO (b s n : Nat) (wv : Value) (d : DS) : Ent := joinE (diskL b s n wv d)
def DiskCall (f : FuncId) (args : List Value) (b s n : Nat) (wv : Value) (d : DS) (w : World) (R : Value → DS → Prop) : Prop :=
 Ret Tryz.prog f (.pointer (some ⟨b, 0, none⟩) :: args).toArray w fun v w' => ∃ wv' d', Tch w w' (diskO b s n wv d).foot (diskO b s n wv' d').foot ∧ (diskO b s n wv' d').holds w' ∧ R v d'
theorem row_few {w : World} {v : Value} {e size n : Nat} {xs : List Value} (h : (rowE v e size n xs).holds w) : n ≤ 9223372036854775807 := by
 rcases h.2 with ⟨_, rfl⟩ | ⟨g, cap, cur, _, _, _, hc, hm, _⟩
 ·omega
 ·unfold maxLen at hm; omega
theorem disk_snap {m0 m : Mem} {F : List Nat} {w0 w : World} {Es : List Ent} {b s n : Nat} {wv : Value} {d : DS} (st : St m0 m F w0 w (diskL b s n wv d ++ Es)) (ok : d.ok n) : diskM (heapM w) b n d :=
 ⟨ok, ⟨s, wv, st.at (i := 0) rfl, st.at (i := 1) rfl, row_SlM (st.at (i := 2) rfl) fun _ _ _ h => h⟩, row_few (st.at (i := 2) rfl)⟩
section
variable {m : Mem} {w : World} {b s n : Nat} {wv : Value} {d : DS}
theorem c_burns (him : Im m w) (hE : (diskO b s n wv d).holds w) (hm : ∀ k ∈ (diskO b s n wv d).foot, m k = none) (hf : -1 ≤ d.fuse ∧ d.fuse ≤ 9223372036854775807) :
  DiskCall 113 [] b s n wv d w fun v d' => d' = burn d ∧ v = .bool (burn d).down := by
 have st := St.begin him hE hm
 have h1 := hf.1
 have h2 := hf.2
 refine ret_of Tryz.call113 Tryz.func113 rfl Tryz.ntmps113 Tryz.results113 rfl ?_
 refine wc_seq ?_
 refine wc_region ?_
 refine wl_val (v_assign' (by conv => (lhs; whnf))) rfl ?_
 refine wl_nil ?_
 refine then_go ?_
 refine wc_seq ?_
 refine wc_region ?_
 refine wl_val (v_move' (by conv => (lhs; whnf))) rfl ?_
 refine wl_val (v_move' (by conv => (lhs; whnf))) rfl ?_
 refine wl_val (v_nil rfl) rfl ?_
 refine wl_val (v_fa TF.f91_2 rfl) rfl ?_
 refine wl_val (v_load rfl (by first | exact st.reads 0 rfl TF.t3 rfl | exact st.reads 1 rfl TF.t3 rfl | exact st.reads 2 rfl TF.t3 rfl | exact st.reads 3 rfl TF.t3 rfl | exact st.reads 4 rfl TF.t3 rfl | assumption)) rfl ?_
 refine wl_val (v_eql rfl rfl) rfl ?_
 refine wl_val (v_nil rfl) rfl ?_
 refine wl_val (v_fa TF.f91_3 rfl) rfl ?_
 refine wl_store1 0 st rfl TF.t4 rfl (by conv => (lhs; whnf)) rfl (by first | exact lt_ok rfl | decide | simp) ?_
 intro w st
 have st : St m m _ _ _ (diskL b s n wv { d with down := decide (d.fuse = 0) }) := st
 refine wl_nil ?_
 refine then_go ?_
 refine wc_seq ?_
 refine wc_seq ?_
 refine wc_region ?_
 refine wl_val (v_move' (by conv => (lhs; whnf))) rfl ?_
 refine wl_val (v_nil rfl) rfl ?_
 refine wl_val (v_fa TF.f91_2 rfl) rfl ?_
 refine wl_val (v_load rfl (by first | exact st.reads 0 rfl TF.t3 rfl | exact st.reads 1 rfl TF.t3 rfl | exact st.reads 2 rfl TF.t3 rfl | exact st.reads 3 rfl TF.t3 rfl | exact st.reads 4 rfl TF.t3 rfl | assumption)) rfl ?_
 refine wl_val (v_gtr rfl rfl) rfl ?_
 refine wl_nil ?_
 refine then_go ?_
 refine wc_if rfl (fun h15 => ?_) (fun h15 => ?_)
 ·refine wc_region ?_
  refine wl_val (v_move' (by conv => (lhs; whnf))) rfl ?_
  refine wl_val (v_nil rfl) rfl ?_
  refine wl_val (v_fa TF.f91_2 rfl) rfl ?_
  refine wl_val (v_load rfl (by first | exact st.reads 0 rfl TF.t3 rfl | exact st.reads 1 rfl TF.t3 rfl | exact st.reads 2 rfl TF.t3 rfl | exact st.reads 3 rfl TF.t3 rfl | exact st.reads 4 rfl TF.t3 rfl | assumption)) rfl ?_
  refine wl_val (v_sub' rfl rfl rfl (by first | omega | (dsimp only at *; omega)) (by first | omega | (dsimp only at *; omega))) rfl ?_
  refine wl_val (v_nil rfl) rfl ?_
  refine wl_val (v_fa TF.f91_2 rfl) rfl ?_
  refine wl_store1 0 st rfl TF.t3 rfl (by conv => (lhs; whnf)) rfl (by first | exact lt_ok rfl | decide | simp) ?_
  intro w st
  have st : St m m _ _ _ (diskL b s n wv { d with down := decide (d.fuse = 0), fuse := d.fuse - 1 }) := st
  refine wl_nil ?_
  refine then_go ?_
  refine wc_seq ?_
  refine wc_region ?_
  refine wl_val (v_move' (by conv => (lhs; whnf))) rfl ?_
  refine wl_val (v_nil rfl) rfl ?_
  refine wl_val (v_fa TF.f91_3 rfl) rfl ?_
  refine wl_val (v_load rfl (by first | exact st.reads 0 rfl TF.t4 rfl | exact st.reads 1 rfl TF.t4 rfl | exact st.reads 2 rfl TF.t4 rfl | exact st.reads 3 rfl TF.t4 rfl | exact st.reads 4 rfl TF.t4 rfl | assumption)) rfl ?_
  refine wl_val (v_assign' (by conv => (lhs; whnf))) rfl ?_
  refine wl_nil ?_
  refine then_go ?_
  refine wc_ret ?_
  exact ret1 rfl ⟨wv, { d with down := decide (d.fuse = 0), fuse := d.fuse - 1 }, (St.finish (Es := []) st).1, (St.finish (Es := []) st).2, by simp [burn, h15], rfl⟩
 ·refine wc_skip ?_
  refine then_go ?_
  refine wc_seq ?_
  refine wc_region ?_
  refine wl_val (v_move' (by conv => (lhs; whnf))) rfl ?_
  refine wl_val (v_nil rfl) rfl ?_
  refine wl_val (v_fa TF.f91_3 rfl) rfl ?_
  refine wl_val (v_load rfl (by first | exact st.reads 0 rfl TF.t4 rfl | exact st.reads 1 rfl TF.t4 rfl | exact st.reads 2 rfl TF.t4 rfl | exact st.reads 3 rfl TF.t4 rfl | exact st.reads 4 rfl TF.t4 rfl | assumption)) rfl ?_
  refine wl_val (v_assign' (by conv => (lhs; whnf))) rfl ?_
  refine wl_nil ?_
  refine then_go ?_
  refine wc_ret ?_
  exact ret1 rfl ⟨wv, { d with down := decide (d.fuse = 0) }, (St.finish (Es := []) st).1, (St.finish (Es := []) st).2, by simp [burn, h15], rfl⟩
theorem wtCells_snoc (l : List (Nat × By)) (x : Nat × By) : wtCells (l ++ [x]) = wtCells l ++ (Value.int .i64 x.1 :: bs x.2) := by simp [wtCells]
theorem disk_call {m0 : Mem} {F : List Nat} {w0 : World} {Es : List Ent} {f : FuncId} {args : List Value} {R : Value → DS → Prop} (st : St m0 m F w0 w (diskO b s n wv d :: Es)) (h : DiskCall f args b s n wv d w R) :
  Ret Tryz.prog f (.pointer (some ⟨b, 0, none⟩) :: args).toArray w fun v w' => ∃ wv' d', St m0 m F w0 w' (diskO b s n wv' d' :: Es) ∧ R v d' :=
 h.mono fun _ _ ⟨wv', d', t, hE, hR⟩ => ⟨wv', d', st.step 0 rfl t hE, hR⟩
theorem c_write {v : Value} {l : By} (i : Int) (him : Im m w) (hE : (diskO b s n wv d).holds w) (hm : ∀ k ∈ (diskO b s n wv d).foot, m k = none) (ok : d.ok n) (hf : -1 ≤ d.fuse ∧ d.fuse ≤ 9223372036854775807) (hfew : d.wt.length ≤ 1000000)
  (hv : SlM m v 1 l.length (bs l)) :
  DiskCall 96 [.int .i64 i, v] b s n wv d w fun v' d' => d' = (writeD d n i l).1 ∧ v' = .int .i64 (writeD d n i l).2 := by
 have hv0 := hv
 obtain ⟨hvl, va, vc, rfl, hv1⟩ := hv
 have st := St.begin him hE hm
 have hlen : (l.length : Int) ≤ 9223372036854775807 ∨ True := .inr trivial
 refine ret_of Tryz.call96 Tryz.func96 rfl Tryz.ntmps96 Tryz.results96 rfl ?_
 refine wc_seq ?_
 refine wc_region ?_
 refine wl_val (v_assign' (by conv => (lhs; whnf))) rfl ?_
 refine wl_nil ?_
 refine then_go ?_
 refine wc_seq ?_
 refine wc_seq ?_
 refine wc_region ?_
 refine wl_val (v_move' (by conv => (lhs; whnf))) rfl ?_
 refine wl_val (v_move' (by conv => (lhs; whnf))) rfl ?_
 refine wl_call rfl (c_check i (im_heapM w) (disk_snap (Es := []) st ok)) rfl ?_
 rintro v10 w' ⟨rfl, rfl⟩
 refine wl_val (v_assign' (by conv => (lhs; whnf))) rfl ?_
 refine wl_nil ?_
 refine then_go ?_
 refine wc_seq ?_
 refine wc_region ?_
 refine wl_val (v_move' (by conv => (lhs; whnf))) rfl ?_
 refine wl_val (v_neq rfl rfl) rfl ?_
 refine wl_nil ?_
 refine then_go ?_
 refine wc_if rfl (fun h12 => ?_) (fun h12 => ?_)
 ·refine wc_seq ?_
  refine wc_region ?_
  refine wl_val (v_move' (by conv => (lhs; whnf))) rfl ?_
  refine wl_val (v_assign' (by conv => (lhs; whnf))) rfl ?_
  refine wl_nil ?_
  refine then_go ?_
  refine wc_ret (then_ret ?_)
  refine ret1 (v := .int .i64 (if d.down = true then 14 else if i < 0 ∨ i ≥ n then 2 else 0)) rfl ⟨wv, d, (St.finish (Es := []) st).1, (St.finish (Es := []) st).2, ?_, ?_⟩
  ·unfold writeD
   by_cases hd : d.down = true
   ·rw [if_pos hd]
   ·rw [if_neg hd]
    by_cases hr : i < 0 ∨ i ≥ n
    ·rw [if_pos hr]
    ·exact absurd (by rw [if_neg hd, if_neg hr]) h12
  ·unfold writeD
   by_cases hd : d.down = true
   ·rw [if_pos hd]; simp [hd]
   ·rw [if_neg hd]
    by_cases hr : i < 0 ∨ i ≥ n
    ·rw [if_pos hr]; simp [hd, hr]
    ·exact absurd (by rw [if_neg hd, if_neg hr]) h12
 ·refine wc_skip ?_
  refine then_go ?_
  refine wc_seq ?_
  refine wc_seq ?_
  have hd : ¬ d.down = true := fun hd => h12 (by rw [if_pos hd]; decide)
  have hr : ¬ (i < 0 ∨ i ≥ n) := fun hr => h12 (by rw [if_neg hd, if_pos hr]; decide)
  have hun : l.length ≠ 64 → writeD d n i l = (d, 1) := fun h => by unfold writeD; rw [if_neg hd, if_neg hr, if_pos h]
  have hdo : l.length = 64 → writeD d n i l = (burn { d with wt := d.wt ++ [(i.toNat, l)] }, if (burn { d with wt := d.wt ++ [(i.toNat, l)] }).down then 14 else 0) := fun h => by unfold writeD; rw [if_neg hd, if_neg hr, if_neg (by simp [h])]
  refine wc_region ?_
  refine wl_val (v_move' (by conv => (lhs; whnf))) rfl ?_
  refine wl_val (v_len_s Tryz.underlying23 rfl) rfl ?_
  refine wl_val (v_neq rfl rfl) rfl ?_
  refine wl_nil ?_
  refine then_go ?_
  refine wc_if rfl (fun h16 => ?_) (fun h16 => ?_)
  ·refine wc_seq ?_
   refine wc_region ?_
   refine wl_val (v_assign' (by conv => (lhs; whnf))) rfl ?_
   refine wl_nil ?_
   refine then_go ?_
   refine wc_ret (then_ret ?_)
   exact ret1 (v := .int .i64 1) rfl ⟨wv, d, (St.finish (Es := []) st).1, (St.finish (Es := []) st).2, by rw [hun (by omega)], by rw [hun (by omega)]⟩
  ·refine wc_skip ?_
   refine then_go ?_
   refine wc_seq ?_
   have hl64 : l.length = 64 := by omega
   obtain ⟨vb, vo, vcap, hve, hvk, hrd⟩ := hv0.rd Tryz.prog (by simp [bs, hl64])
   cases hve
   obtain ⟨k, rfl⟩ : ∃ k : Nat, i = k := ⟨i.toNat, by omega⟩
   refine wc_draw TF.mixed ?_
   have st := st.pure (touch_drew _)
   refine fl_val 0 rfl (fun _ => (v_move' (by conv => (lhs; whnf)))) rfl (by kernel_rfl) ?_
   refine fl_val 1 rfl (fun _ => (v_move' (by conv => (lhs; whnf)))) rfl (by kernel_rfl) ?_
   refine fl_val 2 rfl (fun _ => (v_nil rfl)) rfl (by kernel_rfl) ?_
   refine fl_val 3 rfl (fun _ => (v_fa TF.f91_1 rfl)) rfl (by kernel_rfl) ?_
   refine fl_ld 4 rfl (v_load rfl (by first | exact st.reads 0 rfl TF.t89 rfl | exact st.reads 1 rfl TF.t89 rfl | exact st.reads 2 rfl TF.t89 rfl | exact st.reads 3 rfl TF.t89 rfl | exact st.reads 4 rfl TF.t89 rfl | assumption)) (by kernel_rfl) ?_
   refine fl_val 5 rfl (fun _ => (v_move' (by conv => (lhs; whnf)))) rfl (by kernel_rfl) ?_
   refine fl_val 6 rfl (fun _ => (v_move' (by conv => (lhs; whnf)))) rfl (by kernel_rfl) ?_
   refine fl_val 7 rfl (fun _ => (v_s2a Tryz.underlying104 rfl (by omega))) rfl (by kernel_rfl) ?_
   refine fl_ld 8 rfl (v_load rfl (show Reads Tryz.prog _ _ (Addr.mk vb (vo + 0) none) (arr l) from hrd st.im TF.t104 (getV_all (by rw [List.size_toArray, length_bs, hl64])))) (by kernel_rfl) ?_
   refine fl_val 9 rfl (fun _ => (v_build (c' := (Value.int .i64 k :: bs l).toArray) [(0, .int .i64 k), (1, .agg (bs l).toArray)] TF.z106 TF.p106 rfl (fill_one [] [.int .i64 0] (List.replicate 64 (.int .u8 0)) rfl rfl rfl (fill_one [.int .i64 k] (List.replicate 64 (.int .u8 0)) [] rfl rfl (by simp [Value.cells, bs, hl64]) (by simp [FillR, Value.cells]))))) rfl (by kernel_rfl) ?_
   refine fl_eff1 10 [7, 6, 5, 3, 2, 1, 0] [8, 4] (by kernel_rfl) ⟨obl_ld rfl rfl rfl (v_load rfl (show Reads Tryz.prog _ _ (Addr.mk vb (vo + 0) none) (arr l) from hrd st.im TF.t104 (getV_all (by rw [List.size_toArray, length_bs, hl64])))), obl_ld rfl rfl rfl (v_load rfl (by first | exact st.reads 0 rfl TF.t89 rfl | exact st.reads 1 rfl TF.t89 rfl | exact st.reads 2 rfl TF.t89 rfl | exact st.reads 3 rfl TF.t89 rfl | exact st.reads 4 rfl TF.t89 rfl | assumption)), trivial⟩ rfl ?_
   refine wl_buildSlice (c' := (Value.int .i64 k :: bs l).toArray) [(0, .agg (Value.int .i64 k :: bs l).toArray)] Tryz.underlying89 TF.t106 TF.z106 (by decide) (by decide) rfl ⟨0, 65, rfl, by simp [Value.cells, bs, hl64], by simp [Value.cells, size_madeCells], setSeg_all (by simp [Value.cells, bs, hl64, size_madeCells])⟩ st rfl ?_
   intro b27 w st
   refine wl_nil ⟨rfl, ?_⟩
   refine fl_eff1 11 [7, 6, 5, 3, 2, 1, 0] [8] (by kernel_rfl) ⟨obl_ld rfl rfl rfl (v_load rfl (show Reads Tryz.prog _ _ (Addr.mk vb (vo + 0) none) (arr l) from hrd st.im TF.t104 (getV_all (by rw [List.size_toArray, length_bs, hl64])))), obl_ld rfl rfl rfl (v_load rfl (by first | exact st.reads 0 rfl TF.t89 rfl | exact st.reads 1 rfl TF.t89 rfl | exact st.reads 2 rfl TF.t89 rfl | exact st.reads 3 rfl TF.t89 rfl | exact st.reads 4 rfl TF.t89 rfl | assumption)), trivial⟩ rfl ?_
   refine wl_append 3 st rfl Tryz.underlying89 Tryz.underlying89 (.inr ⟨_, rfl⟩) TF.t106 TF.z106 (by simp [Value.cells]) rfl rfl (st.srcArr (news := Value.int .i64 k :: bs l) 0 rfl (by simp [bs, hl64]) (fun j u hj => by simpa using hj) (fun u hu => by rcases List.mem_cons.1 hu with rfl | hu; rfl; exact one_bs _ u hu)) (by omega) (by omega) rfl ?_
   intro wv' w _ st
   refine wl_nil ⟨rfl, ?_⟩
   refine fl_val 12 rfl (fun _ => (v_nil rfl)) rfl (by kernel_rfl) ?_
   refine fl_val 13 rfl (fun _ => (v_fa TF.f91_1 rfl)) rfl (by kernel_rfl) ?_
   refine fl_eff1 14 [12] [] (by kernel_rfl) ⟨obl_ld rfl rfl rfl (v_load rfl (show Reads Tryz.prog _ _ (Addr.mk vb (vo + 0) none) (arr l) from hrd st.im TF.t104 (getV_all (by rw [List.size_toArray, length_bs, hl64])))), trivial⟩ rfl ?_
   refine wl_store1 1 st rfl TF.t89 rfl rfl (row_one (st.at (i := 3) rfl)) (by simp) ?_
   intro w st
   have st := st.drop 0
   have e1 : d.wt.length + 1 = (d.wt ++ [((k : Int).toNat, l)]).length := by simp
   have e2 : wtCells d.wt ++ (Value.int .i64 k :: bs l) = wtCells (d.wt ++ [((k : Int).toNat, l)]) := by rw [wtCells_snoc]; simp
   rw [e1, e2] at st
   have st : St m m (joinE (diskL b s n wv d)).foot _ w (diskL b s n wv' { d with wt := d.wt ++ [((k : Int).toNat, l)] } ++ []) := st
   have st := st.join
   refine wl_nil ⟨rfl, ?_⟩
   refine fl_nil (by kernel_rfl) trivial ?_
   refine then_go ?_
   refine wc_seq ?_
   refine wc_seq ?_
   refine wc_region ?_
   refine wl_val (v_move' (by conv => (lhs; whnf))) rfl ?_
   refine wl_call rfl (disk_call st (c_burns st.im (st.at (i := 0) rfl) (st.none (i := 0) rfl) hf)) rfl ?_
   rintro v32 w ⟨wv3, d3, st, rfl, rfl⟩
   refine wl_nil ?_
   refine then_go ?_
   refine wc_cond rfl (fun h32 => ?_) (fun h32 => ?_)
   ·refine wc_seq ?_
    refine wc_region ?_
    refine wl_val (v_assign' (by conv => (lhs; whnf))) rfl ?_
    refine wl_nil ?_
    refine then_go ?_
    refine wc_ret (then_ret ?_)
    exact ret1 (v := .int .i64 14) rfl ⟨wv3, _, (St.finish (Es := []) st.split).1, (St.finish (Es := []) st.split).2, by rw [hdo hl64], by rw [hdo hl64]; simp only [h32, if_true]⟩
   ·refine wc_skip ?_
    refine then_go ?_
    refine wc_seq ?_
    refine wc_region ?_
    refine wl_val (v_assign' (by conv => (lhs; whnf))) rfl ?_
    refine wl_nil ?_
    refine then_go ?_
    refine wc_ret ?_
    exact ret1 (v := .int .i64 0) rfl ⟨wv3, _, (St.finish (Es := []) st.split).1, (St.finish (Es := []) st.split).2, by rw [hdo hl64], by rw [hdo hl64]; simp only [h32, Bool.false_eq_true, if_false]⟩
theorem setSeg_bs {S l : By} {o : Nat} : setSeg (bs S).toArray o (bs l) = (bs (splice S o l)).toArray := by
 apply Array.ext'
 simp [setSeg, splice, bs, List.map_take, List.map_drop]
theorem st_nil {m0 : Mem} {F : List Nat} {w0 : World} {Es : List Ent} {v : Value} {e size k : Nat} {xs : List Value} (st : St m0 m F w0 w Es) (i : Nat) (hi : Es[i]? = some (rowE v e size k xs)) : St m0 m F w0 w (Es.set i (rowE (.slice none 0 0) e size 0 [])) :=
 st.step i hi ⟨rfl, rfl, rfl, Nat.le_refl _, fun _ _ _ => rfl, by simp [rowE, Value.ownBlock]⟩ ⟨by simp, .inl ⟨rfl, rfl⟩⟩
def dumpK (d : DS) (k : Nat) : By := (d.wt.take k).foldl (fun S x => splice S (64 * x.1) x.2) d.S
theorem dumpK_succ (d : DS) (k : Nat) (h : k < d.wt.length) : dumpK d (k + 1) = splice (dumpK d k) (64 * d.wt[k].1) d.wt[k].2 := by
 unfold dumpK
 rw [List.take_succ_eq_append_getElem h, List.foldl_append]
 rfl
theorem length_dumpK {d : DS} {n : Nat} (ok : d.ok n) : ∀ k, k ≤ d.wt.length → (dumpK d k).length = 64 * n
 | 0, _ => by simp [dumpK, ok.len]
 | k + 1, h => by
  have ih := length_dumpK ok k (by omega)
  have hx := ok.wt d.wt[k] (List.getElem_mem _)
  rw [dumpK_succ d k (by omega), length_splice (by rw [ih, hx.2]; omega), ih]
theorem c_sync (him : Im m w) (hE : (diskO b s n wv d).holds w) (hm : ∀ k ∈ (diskO b s n wv d).foot, m k = none) (ok : d.ok n) (hf : -1 ≤ d.fuse ∧ d.fuse ≤ 9223372036854775807) (hfew : d.wt.length ≤ 1000000) :
  DiskCall 97 [] b s n wv d w fun v' d' => d' = (syncD d).1 ∧ v' = .int .i64 (syncD d).2 := by
 have st := St.begin him hE hm
 have ok' := ok.wt
 refine ret_of Tryz.call97 Tryz.func97 rfl Tryz.ntmps97 Tryz.results97 rfl ?_
 refine wc_seq ?_
 refine wc_region ?_
 refine wl_val (v_assign' (by conv => (lhs; whnf))) rfl ?_
 refine wl_nil ?_
 refine then_go ?_
 refine wc_seq ?_
 refine wc_seq ?_
 refine wc_region ?_
 refine wl_val (v_move' (by conv => (lhs; whnf))) rfl ?_
 refine wl_val (v_nil rfl) rfl ?_
 refine wl_val (v_fa TF.f91_3 rfl) rfl ?_
 refine wl_val (v_load rfl (by first | exact st.reads 0 rfl TF.t4 rfl | exact st.reads 1 rfl TF.t4 rfl | exact st.reads 2 rfl TF.t4 rfl | exact st.reads 3 rfl TF.t4 rfl | exact st.reads 4 rfl TF.t4 rfl | assumption)) rfl ?_
 refine wl_val (v_move' (by conv => (lhs; whnf))) rfl ?_
 rcases Bool.eq_false_or_eq_true (d.down) with hg4 | hg4
 ·rw [hg4]
  refine wl_off rfl rfl rfl rfl ?_
  refine wl_off rfl rfl rfl rfl ?_
  refine wl_val (v_pick rfl) rfl ?_
  refine wl_nil ?_
  refine then_go ?_
  refine wc_true rfl ?_
  refine wc_seq ?_
  refine wc_region ?_
  refine wl_val (v_assign' (by conv => (lhs; whnf))) rfl ?_
  refine wl_nil ?_
  refine then_go ?_
  refine wc_ret (then_ret ?_)
  exact ret1 (v := .int .i64 14) rfl ⟨wv, d, (St.finish (Es := []) st).1, (St.finish (Es := []) st).2, by simp [syncD, hg4], by simp [syncD, hg4]⟩
 ·rw [hg4]
  refine wl_on rfl rfl ?_
  refine wl_val (v_move' (by conv => (lhs; whnf))) rfl ?_
  refine wl_on rfl rfl ?_
  have st : St m m (joinE (diskL b s n wv d)).foot w w (diskL b s n wv d ++ []) := st
  have st := st.join
  refine wl_call rfl (disk_call st (c_burns st.im (st.at (i := 0) rfl) (st.none (i := 0) rfl) hf)) rfl ?_
  rintro v32 w1 ⟨wv3, d3, st, rfl, rfl⟩
  refine wl_val (v_pick rfl) rfl ?_
  refine wl_nil ?_
  refine then_go ?_
  refine wc_cond rfl (fun h12 => ?_) (fun h12 => ?_)
  ·refine wc_seq ?_
   refine wc_region ?_
   refine wl_val (v_assign' (by conv => (lhs; whnf))) rfl ?_
   refine wl_nil ?_
   refine then_go ?_
   refine wc_ret (then_ret ?_)
   have h12' : d.fuse = 0 := by simpa [burn] using h12
   exact ret1 (v := .int .i64 14) rfl ⟨wv3, _, (St.finish (Es := []) st.split).1, (St.finish (Es := []) st.split).2, by simp [syncD, hg4, h12'], by simp [syncD, hg4, h12']⟩
  ·refine wc_skip ?_
   refine then_go ?_
   refine wc_seq ?_
   refine wc_seq ?_
   have hf0 : ¬ d.fuse = 0 := by
    intro h
    have : (burn d).down = true := by simp [burn, h]
    rw [h12] at this
    cases this
   have st : St m m (joinE (diskL b s n wv d)).foot w w1 (diskL b s n wv3 (burn d)) := by have := st.split; rwa [List.append_nil] at this
   obtain ⟨hnil, wa, wc, hwv, hk3, hn3⟩ : ∃ (_ : True) (wa : Option Addr) (wc : Nat), wv3 = .slice wa d.wt.length wc ∧ d.wt.length ≤ wc ∧ True := by
    obtain ⟨_, a, c, h1, h2, _⟩ := row_SlM (m := heapM w1) (st.at (i := 2) rfl) fun _ _ _ h => h
    exact ⟨trivial, a, c, h1, h2, trivial⟩
   subst hwv
   refine wc_region ?_
   refine wl_val (v_move' (by conv => (lhs; whnf))) rfl ?_
   refine wl_val (v_nil rfl) rfl ?_
   refine wl_val (v_fa TF.f91_1 rfl) rfl ?_
   refine wl_val (v_load rfl (by first | exact st.reads 0 rfl TF.t89 rfl | exact st.reads 1 rfl TF.t89 rfl | exact st.reads 2 rfl TF.t89 rfl | exact st.reads 3 rfl TF.t89 rfl | exact st.reads 4 rfl TF.t89 rfl | assumption)) rfl ?_
   refine wl_val (v_len_s Tryz.underlying89 rfl) rfl ?_
   refine wl_val (v_move' (by conv => (lhs; whnf))) rfl ?_
   refine wl_nil ?_
   refine then_go ?_
   refine wc_block ?_
   refine wc_loop (S := Nat) (fun k r w' => ∃ j, k + j = d.wt.length ∧ r 0 = .pointer (some ⟨b, 0, none⟩) ∧ r 16 = .slice wa d.wt.length wc ∧ r 17 = .int .i64 d.wt.length ∧ r 18 = .int .i64 j ∧
    St m m (joinE (diskL b s n wv d)).foot w w' (diskL b s n (.slice wa d.wt.length wc) { burn d with S := dumpK d j })) id d.wt.length ⟨0, rfl, rfl, rfl, rfl, rfl, st⟩ ?_
   rintro k r w2 ⟨j, hkj, h0, h16, h17, h18, st⟩
   refine wc_o 0 h0 (wc_o 16 h16 (wc_o 17 h17 (wc_o 18 h18 ?_)))
   refine wc_seq ?_
   refine wc_region ?_
   refine wl_val (v_lss rfl rfl) rfl ?_
   refine wl_nil ?_
   refine then_go ?_
   refine wc_seq ?_
   refine wc_if rfl (fun h19 => ?_) (fun h19 => ?_)
   ·refine wc_skip ?_
    refine then_go ?_
    refine wc_seq ?_
    refine wc_block ?_
    refine wc_seq ?_
    have hj : j < d.wt.length := by omega
    obtain ⟨wb, wo, wcap, hv, _, hrd⟩ := (row_SlM (m := heapM w2) (st.at (i := 2) rfl) fun _ _ _ h => h).elem Tryz.prog (i := j) hj (by omega)
    cases hv
    have hel := wt_elem (fun x hx => (ok' x hx).2) hj
    have hx := ok' d.wt[j] (List.getElem_mem _)
    refine wc_region ?_
    refine wl_val (v_ias j Tryz.underlying89 TF.t106 rfl rfl (by first | rfl | omega) (by first | omega | (dsimp only at *; omega))) rfl ?_
    refine wl_val (v_load rfl (hrd (im_heapM _) (off := 0) TF.t106 (getV_all (by show ((cellsAt (wtCells d.wt) 65 j).toArray).size = 65; rw [hel]; simp [bs, hx.2])))) rfl ?_
    refine wl_alloc TF.z106 st rfl ?_
    intro b4 w st
    refine wl_storeW 0 st rfl TF.t106 rfl rfl (by show ((cellsAt (wtCells d.wt) 65 j).toArray).size = 65; rw [hel]; simp [bs, hx.2]) (by simp [Value.cells]) (fun u hu => by
     have hu' : u ∈ cellsAt (wtCells d.wt) 65 j := (by simpa using hu : u ∈ cellsAt (wtCells (burn d).wt) 65 j)
     rw [hel] at hu'
     rcases List.mem_cons.1 hu' with rfl | hu'
     ·rfl
     ·exact one_bs _ u hu') ?_
    intro w st
    have hel' : cellsAt (wtCells (burn d).wt) 65 j = Value.int .i64 d.wt[j].1 :: bs d.wt[j].2 := hel
    change St _ _ _ _ _ (blk b4 (cellsAt (wtCells (burn d).wt) 65 j).toArray 106 :: diskL b s n (.slice (some ⟨wb, wo, none⟩) d.wt.length wc) { burn d with S := dumpK d j }) at st
    rw [hel'] at st
    refine wl_nil ?_
    refine then_go ?_
    refine wc_draw TF.mixed ?_
    have st := st.pure (touch_drew _)
    refine fl_val 0 rfl (fun _ => (v_move' (by conv => (lhs; whnf)))) rfl (by kernel_rfl) ?_
    refine fl_val 1 rfl (fun _ => (v_nil rfl)) rfl (by kernel_rfl) ?_
    refine fl_val 2 rfl (fun _ => (v_fa TF.f91_0 rfl)) rfl (by kernel_rfl) ?_
    refine fl_ld 3 rfl (v_load rfl (by first | exact st.reads 0 rfl TF.t88 rfl | exact st.reads 1 rfl TF.t88 rfl | exact st.reads 2 rfl TF.t88 rfl | exact st.reads 3 rfl TF.t88 rfl | exact st.reads 4 rfl TF.t88 rfl | assumption)) (by kernel_rfl) ?_
    refine fl_val 4 rfl (fun _ => (v_fa TF.f106_0 rfl)) rfl (by kernel_rfl) ?_
    refine fl_ld 5 rfl (v_load rfl (by first | exact st.rdp 0 rfl (by exact rfl) TF.t3 (by exact rfl) | exact st.rdp 1 rfl (by exact rfl) TF.t3 (by exact rfl) | exact st.rdp 2 rfl (by exact rfl) TF.t3 (by exact rfl) | exact st.rdp 3 rfl (by exact rfl) TF.t3 (by exact rfl) | exact st.rdp 4 rfl (by exact rfl) TF.t3 (by exact rfl) | exact st.rdp 5 rfl (by exact rfl) TF.t3 (by exact rfl) | exact st.rdp 6 rfl (by exact rfl) TF.t3 (by exact rfl) | exact st.rdp 7 rfl (by exact rfl) TF.t3 (by exact rfl))) (by kernel_rfl) ?_
    refine fl_val 6 rfl (fun _ => (v_fa TF.f106_1 rfl)) rfl (by kernel_rfl) ?_
    refine fl_ld 7 rfl (v_load rfl (st.reads 0 rfl TF.t104 (getV_tl (by simp [bs, hx.2])))) (by kernel_rfl) ?_
    refine fl_val 8 rfl (fun _ => (v_ias (d.wt[j].1) Tryz.underlying88 TF.t104 rfl rfl (by first | rfl | omega) hx.1)) rfl (by kernel_rfl) ?_
    refine fl_eff1 9 [] [] (by kernel_rfl) ⟨obl_ld rfl rfl rfl (v_load rfl (st.reads 0 rfl TF.t104 (getV_tl (by simp [bs, hx.2])))), obl_ld rfl rfl rfl (v_load rfl (by first | exact st.rdp 0 rfl (by exact rfl) TF.t3 (by exact rfl) | exact st.rdp 1 rfl (by exact rfl) TF.t3 (by exact rfl) | exact st.rdp 2 rfl (by exact rfl) TF.t3 (by exact rfl) | exact st.rdp 3 rfl (by exact rfl) TF.t3 (by exact rfl) | exact st.rdp 4 rfl (by exact rfl) TF.t3 (by exact rfl) | exact st.rdp 5 rfl (by exact rfl) TF.t3 (by exact rfl) | exact st.rdp 6 rfl (by exact rfl) TF.t3 (by exact rfl) | exact st.rdp 7 rfl (by exact rfl) TF.t3 (by exact rfl))), obl_ld rfl rfl rfl (v_load rfl (by first | exact st.reads 0 rfl TF.t88 rfl | exact st.reads 1 rfl TF.t88 rfl | exact st.reads 2 rfl TF.t88 rfl | exact st.reads 3 rfl TF.t88 rfl | exact st.reads 4 rfl TF.t88 rfl | assumption)), trivial⟩ rfl ?_
    have hlS : (dumpK d j).length = 64 * n := length_dumpK ok j (by omega)
    refine wl_store (v := .agg (bs d.wt[j].2).toArray) 2 st rfl TF.t104 rfl rfl (by simp [Value.cells, bs, hx.2]) (fun u hu => one_bs _ u (by simpa [Value.cells] using hu)) (by simp [bs, hlS]; omega) ?_
    intro w st
    have e : setSeg (bs (dumpK d j)).toArray (0 + d.wt[j].1 * 64) (Value.agg (bs d.wt[j].2).toArray).cells.toList = (bs (dumpK d (j + 1))).toArray := by
     rw [dumpK_succ d j hj, show 0 + d.wt[j].1 * 64 = 64 * d.wt[j].1 by omega]
     exact setSeg_bs
    have st := st.drop 0
    change St _ _ _ _ _ [_, blk s (setSeg (bs (dumpK d j)).toArray (0 + d.wt[j].1 * 64) (Value.agg (bs d.wt[j].2).toArray).cells.toList) _, _] at st
    rw [e] at st
    change St _ _ _ _ _ (diskL b s n (.slice (some ⟨wb, wo, none⟩) d.wt.length wc) { burn d with S := dumpK d (j + 1) }) at st
    refine wl_nil ⟨rfl, ?_⟩
    refine fl_nil (by kernel_rfl) trivial ?_
    refine block_go (then_go ?_)
    refine wc_region ?_
    refine wl_val (v_add' rfl rfl rfl (by first | omega | (dsimp only at *; omega)) (by first | omega | (dsimp only at *; omega))) rfl ?_
    refine wl_val (v_move' (by conv => (lhs; whnf))) rfl ?_
    refine wl_nil ?_
    refine then_go ?_
    exact ⟨k - 1, by simp; omega, j + 1, by omega, rfl, rfl, rfl, rfl, st⟩
   ·refine wc_exit (then_exit (then_exit (block_hit ?_)))
    refine then_go ?_
    refine wc_seq ?_
    refine wc_region ?_
    refine wl_val (v_move' (by conv => (lhs; whnf))) rfl ?_
    refine wl_val (v_nil rfl) rfl ?_
    refine wl_val (v_fa TF.f91_1 rfl) rfl ?_
    refine wl_store1 0 st rfl TF.t89 rfl rfl rfl (by simp) ?_
    intro w st
    have hjl : j = d.wt.length := by omega
    subst hjl
    have st := st_nil st 2 rfl
    have e : dumpK d d.wt.length = dump d := by simp [dumpK, dump]
    change St _ _ _ _ _ (diskL b s n (.slice none 0 0) { burn d with S := dumpK d d.wt.length, wt := [] }) at st
    rw [e] at st
    refine wl_nil ?_
    refine then_go ?_
    refine wc_seq ?_
    refine wc_region ?_
    refine wl_val (v_assign' (by conv => (lhs; whnf))) rfl ?_
    refine wl_nil ?_
    refine then_go ?_
    refine wc_ret ?_
    exact ret1 (v := .int .i64 0) rfl ⟨_, _, (St.finish (Es := []) st).1, (St.finish (Es := []) st).2, by simp [syncD, hg4, hf0], by simp [syncD, hg4, hf0]⟩
end
end Go.Proofs.YtladpaehbolghaaGreat

namespace Go.Proofs.YtladpaehbolghaaGreat
open Go Go.RowKit K DK
section
variable {m : Mem} {w : World} {b s n : Nat} {wv : Value} {d : DS}
def NewBytes (w w' : World) (v : Value) (l : By) : Prop := ∃ m1, Fresh m1 w ∧ Im m1 w' ∧ SlM m1 v 1 l.length (bs l)
theorem dumpK_all (d : DS) : dumpK d d.wt.length = dump d := by simp [dumpK, dump]
theorem setSeg_sp {S l : By} {sp : List Value} {o : Nat} (h : o + l.length ≤ S.length) : setSeg (bs S ++ sp).toArray o (bs l) = (bs (splice S o l) ++ sp).toArray := by
 apply Array.ext'
 simp only [setSeg, splice, bs, List.map_append, List.map_take, List.map_drop, List.length_map]
 rw [List.take_append_of_le_length (by simp; omega), List.drop_append_of_le_length (by simp; omega)]
 simp
theorem c_dump {wI : World} (him : Im m wI) (hd : diskM m b n d) :
  Ret Tryz.prog 24 #[.pointer (some ⟨b, 0, none⟩)] wI fun v w' => Tch wI w' [] [] ∧ NewBytes wI w' v (dump d) := by
 obtain ⟨ok, ⟨s, wv, hb, hs, hw⟩, hf⟩ := hd
 have st := St.start him
 have hw0 := hw
 obtain ⟨hwl, wa, wc, rfl, hw1⟩ := hw
 have ok1 := ok.pos
 have ok2 := ok.le
 have ok3 := ok.len
 have ok' := ok.wt
 refine ret_of Tryz.call24 Tryz.func24 rfl Tryz.ntmps24 Tryz.results24 rfl ?_
 refine wc_seq ?_
 refine wc_region ?_
 refine wl_val (v_assign' (by conv => (lhs; whnf))) rfl ?_
 refine wl_nil ?_
 refine then_go ?_
 refine wc_seq ?_
 refine wc_region ?_
 refine wl_val (v_move' (by conv => (lhs; whnf))) rfl ?_
 refine wl_val (v_nil rfl) rfl ?_
 refine wl_val (v_fa TF.f91_0 rfl) rfl ?_
 refine wl_val (v_load rfl (st.readm hb TF.t88 rfl)) rfl ?_
 refine wl_val (v_len_s Tryz.underlying88 rfl) rfl ?_
 refine wl_val (v_mul' rfl rfl rfl (by first | omega | (dsimp only at *; omega)) (by first | omega | (dsimp only at *; omega))) rfl ?_
 refine wl_make (l := 0) (c := n * 64) Tryz.underlying23 TF.t5 TF.z5 rfl rfl rfl (by simp) (by omega) (by omega) (by omega) (by omega) st rfl ?_
 intro b3 w st
 have st := st.rowShut 0 (k := 0) (cap := n * 64) (size := 1) (xs := []) rfl (by omega) (by simp [size_madeCells]) (by omega) (by simp)
 refine wl_val (v_assign' (by conv => (lhs; whnf))) rfl ?_
 refine wl_nil ?_
 refine then_go ?_
 refine wc_seq ?_
 refine wc_region ?_
 refine wl_val (v_move' (by conv => (lhs; whnf))) rfl ?_
 refine wl_val (v_nil rfl) rfl ?_
 refine wl_val (v_fa TF.f91_0 rfl) rfl ?_
 refine wl_val (v_load rfl (st.readm hb TF.t88 rfl)) rfl ?_
 have st := st.new (E := rowE (.slice none 0 0) 104 64 0 []) ⟨rfl, rfl, rfl, Nat.le_refl _, fun _ _ _ => rfl, by simp [rowE, Value.ownBlock]⟩ ⟨by simp, .inl ⟨rfl, rfl⟩⟩
 refine wl_append 0 st rfl Tryz.underlying88 Tryz.underlying88 (.inr ⟨_, rfl⟩) TF.t104 TF.z104 (by simp [Value.cells]) rfl rfl ((SlM.of (o := 0) (k := n) (cap := n) (size := 64) (xs := bs d.S) hs (by simp [bs, ok3]; omega) (Nat.le_refl _) (fun j u hj => by simpa using hj)).src st.im (one_bs _)) (by omega) (by omega) rfl ?_
 intro lv w _ st
 rw [Nat.zero_add, List.nil_append] at st
 obtain ⟨g, cap, sp, rfl, hgc, hsp, hcap, st⟩ := st.rowOpen 0 rfl (by omega)
 change St _ _ _ _ _ [blk g (bs d.S ++ sp).toArray 104, rowE (.slice (some ⟨b3, 0, none⟩) 0 (n * 64)) 5 1 0 []] at st
 refine wl_val (v_assign' (by conv => (lhs; whnf))) rfl ?_
 refine wl_nil ?_
 refine then_go ?_
 refine wc_seq ?_
 refine wc_seq ?_
 refine wc_region ?_
 refine wl_val (v_move' (by conv => (lhs; whnf))) rfl ?_
 refine wl_val (v_nil rfl) rfl ?_
 refine wl_val (v_fa TF.f91_1 rfl) rfl ?_
 refine wl_val (v_load rfl (st.readm hb TF.t89 rfl)) rfl ?_
 refine wl_val (v_len_s Tryz.underlying89 rfl) rfl ?_
 refine wl_val (v_move' (by conv => (lhs; whnf))) rfl ?_
 refine wl_nil ?_
 refine then_go ?_
 refine wc_block ?_
 refine wc_loop (S := Nat) (fun k r w' => ∃ j, k + j = d.wt.length ∧ r 3 = .slice (some ⟨b3, 0, none⟩) 0 (n * 64) ∧ r 4 = .slice (some ⟨g, 0, none⟩) n cap ∧ r 24 = .slice wa d.wt.length wc ∧ r 25 = .int .i64 d.wt.length ∧ r 26 = .int .i64 j ∧
  St m m [] wI w' [blk g (bs (dumpK d j) ++ sp).toArray 104, rowE (.slice (some ⟨b3, 0, none⟩) 0 (n * 64)) 5 1 0 []]) id d.wt.length ⟨0, rfl, rfl, rfl, rfl, rfl, rfl, st⟩ ?_
 rintro k r w2 ⟨j, hkj, h3, h4, h24, h25, h26, st⟩
 refine wc_o 3 h3 (wc_o 4 h4 (wc_o 24 h24 (wc_o 25 h25 (wc_o 26 h26 ?_))))
 refine wc_seq ?_
 refine wc_region ?_
 refine wl_val (v_lss rfl rfl) rfl ?_
 refine wl_nil ?_
 refine then_go ?_
 refine wc_seq ?_
 refine wc_if rfl (fun h27 => ?_) (fun h27 => ?_)
 ·refine wc_skip ?_
  refine then_go ?_
  refine wc_seq ?_
  refine wc_block ?_
  refine wc_seq ?_
  have hj : j < d.wt.length := by omega
  obtain ⟨wb, wo, wcap, hv, _, hrd⟩ := hw0.elem Tryz.prog (i := j) hj (by omega)
  cases hv
  have hel : cellsAt (wtCells d.wt) 65 j = Value.int .i64 d.wt[j].1 :: bs d.wt[j].2 := wt_elem (fun x hx => (ok' x hx).2) hj
  have hx := ok' d.wt[j] (List.getElem_mem _)
  refine wc_region ?_
  refine wl_val (v_ias j Tryz.underlying89 TF.t106 rfl rfl (by first | rfl | omega) (by first | omega | (dsimp only at *; omega))) rfl ?_
  refine wl_val (v_load rfl (hrd st.im (off := 0) TF.t106 (getV_all (by rw [hel]; simp [bs, hx.2])))) rfl ?_
  refine wl_alloc TF.z106 st rfl ?_
  intro b6 w st
  refine wl_storeW 0 st rfl TF.t106 rfl rfl (by rw [hel]; simp [bs, hx.2]) (by simp [Value.cells]) (fun u hu => by
   rw [hel] at hu
   rcases List.mem_cons.1 (List.mem_toArray.1 (by simpa using hu)) with rfl | hu'
   ·rfl
   ·exact one_bs _ u hu') ?_
  intro w st
  rw [hel] at st
  refine wl_nil ?_
  refine then_go ?_
  refine wc_region ?_
  refine wl_val (v_move' (by conv => (lhs; whnf))) rfl ?_
  refine wl_val (v_fa TF.f106_0 rfl) rfl ?_
  refine wl_val (v_load rfl (by first | exact st.rdp 0 rfl (by exact rfl) TF.t3 (by exact rfl) | exact st.rdp 1 rfl (by exact rfl) TF.t3 (by exact rfl) | exact st.rdp 2 rfl (by exact rfl) TF.t3 (by exact rfl) | exact st.rdp 3 rfl (by exact rfl) TF.t3 (by exact rfl) | exact st.rdp 4 rfl (by exact rfl) TF.t3 (by exact rfl) | exact st.rdp 5 rfl (by exact rfl) TF.t3 (by exact rfl) | exact st.rdp 6 rfl (by exact rfl) TF.t3 (by exact rfl) | exact st.rdp 7 rfl (by exact rfl) TF.t3 (by exact rfl))) rfl ?_
  refine wl_val (v_fa TF.f106_1 rfl) rfl ?_
  refine wl_val (v_load rfl (st.reads 0 rfl TF.t104 (getV_tl (by simp [bs, hx.2])))) rfl ?_
  refine wl_val (v_ias (d.wt[j].1) Tryz.underlying88 TF.t104 rfl rfl (by first | rfl | omega) hx.1) rfl ?_
  have hlS : (dumpK d j).length = 64 * n := length_dumpK ok j (by omega)
  refine wl_store (v := .agg (bs d.wt[j].2).toArray) 1 st rfl TF.t104 rfl rfl (by simp [Value.cells, bs, hx.2]) (fun u hu => one_bs _ u (by simpa [Value.cells] using hu)) (by simp [bs, hlS]; omega) ?_
  intro w st
  have e : setSeg (bs (dumpK d j) ++ sp).toArray (0 + d.wt[j].1 * 64) (Value.agg (bs d.wt[j].2).toArray).cells.toList = (bs (dumpK d (j + 1)) ++ sp).toArray := by
   rw [dumpK_succ d j hj, show 0 + d.wt[j].1 * 64 = 64 * d.wt[j].1 by omega]
   exact setSeg_sp (by rw [hlS, hx.2]; omega)
  rw [e] at st
  have st := st.drop 0
  refine wl_nil ?_
  refine block_go (then_go ?_)
  refine wc_region ?_
  refine wl_val (v_add' rfl rfl rfl (by first | omega | (dsimp only at *; omega)) (by first | omega | (dsimp only at *; omega))) rfl ?_
  refine wl_val (v_move' (by conv => (lhs; whnf))) rfl ?_
  refine wl_nil ?_
  refine then_go ?_
  exact ⟨k - 1, by simp; omega, j + 1, by omega, rfl, rfl, rfl, rfl, rfl, st⟩
 ·refine wc_exit (then_exit (then_exit (block_hit ?_)))
  refine then_go ?_
  refine wc_seq ?_
  refine wc_seq ?_
  have hjl : j = d.wt.length := by omega
  subst hjl
  rw [dumpK_all] at st
  have hD : (dump d).length = 64 * n := by rw [← dumpK_all]; exact length_dumpK ok _ (Nat.le_refl _)
  refine wc_region ?_
  refine wl_val (v_move' (by conv => (lhs; whnf))) rfl ?_
  refine wl_val (v_len_s Tryz.underlying88 rfl) rfl ?_
  refine wl_val (v_move' (by conv => (lhs; whnf))) rfl ?_
  refine wl_nil ?_
  refine then_go ?_
  refine wc_block ?_
  refine wc_loop (S := Nat) (fun k r w' => ∃ j v, k + j = n ∧ r 3 = v ∧ r 37 = .slice (some ⟨g, 0, none⟩) n cap ∧ r 38 = .int .i64 n ∧ r 39 = .int .i64 j ∧
   St m m [] wI w' [blk g (bs (dump d) ++ sp).toArray 104, rowE v 5 1 (64 * j) (bs ((dump d).take (64 * j)))]) id n ⟨0, _, rfl, rfl, rfl, rfl, rfl, by rw [show bs ((dump d).take (64 * 0)) = [] by simp [bs]]; exact st⟩ ?_
  rintro k r w2 ⟨j, v, hkj, h3, h37, h38, h39, st⟩
  refine wc_o 3 h3 (wc_o 37 h37 (wc_o 38 h38 (wc_o 39 h39 ?_)))
  refine wc_seq ?_
  refine wc_region ?_
  refine wl_val (v_lss rfl rfl) rfl ?_
  refine wl_nil ?_
  refine then_go ?_
  refine wc_seq ?_
  refine wc_if rfl (fun h40 => ?_) (fun h40 => ?_)
  ·refine wc_skip ?_
   refine then_go ?_
   refine wc_seq ?_
   refine wc_block ?_
   refine wc_seq ?_
   have hj : j < n := by omega
   have hsec : (sec (dump d) j).length = 64 := by simp [sec, hD]; omega
   refine wc_region ?_
   refine wl_val (v_ias j Tryz.underlying88 TF.t104 rfl rfl (by first | rfl | omega) (by first | omega | (dsimp only at *; omega))) rfl ?_
   refine wl_val (v_load rfl (st.reads 0 rfl TF.t104 (getV_seg (a := bs ((dump d).take (64 * j))) (b := bs (sec (dump d) j)) (c := bs ((dump d).drop (64 * j + 64)) ++ sp) (by rw [← List.append_assoc, ← bs_append, ← bs_append, secs_split]) (by simp [bs, hD]; omega) (by simp [bs, hsec])))) rfl ?_
   refine wl_alloc TF.z104 st rfl ?_
   intro b8 w st
   refine wl_storeW 0 st rfl TF.t104 rfl rfl (by simp [bs, hsec]) (by simp [Value.cells]) (fun u hu => one_bs _ u (by simpa using hu)) ?_
   intro w st
   refine wl_nil ?_
   refine then_go ?_
   refine wc_region ?_
   refine wl_val (v_move' (by conv => (lhs; whnf))) rfl ?_
   refine wl_val (v_slice_a (l := 0) (h := 64) Tryz.underlying104 TF.t5 rfl rfl rfl (by omega) (by omega)) rfl ?_
   refine wl_append 2 st rfl Tryz.underlying23 Tryz.underlying23 (.inr ⟨_, rfl⟩) TF.t5 TF.z5 (by simp [Value.cells]) rfl rfl (st.srcArr (off := 0) (news := bs (sec (dump d) j)) 0 rfl (by simp [bs, hsec]) (fun q u hq => by simpa using hq) (one_bs _)) (by omega) (by omega) rfl ?_
   intro ov w _ st
   have e : bs ((dump d).take (64 * j)) ++ bs (sec (dump d) j) = bs ((dump d).take (64 * (j + 1))) := by
    rw [← bs_append]
    congr 1
    unfold sec
    rw [show 64 * (j + 1) = 64 * j + 64 by omega, List.take_add]
   rw [e] at st
   have st := st.drop 0
   refine wl_val (v_assign' (by conv => (lhs; whnf))) rfl ?_
   refine wl_nil ?_
   refine block_go (then_go ?_)
   refine wc_region ?_
   refine wl_val (v_add' rfl rfl rfl (by first | omega | (dsimp only at *; omega)) (by first | omega | (dsimp only at *; omega))) rfl ?_
   refine wl_val (v_move' (by conv => (lhs; whnf))) rfl ?_
   refine wl_nil ?_
   refine then_go ?_
   exact ⟨k - 1, by simp; omega, j + 1, ov, by omega, rfl, rfl, rfl, rfl, st⟩
  ·refine wc_exit (then_exit (then_exit (block_hit ?_)))
   refine then_go ?_
   refine wc_seq ?_
   refine wc_region ?_
   refine wl_val (v_move' (by conv => (lhs; whnf))) rfl ?_
   refine wl_val (v_assign' (by conv => (lhs; whnf))) rfl ?_
   refine wl_nil ?_
   refine then_go ?_
   refine wc_ret ?_
   have hjn : j = n := by omega
   obtain ⟨m1, h1, h2, h3'⟩ := st.freshR (i := 1) rfl
   refine ret1 (v := v) rfl ⟨st.touch, m1, h1, h2, ?_⟩
   rw [hjn] at h3'
   rw [List.take_of_length_le (by omega)] at h3'
   rw [hD]
   exact h3'
end
end Go.Proofs.YtladpaehbolghaaGreat

namespace Go.Proofs.YtladpaehbolghaaGreat
open Go Go.RowKit K DK
section
variable {m : Mem}
def NewDisk (w w' : World) (v : Value) (n : Nat) (d : DS) : Prop := ∃ b s wv, v = .pointer (some ⟨b, 0, none⟩) ∧ Tch w w' [] (diskO b s n wv d).foot ∧ (diskO b s n wv d).holds w'
theorem bs_zero (k : Nat) : List.replicate k (Value.int .u8 0) = bs (List.replicate k 0) := by simp [bs, u8]
theorem c_new {wI : World} (i : Int) (him : Im m wI) :
  Ret Tryz.prog 33 #[.int .i64 i] wI fun v w' =>
   if i < 1 ∨ i > 16384 then Tch wI w' [] [] ∧ v = .tuple #[.pointer none, .int .i64 2]
   else ∃ p, NewDisk wI w' p i.toNat (newD i.toNat) ∧ v = .tuple #[p, .int .i64 0] := by
 have st := St.start him
 refine ret_of Tryz.call33 Tryz.func33 rfl Tryz.ntmps33 Tryz.results33 rfl ?_
 refine wc_seq ?_
 refine wc_region ?_
 refine wl_val (v_assign' (by conv => (lhs; whnf))) rfl ?_
 refine wl_val (v_assign' (by conv => (lhs; whnf))) rfl ?_
 refine wl_nil ?_
 refine then_go ?_
 refine wc_seq ?_
 refine wc_seq ?_
 refine wc_region ?_
 refine wl_val (v_move' (by conv => (lhs; whnf))) rfl ?_
 refine wl_val (v_lss rfl rfl) rfl ?_
 refine wl_val (v_move' (by conv => (lhs; whnf))) rfl ?_
 by_cases hg2 : i < 1
 ·rw [show decide (i < 1) = true from decide_eq_true hg2]
  refine wl_off rfl rfl rfl rfl ?_
  refine wl_off rfl rfl rfl rfl ?_
  refine wl_val (v_pick rfl) rfl ?_
  refine wl_nil ?_
  refine then_go ?_
  refine wc_true rfl ?_
  refine wc_seq ?_
  refine wc_region ?_
  refine wl_val (v_assign' (by conv => (lhs; whnf))) rfl ?_
  refine wl_val (v_assign' (by conv => (lhs; whnf))) rfl ?_
  refine wl_nil ?_
  refine then_go ?_
  refine wc_ret (then_ret ?_)
  refine ret2 (v := .pointer none) (v' := .int .i64 2) rfl rfl ?_
  rw [if_pos (.inl hg2)]
  exact ⟨st.touch, rfl⟩
 ·rw [show decide (i < 1) = false from decide_eq_false hg2]
  refine wl_on rfl rfl ?_
  refine wl_val (v_move' (by conv => (lhs; whnf))) rfl ?_
  refine wl_on rfl rfl ?_
  refine wl_val (v_gtr rfl rfl) rfl ?_
  refine wl_val (v_pick rfl) rfl ?_
  refine wl_nil ?_
  refine then_go ?_
  refine wc_if rfl (fun h9 => ?_) (fun h9 => ?_)
  ·refine wc_seq ?_
   refine wc_region ?_
   refine wl_val (v_assign' (by conv => (lhs; whnf))) rfl ?_
   refine wl_val (v_assign' (by conv => (lhs; whnf))) rfl ?_
   refine wl_nil ?_
   refine then_go ?_
   refine wc_ret (then_ret ?_)
   refine ret2 (v := .pointer none) (v' := .int .i64 2) rfl rfl ?_
   rw [if_pos (.inr h9)]
   exact ⟨st.touch, rfl⟩
  ·refine wc_skip ?_
   refine then_go ?_
   refine wc_seq ?_
   obtain ⟨n, rfl⟩ : ∃ n : Nat, i = n := ⟨i.toNat, by omega⟩
   refine wc_region ?_
   refine wl_val (v_move' (by conv => (lhs; whnf))) rfl ?_
   refine wl_make (l := n) (c := n) Tryz.underlying88 TF.t104 TF.z104 rfl rfl rfl rfl (by omega) (by omega) (by omega) (by omega) st rfl ?_
   intro s w st
   have e : madeCells (Value.agg (Array.replicate 64 (Value.int .u8 0))).cells (n * 64) = (bs (List.replicate (64 * n) 0)).toArray := by
    rw [show (Value.agg (Array.replicate 64 (Value.int .u8 0))).cells = Array.replicate (63 + 1) (Value.int .u8 0) from rfl, madeCells_rep, bs_zero, Nat.mul_comm]
   rw [e] at st
   refine wl_val (v_build (c' := #[.slice (some ⟨s, 0, none⟩) n n, .slice none 0 0, .int .i64 (-1), .bool false]) [(0, .slice (some ⟨s, 0, none⟩) n n), (2, .int .i64 (-1))] TF.z91 TF.p91 rfl (fill_one [] [.slice none 0 0] [.slice none 0 0, .int .i64 0, .bool false] rfl rfl rfl (fill_one [.slice (some ⟨s, 0, none⟩) n n, .slice none 0 0] [.int .i64 0] [.bool false] rfl rfl rfl rfl))) rfl ?_
   refine wl_box (v := .agg #[.slice (some ⟨s, 0, none⟩) n n, .slice none 0 0, .int .i64 (-1), .bool false]) rfl st rfl ?_
   intro b w st
   have st := st.new (E := rowE (.slice none 0 0) 106 65 0 []) ⟨rfl, rfl, rfl, Nat.le_refl _, fun _ _ _ => rfl, by simp [rowE, Value.ownBlock]⟩ ⟨by simp, .inl ⟨rfl, rfl⟩⟩
   have st := st.perm (l := diskL b s n (.slice none 0 0) (newD n)) ((List.Perm.swap _ _ _).trans (List.Perm.cons _ (List.Perm.swap _ _ _)))
   refine wl_val (v_assign' (by conv => (lhs; whnf))) rfl ?_
   refine wl_val (v_assign' (by conv => (lhs; whnf))) rfl ?_
   refine wl_nil ?_
   refine then_go ?_
   refine wc_ret ?_
   refine ret2 (v := .pointer (some ⟨b, 0, none⟩)) (v' := .int .i64 0) rfl rfl ?_
   rw [if_neg (by omega)]
   exact ⟨_, ⟨b, s, _, rfl, (St.finish (Es := []) st).1, (St.finish (Es := []) st).2⟩, rfl⟩
end
end Go.Proofs.YtladpaehbolghaaGreat

namespace Go.Proofs.YtladpaehbolghaaGreat
open Go Go.RowKit K SH DK JR
def logB (g b : Nat) (s : LG) (lv : Value) : Ent := K.blk g #[.pointer (some ⟨b, 0, none⟩), .int .i64 s.half, u64 s.gen, .int .i64 s.fin, lv] 126
section
variable {m0 m : Mem} {F : List Nat} {w0 w : World} {Es : List Ent}
theorem disk_callI {f : FuncId} {args : List Value} {R : Value → DS → Prop} {b s n : Nat} {wv : Value} {d : DS} (i : Nat) (st : St m0 m F w0 w Es) (hi : Es[i]? = some (diskO b s n wv d)) (h : DiskCall f args b s n wv d w R) :
  Ret Tryz.prog f (.pointer (some ⟨b, 0, none⟩) :: args).toArray w fun v w' => ∃ wv' d', St m0 m F w0 w' (Es.set i (diskO b s n wv' d')) ∧ R v d' :=
 h.mono fun _ _ ⟨wv', d', t, hE, hR⟩ => ⟨wv', d', st.step i hi t hE, hR⟩
theorem disk_at {b s n : Nat} {wv : Value} {d : DS} (i : Nat) (st : St m0 m F w0 w Es) (hi : Es[i]? = some (diskO b s n wv d)) (ok : d.ok n) : diskM (heapM w) b n d := by
 have h := (st.at hi).1
 exact ⟨ok, ⟨s, wv, h (K.blk b _ _) (List.mem_cons_self), h (K.blk s _ _) (List.mem_cons_of_mem _ List.mem_cons_self), row_SlM (h (rowE wv 106 65 d.wt.length (wtCells d.wt)) (by simp [diskL])) fun _ _ _ h => h⟩, row_few (h (rowE wv 106 65 d.wt.length (wtCells d.wt)) (by simp [diskL]))⟩
theorem c_lsize {g b s n : Nat} {sl : LG} {lv wv : Value} {d : DS} (st : St m0 m F w0 w (logB g b sl lv :: diskO b s n wv d :: Es)) (ok : d.ok n) :
  Ret Tryz.prog 75 #[.pointer (some ⟨g, 0, none⟩)] w fun v w' => Tch w w' [] [] ∧ v = .int .i64 ((n / 2 * 64 : Nat) : Int) := by
 have hn := ok.le
 refine ret_of Tryz.call75 Tryz.func75 rfl Tryz.ntmps75 Tryz.results75 rfl ?_
 refine wc_seq ?_
 refine wc_region ?_
 refine wl_val (v_assign' (by conv => (lhs; whnf))) rfl ?_
 refine wl_nil ?_
 refine then_go ?_
 refine wc_seq ?_
 refine wc_region ?_
 refine wl_val (v_move' (by conv => (lhs; whnf))) rfl ?_
 refine wl_val (v_nil rfl) rfl ?_
 refine wl_val (v_fa TF.f126_0 rfl) rfl ?_
 refine wl_val (v_load rfl (st.reads (v := .pointer (some ⟨b, 0, none⟩)) 0 rfl TF.t35 rfl)) rfl ?_
 refine wl_call rfl (c_size (im_heapM _) (disk_at 1 st rfl ok)) rfl ?_
 rintro v7 w ⟨rfl, rfl⟩
 refine wl_val (v_to (v' := .int .i64 ((n / 2 : Nat) : Int)) (v_quo' rfl rfl (by omega) (by omega) rfl (by omega)) (by rw [Int.natCast_ediv]; rfl)) rfl ?_
 refine wl_val (v_mul' (c := ((n / 2 * 64 : Nat) : Int)) rfl rfl (by omega) (by omega) (by omega)) rfl ?_
 refine wl_val (v_assign' (by conv => (lhs; whnf))) rfl ?_
 refine wl_nil ?_
 refine then_go ?_
 refine wc_ret ?_
 exact ret1 rfl ⟨Tch.refl _ _, rfl⟩
theorem c_put {g b s n hf at' : Nat} {sl : LG} {lv wv bv : Value} {d : DS} {x : By} (st : St m0 m F w0 w (logB g b sl lv :: diskO b s n wv d :: Es)) (hr : Rdy n d 100000) (hx : SlM m bv 1 x.length (bs x)) (hx64 : x.length % 64 = 0) (hxl : x.length ≤ 1048576) (hhf : hf ≤ 1) (hat : at' ≤ 1048576) :
  Ret Tryz.prog 76 #[.pointer (some ⟨g, 0, none⟩), .int .i64 hf, .int .i64 at', bv] w fun v w' => ∃ wv', St m0 m F w0 w' (logB g b sl lv :: diskO b s n wv' (putD n d ((hf * (n / 2 * 64) + at') / 64) x).1 :: Es) ∧ v = .int .i64 (putD n d ((hf * (n / 2 * 64) + at') / 64) x).2 := by
 obtain ⟨ba, bc, rfl, hbc⟩ := hx.opn
 have hn := hr.ok.le
 have hhl : hf * (n / 2 * 64) ≤ n / 2 * 64 := by rcases Nat.le_one_iff_eq_zero_or_eq_one.1 hhf with h | h <;> rw [h] <;> omega
 obtain ⟨fst, hfst⟩ : ∃ fst, fst = (hf * (n / 2 * 64) + at') / 64 := ⟨_, rfl⟩
 rw [← hfst]
 have hcl := chunk_len (b := x)
 refine ret_of Tryz.call76 Tryz.func76 rfl Tryz.ntmps76 Tryz.results76 rfl ?_
 refine wc_seq ?_
 refine wc_region ?_
 refine wl_val (v_assign' (by conv => (lhs; whnf))) rfl ?_
 refine wl_nil ?_
 refine then_go ?_
 refine wc_seq ?_
 refine wc_region ?_
 refine wl_val (v_move' (by conv => (lhs; whnf))) rfl ?_
 refine wl_val (v_move' (by conv => (lhs; whnf))) rfl ?_
 refine wl_call rfl (c_lsize st hr.ok) rfl ?_
 rintro v15 w ⟨t15, rfl⟩
 have st := st.pure t15
 refine wl_val (v_mul' (c := ((hf * (n / 2 * 64) : Nat) : Int)) rfl rfl (Int.natCast_mul _ _).symm (by omega) (by omega)) rfl ?_
 refine wl_val (v_move' (by conv => (lhs; whnf))) rfl ?_
 refine wl_val (v_add' (c := ((hf * (n / 2 * 64) + at' : Nat) : Int)) rfl rfl (by omega) (by omega) (by omega)) rfl ?_
 refine wl_val (v_to (v' := .int .i64 (fst : Int)) (v_quo' rfl rfl (by omega) (by omega) rfl (by omega)) (by rw [hfst, Int.natCast_ediv]; rfl)) rfl ?_
 refine wl_val (v_assign' (by conv => (lhs; whnf))) rfl ?_
 refine wl_nil ?_
 refine then_go ?_
 refine wc_seq ?_
 refine wc_region ?_
 refine wl_val (v_move' (by conv => (lhs; whnf))) rfl ?_
 refine wl_val (v_nil rfl) rfl ?_
 refine wl_val (v_fa TF.f126_0 rfl) rfl ?_
 refine wl_val (v_load rfl (st.reads (v := .pointer (some ⟨b, 0, none⟩)) 0 rfl TF.t35 rfl)) rfl ?_
 refine wl_val (v_mkfunc rfl rfl) rfl ?_
 refine wl_val (v_assign' (by conv => (lhs; whnf))) rfl ?_
 refine wl_nil ?_
 refine then_go ?_
 refine wc_seq ?_
 refine wc_seq ?_
 refine wc_region ?_
 refine wl_val (v_assign' (by conv => (lhs; whnf))) rfl ?_
 refine wl_nil ?_
 refine then_go ?_
 refine wc_block ?_
 refine wc_loop (S := Nat) (fun q r w' => ∃ (j : Nat) (wv : Value) (dj : DS), q + j = (chunk x).length ∧ r 0 = .pointer (some ⟨g, 0, none⟩) ∧ r 3 = .slice ba x.length bc ∧ r 9 = .int .i64 fst ∧ r 10 = .func (.func 96) #[.pointer (some ⟨b, 0, none⟩)] #[] ∧ r 11 = .int .i64 ((64 * j : Nat) : Int) ∧ putD n d fst x = writesD n dj (fst + j) ((chunk x).drop j) ∧ Rdy n dj (100000 + j) ∧ St m0 m F w0 w' (logB g b sl lv :: diskO b s n wv dj :: Es)) id (chunk x).length ⟨0, wv, d, by omega, rfl, rfl, rfl, rfl, rfl, rfl, hr, st⟩ ?_
 clear st
 rintro q r w2 ⟨j, wv, dj, hqj, g0, g3, g9, g10, g11, hput, hr, st⟩
 refine wc_o 0 g0 (wc_o 3 g3 (wc_o 9 g9 (wc_o 10 g10 (wc_o 11 g11 ?_))))
 refine wc_seq ?_
 refine wc_seq ?_
 refine wc_region ?_
 refine wl_val (v_move' (by conv => (lhs; whnf))) rfl ?_
 refine wl_val (v_move' (by conv => (lhs; whnf))) rfl ?_
 refine wl_val (v_len_s Tryz.underlying23 rfl) rfl ?_
 refine wl_val (v_lss rfl rfl) rfl ?_
 refine wl_nil ?_
 refine then_go ?_
 refine wc_if rfl (fun h28 => ?_) (fun h28 => ?_)
 ·refine wc_skip ?_
  refine then_go ?_
  refine wc_seq ?_
  refine wc_block ?_
  refine wc_seq ?_
  have hj : j < (chunk x).length := by omega
  have hjx := hx.partB (64 * j) (64 * j + 64) (by omega) (by omega)
  have hce : (x.drop (64 * j)).take (64 * j + 64 - 64 * j) = (chunk x)[j] := by rw [chunk_at hj]; congr 1; omega
  rw [hce] at hjx
  have hc64 := chunk_64 _ (List.getElem_mem hj)
  rw [List.drop_eq_getElem_cons hj, writesD] at hput
  have hwr : Rdy n (writeD dj n ((fst + j : Nat) : Int) (chunk x)[j]).1 (100000 + (j + 1)) := ⟨ok_write hr.ok, fz_write hr.fz, Nat.le_trans wt_write (by have := hr.few; omega)⟩
  refine wc_region ?_
  refine wl_val (v_move' (by conv => (lhs; whnf))) rfl ?_
  refine wl_val (v_move' (by conv => (lhs; whnf))) rfl ?_
  refine wl_val (v_move' (by conv => (lhs; whnf))) rfl ?_
  refine wl_val (v_to (v' := .int .i64 (j : Int)) (v_quo' rfl rfl (by omega) (by omega) rfl (by omega)) (by congr 1; omega)) rfl ?_
  refine wl_val (v_add' (c := ((fst + j : Nat) : Int)) rfl rfl (by omega) (by omega) (by omega)) rfl ?_
  refine wl_val (v_move' (by conv => (lhs; whnf))) rfl ?_
  refine wl_val (v_move' (by conv => (lhs; whnf))) rfl ?_
  refine wl_val (v_move' (by conv => (lhs; whnf))) rfl ?_
  refine wl_val (v_add' (c := ((64 * j + 64 : Nat) : Int)) rfl rfl (by omega) (by omega) (by omega)) rfl ?_
  refine wl_val (v_sls (64 * j) (64 * j + 64) Tryz.underlying23 TF.t5 rfl ⟨_, _, rfl, rfl⟩ ⟨_, _, rfl, rfl⟩ (by omega) (by omega)) rfl ?_
  refine wl_callv rfl rfl (disk_callI 1 st rfl (c_write ((fst + j : Nat) : Int) st.im (st.at (i := 1) rfl) (st.none (i := 1) rfl) hr.ok hr.fz (by have := hr.few; omega) hjx)) rfl ?_
  rintro v41 w ⟨wv2, d2, st, rfl, rfl⟩
  refine wl_val (v_assign' (by conv => (lhs; whnf))) rfl ?_
  refine wl_nil ?_
  refine then_go ?_
  refine wc_seq ?_
  refine wc_region ?_
  refine wl_val (v_move' (by conv => (lhs; whnf))) rfl ?_
  refine wl_val (v_neq rfl rfl) rfl ?_
  refine wl_nil ?_
  refine then_go ?_
  refine wc_cond rfl (fun h43 => ?_) (fun h43 => ?_)
  ·refine wc_seq ?_
   refine wc_region ?_
   refine wl_val (v_move' (by conv => (lhs; whnf))) rfl ?_
   refine wl_val (v_assign' (by conv => (lhs; whnf))) rfl ?_
   refine wl_nil ?_
   refine then_go ?_
   refine wc_ret (block_ret (then_ret (then_ret (block_ret (then_ret ?_)))))
   have hz : (writeD dj n ((fst + j : Nat) : Int) (chunk x)[j]).2 ≠ 0 := of_decide_eq_true h43
   rw [if_pos hz] at hput
   exact ret1 rfl ⟨wv2, by rw [hput]; exact st, by rw [hput]; rfl⟩
  ·refine wc_skip ?_
   refine block_go (then_go ?_)
   refine wc_region ?_
   refine wl_val (v_move' (by conv => (lhs; whnf))) rfl ?_
   refine wl_val (v_add' (c := ((64 * (j + 1) : Nat) : Int)) rfl rfl (by omega) (by omega) (by omega)) rfl ?_
   refine wl_val (v_assign' (by conv => (lhs; whnf))) rfl ?_
   refine wl_nil ?_
   refine then_go ?_
   have hz : ¬ (writeD dj n ((fst + j : Nat) : Int) (chunk x)[j]).2 ≠ 0 := of_decide_eq_false h43
   rw [if_neg hz] at hput
   exact ⟨q - 1, by simp; omega, j + 1, wv2, _, by omega, rfl, rfl, rfl, rfl, rfl, hput, hwr, st⟩
 ·refine wc_exit (then_exit (then_exit (block_hit ?_)))
  refine then_go ?_
  refine wc_seq ?_
  refine wc_region ?_
  refine wl_val (v_move' (by conv => (lhs; whnf))) rfl ?_
  refine wl_val (v_nil rfl) rfl ?_
  refine wl_val (v_fa TF.f126_0 rfl) rfl ?_
  refine wl_val (v_load rfl (st.reads (v := .pointer (some ⟨b, 0, none⟩)) 0 rfl TF.t35 rfl)) rfl ?_
  have hjc : (chunk x).length ≤ j := by omega
  rw [List.drop_eq_nil_of_le hjc, writesD] at hput
  refine wl_call rfl (disk_callI 1 st rfl (c_sync st.im (st.at (i := 1) rfl) (st.none (i := 1) rfl) hr.ok hr.fz (by have := hr.few; omega))) rfl ?_
  rintro v49 w ⟨wv3, d3, st, rfl, rfl⟩
  refine wl_val (v_assign' (by conv => (lhs; whnf))) rfl ?_
  refine wl_nil ?_
  refine then_go ?_
  refine wc_ret ?_
  exact ret1 rfl ⟨wv3, by rw [hput]; exact st, by rw [hput]; rfl⟩
end
end Go.Proofs.YtladpaehbolghaaGreat
