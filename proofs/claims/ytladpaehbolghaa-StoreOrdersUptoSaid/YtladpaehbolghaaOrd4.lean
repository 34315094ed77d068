/-
  Several texts as one: Od Zn Ha Lay Og Oh Jk Jl Jm Oi Jn On Oj Ok Op Ol Gf Gg Oe Om Oq Or Oc Os Ot Ou Jo Ov Oy Oz Kg Ow Ox Jp Kb.
-/
import Derived.Lib.BytesEntry
import Derived.Laws.Externs
import Derived.Shelf.SlLaysF0
import Derived.Shelf.SlLaysW
import Derived.Test.YtladpaehbolghaaProg
import Derived.Shelf.SlMaps.Clone
import Derived.Test.YtladpaehbolghaaOrd3

namespace Go.Proofs.Ytladpaehbolghaa
open Go Go.RowKit K SH GC JR OS
namespace OS
def actR (b : By) : Option (Ac × By) := match txtR b with
 | none => none
 | some (k, r) => match cntR 1 r with
  | none => none
  | some (s, r) => if s = 1 then (match txtR r with | none => none | some (d, r) => some (⟨k, true, d⟩, r)) else some (⟨k, false, []⟩, r)
def actsR : Nat → By → Option (List Ac × By)
 | 0, b => some ([], b)
 | n + 1, b => match actR b with
  | none => none
  | some (a, r) => match actsR n r with
   | none => none
   | some (l, r) => some (a :: l, r)
def batR (b : By) : Option (List Ac) := match cntR 4096 b with
 | none => none
 | some (n, r) => match actsR n r with
  | none => none
  | some (l, r) => if r = [] ∧ okL l then some l else none
theorem actR_actB {a : Ac} {rest : By} (h : actOk a) : actR (actB a ++ rest) = some (a, rest) := by
 unfold actR actB
 unfold actOk at h
 rw [List.append_assoc, txtR_txtB (by omega)]
 have e1 : ∀ r : By, cntR 1 (1 :: r) = some (1, r) := fun r => by have := cntR_numB (most := 1) (n := 1) (rest := r) (by omega) (by decide); rwa [numB_small (by decide)] at this
 have e0 : ∀ r : By, cntR 1 (0 :: r) = some (0, r) := fun r => by have := cntR_numB (most := 1) (n := 0) (rest := r) (by omega) (by decide); rwa [numB_small (by decide)] at this
 obtain ⟨k, s, d⟩ := a
 cases s with
 | true =>
  simp only [if_true, List.cons_append, e1, txtR_txtB (show d.length ≤ 1048576 from h.2.2.2)]
 | false =>
  have hd : d = [] := by
   have := h.2.2.1
   simpa using this
  subst hd
  simp [e0]
theorem actsR_flat : ∀ {L : List Ac} {rest : By}, (∀ a ∈ L, actOk a) → actsR L.length (L.flatMap actB ++ rest) = some (L, rest)
 | [], _, _ => rfl
 | a :: L, rest, h => by
  rw [List.flatMap_cons, List.append_assoc, List.length_cons, actsR, actR_actB (h a (List.mem_cons_self ..))]
  show (match actsR L.length (L.flatMap actB ++ rest) with | none => none | some (l, r) => some (a :: l, r)) = _
  rw [actsR_flat fun x hx => h x (List.mem_cons_of_mem _ hx)]
theorem batR_batB {L : List Ac} (h : okL L) : batR (batB L) = some L := by
 unfold batR batB
 rw [cntR_numB h.1 (by have := h.1; omega)]
 have := actsR_flat (L := L) (rest := []) h.2.1
 rw [List.append_nil] at this
 simp [this, h]
theorem actR_eq {b r : By} {a : Ac} (h : actR b = some (a, r)) : b = actB a ++ r := by
 unfold actR at h
 cases h1 : txtR b with
 | none => rw [h1] at h; cases h
 | some q =>
  obtain ⟨k, r1⟩ := q
  rw [h1] at h
  simp only at h
  cases h2 : cntR 1 r1 with
  | none => rw [h2] at h; cases h
  | some q =>
   obtain ⟨s, r2⟩ := q
   rw [h2] at h
   simp only at h
   obtain ⟨e1, _⟩ := txtR_eq h1
   obtain ⟨e2, hs⟩ := cntR_eq h2
   split at h
   ·rename_i hs1
    subst hs1
    cases h3 : txtR r2 with
    | none => rw [h3] at h; cases h
    | some q =>
     obtain ⟨d, r3⟩ := q
     rw [h3] at h
     simp only [Option.some.injEq, Prod.mk.injEq] at h
     obtain ⟨rfl, rfl⟩ := h
     obtain ⟨e3, _⟩ := txtR_eq h3
     rw [e1, e2, e3, numB_small (by decide)]
     simp [actB]
   ·rename_i hs1
    have hs0 : s = 0 := by omega
    subst hs0
    simp only [Option.some.injEq, Prod.mk.injEq] at h
    obtain ⟨rfl, rfl⟩ := h
    rw [e1, e2, numB_small (by decide)]
    simp [actB]
theorem actsR_eq : ∀ {n : Nat} {b r : By} {L : List Ac}, actsR n b = some (L, r) → b = L.flatMap actB ++ r ∧ L.length = n
 | 0, b, r, L, h => by
  simp only [actsR, Option.some.injEq, Prod.mk.injEq] at h
  obtain ⟨rfl, rfl⟩ := h
  simp
 | n + 1, b, r, L, h => by
  rw [actsR] at h
  cases h1 : actR b with
  | none => rw [h1] at h; cases h
  | some q =>
   obtain ⟨a, r1⟩ := q
   rw [h1] at h
   simp only at h
   cases h2 : actsR n r1 with
   | none => rw [h2] at h; cases h
   | some q =>
    obtain ⟨l, r2⟩ := q
    rw [h2] at h
    simp only [Option.some.injEq, Prod.mk.injEq] at h
    obtain ⟨rfl, rfl⟩ := h
    obtain ⟨e1, e2⟩ := actsR_eq h2
    rw [actR_eq h1, e1, List.flatMap_cons, List.append_assoc, List.length_cons, e2]
    exact ⟨rfl, rfl⟩
theorem batR_eq {b : By} {L : List Ac} (h : batR b = some L) : b = batB L ∧ okL L := by
 unfold batR at h
 cases h1 : cntR 4096 b with
 | none => rw [h1] at h; cases h
 | some q =>
  obtain ⟨n, r⟩ := q
  rw [h1] at h
  simp only at h
  cases h2 : actsR n r with
  | none => rw [h2] at h; cases h
  | some q =>
   obtain ⟨l, r2⟩ := q
   rw [h2] at h
   simp only at h
   split at h
   ·rename_i h3
    simp only [Option.some.injEq] at h
    subst h
    obtain ⟨e1, _⟩ := cntR_eq h1
    obtain ⟨e2, e3⟩ := actsR_eq h2
    rw [h3.1, List.append_nil] at e2
    refine ⟨?_, h3.2⟩
    rw [e1, e2, batB, e3]
   ·cases h
end OS
section
open OS
variable {m0 m : Mem} {w0 w : World} {Es : List Ent}
abbrev gaE (lb : Nat) (lv : Value) : Ent := K.blk lb #[lv] 22
abbrev acE (lv : Value) (L : List AcT) : Ent := lsE 33 3 acP lv L
theorem c_readB1 {rb eb lb : Nat} {bv : Value} {b : List UInt8} (st : St m0 m [] w0 w (rdE rb bv 0 :: errE eb 0 :: gaE lb (.slice none 0 0) :: Es)) (hb : SlM m bv 1 b.length (bs b)) (hl : b.length ≤ 1099511627776) :
  RetP Try.prog 43 #[rdP rb, .pointer (some ⟨lb, 0, none⟩)] w faultV
   (fun _ w2 => ∃ m2 j Es2, (∃ lv L n r, (∀ k o, m k = some o → m2 k = some o) ∧ Es2 = gaE lb lv :: acE lv L :: Es ∧ j ≤ b.length ∧ (∀ p ∈ L, AcOk m2 p.1 p.2) ∧ cntR 4096 b = some (n, r) ∧ actsR n r = some (L.map (·.1), b.drop j) ∧ okL (L.map (·.1))) ∧ St m0 m2 [] w0 w2 (rdE rb bv j :: errE eb 0 :: Es2))
   (fun w2 => ∃ m2 Es2, (batR b = none ∧ (∀ k o, m k = some o → m2 k = some o) ∧ Es2 = Es) ∧ St m0 m2 [] w0 w2 (errE eb 0 :: Es2)) := by
 have hbat : batR b = (match cntR 4096 b with | none => none | some (n, r) => match actsR n r with | none => none | some (l, r) => if r = [] ∧ okL l then some l else none) := rfl
 refine ret_ofP Try.call43 Try.func43 rfl Try.ntmps43 Try.results43 rfl ?_
 refine wc_seq ?_
 refine wc_seq ?_
 refine wc_region ?_
 refine wl_val (v_move' (by conv => (lhs; whnf))) rfl ?_
 refine wl_callP rfl (c_rdcount (most := 4096) st hb hl (Nat.zero_le _) (by decide)) rfl (fun w' h => ⟨rfl, by obtain ⟨hn, j, _, st⟩ := h; rw [List.drop_zero] at hn; exact ⟨m, Es, ⟨by rw [hbat, hn], fun _ _ h => h, rfl⟩, (st.drop 0).drop 1⟩⟩) ?_
 rintro v6 w ⟨n, j, hij, hj, hn4, hc, rfl, st⟩
 rw [List.drop_zero] at hc
 rw [hc] at hbat
 obtain ⟨T, hT⟩ : ∃ T, T = actsR n (b.drop j) := ⟨_, rfl⟩
 simp only [← hT] at hbat
 refine wl_val (v_assign' (by conv => (lhs; whnf))) rfl ?_
 refine wl_nil ?_
 refine then_go ?_
 refine wc_block ?_
 have st : St m0 m [] w0 w (acE (.slice none 0 0) [] :: rdE rb bv j :: errE eb 0 :: gaE lb (.slice none 0 0) :: Es) := nilRow st 33 3
 have st : St m0 m [] w0 w (rdE rb bv j :: errE eb 0 :: gaE lb (.slice none 0 0) :: acE (.slice none 0 0) [] :: Es) := st.perm (by exact (List.perm_middle (l₁ := [_, _, _])).symm)
 refine wc_loop (S := Nat) (fun q r w' => ∃ (k j : Nat) (lv : Value) (L : List AcT) (m' : Mem), q = k ∧ L.length + k = n ∧ j ≤ b.length ∧ r 0 = rdP rb ∧ r 1 = .pointer (some ⟨lb, 0, none⟩) ∧ r 3 = .int .i64 k ∧ (∀ k o, m k = some o → m' k = some o) ∧ (∀ p ∈ L, AcOk m' p.1 p.2) ∧ (T = match actsR k (b.drop j) with | none => none | some (l, r) => some (L.map (·.1) ++ l, r)) ∧ St m0 m' [] w0 w' (rdE rb bv j :: errE eb 0 :: gaE lb lv :: acE lv L :: Es)) id n ⟨n, j, _, [], m, rfl, by simp, hj, rfl, rfl, rfl, fun _ _ h => h, by simp, by rw [hT]; cases actsR n (b.drop j) <;> simp, st⟩ ?_
 clear st hj hij
 rintro q r w2 ⟨k, j2, lv, L, m', hqk, hLk, hj, g0, g1, g3, hmm, hLo, hTT, st⟩
 refine wc_o 0 g0 (wc_o 1 g1 (wc_o 3 g3 ?_))
 have hb := hb.mono hmm
 refine wc_seq ?_
 refine wc_seq ?_
 refine wc_region ?_
 refine wl_val (v_move' (by conv => (lhs; whnf))) rfl ?_
 refine wl_val (v_gtr rfl rfl) rfl ?_
 refine wl_nil ?_
 refine then_go ?_
 refine wc_cond rfl (fun h8 => ?_) (fun h8 => ?_)
 ·refine wc_skip ?_
  refine then_go ?_
  refine wc_seq ?_
  refine wc_block ?_
  refine wc_seq ?_
  refine wc_region ?_
  refine wl_val (v_move' (by conv => (lhs; whnf))) rfl ?_
  obtain ⟨k, hk⟩ : ∃ k', k = k' + 1 := ⟨k - 1, by have := of_decide_eq_true h8; omega⟩
  subst hk
  rw [actsR] at hTT
  refine wl_callP rfl (c_rdtext st hb hl hj) rfl (fun w' h => ⟨rfl, by obtain ⟨hn, j, _, st⟩ := h; exact ⟨m', Es, ⟨by rw [hbat, hTT]; unfold actR; rw [hn], hmm, rfl⟩, ((st.drop 0).drop 1).drop 1⟩⟩) ?_
  rintro v12 w ⟨m1, t, j3, hm1, hij3, hj3, htx, hsl, st⟩
  have hact : actR (b.drop j2) = (match cntR 1 (b.drop j3) with | none => none | some (s, r) => if s = 1 then (match txtR r with | none => none | some (d, r) => some (⟨t, true, d⟩, r)) else some (⟨t, false, []⟩, r)) := by unfold actR; rw [htx]
  rw [hact] at hTT
  have hmm1 : ∀ k o, m k = some o → m1 k = some o := fun k o h => hm1 k o (hmm k o h)
  have hb := hb.mono hm1
  have htl := (txtR_eq htx).2
  refine wl_val (v_b2s Try.underlying31 Try.underlying5 Try.underlying9 st.im hsl rfl) rfl ?_
  refine wl_val (v_build (c' := (acC ⟨t, false, []⟩ (.slice none 0 0)).toArray) [(0, .string (strB t))] TF.z33 TF.p33 rfl ⟨0, 1, rfl, rfl, by decide, rfl⟩) rfl ?_
  refine wl_alloc TF.z33 st rfl ?_
  intro b4 w st
  refine wl_storeW (cs := (acC ⟨t, false, []⟩ (.slice none 0 0)).toArray) 0 st rfl TF.t33 rfl rfl rfl rfl (by intro u hu; simp [acC] at hu; rcases hu with rfl | rfl | rfl <;> rfl) ?_
  intro w st
  have st : St m0 m1 [] w0 w (rdE rb bv j3 :: K.blk b4 (acC ⟨t, false, []⟩ (.slice none 0 0)).toArray 33 :: errE eb 0 :: gaE lb lv :: acE lv L :: Es) := st.perm (List.Perm.swap _ _ _)
  refine wl_nil ?_
  refine then_go ?_
  refine wc_seq ?_
  refine wc_seq ?_
  refine wc_region ?_
  refine wl_val (v_move' (by conv => (lhs; whnf))) rfl ?_
  refine wl_callP rfl (c_rdcount (most := 1) st hb hl hj3 (by decide)) rfl (fun w' h => ⟨rfl, by obtain ⟨hn, j, _, st⟩ := h; exact ⟨m1, Es, ⟨by rw [hbat, hTT, hn], hmm1, rfl⟩, (((st.drop 0).drop 0).drop 1).drop 1⟩⟩) ?_
  rintro v16 w ⟨s, j4, hij4, hj4, hs1, hcs, rfl, st⟩
  rw [hcs] at hTT
  simp only at hTT
  refine wl_val (wl_valD (v_eql rfl rfl) (q := decide (s = 1)) (decide_eq_decide.2 (by omega))) rfl ?_
  refine wl_val (v_fa TF.f33_1 rfl) rfl ?_
  refine wl_store1 (v := .bool (decide (s = 1))) 1 st rfl TF.t4 rfl rfl rfl (lt_ok rfl) ?_
  intro w st
  have st : St m0 m1 [] w0 w (rdE rb bv j4 :: K.blk b4 (acC ⟨t, decide (s = 1), []⟩ (.slice none 0 0)).toArray 33 :: errE eb 0 :: gaE lb lv :: acE lv L :: Es) := st
  refine wl_nil ?_
  refine then_go ?_
  refine wc_seq ?_
  refine wc_region ?_
  refine wl_val (v_fa TF.f33_1 rfl) rfl ?_
  refine wl_val (v_load rfl (st.reads (v := .bool (decide (s = 1))) 1 rfl TF.t4 rfl)) rfl ?_
  refine wl_nil ?_
  refine then_go ?_
  refine wc_mid (fun r w' => ∃ (m2 : Mem) (a : Ac) (dv : Value) (j5 : Nat), j5 ≤ b.length ∧ r 0 = rdP rb ∧ r 1 = .pointer (some ⟨lb, 0, none⟩) ∧ r 3 = .int .i64 ((k + 1 : Nat) : Int) ∧ r 4 = .pointer (some ⟨b4, 0, none⟩) ∧ (∀ k o, m1 k = some o → m2 k = some o) ∧ AcOk m2 a dv ∧ (T = match actsR k (b.drop j5) with | none => none | some (l, r) => some (L.map (·.1) ++ a :: l, r)) ∧ St m0 m2 [] w0 w' (rdE rb bv j5 :: K.blk b4 (acC a dv).toArray 33 :: errE eb 0 :: gaE lb lv :: acE lv L :: Es)) ?_ ?_
  ·refine wc_cond rfl (fun h20 => ?_) (fun h20 => ?_)
   ·refine wc_region ?_
    refine wl_val (v_move' (by conv => (lhs; whnf))) rfl ?_
    have hs : s = 1 := of_decide_eq_true h20
    subst hs
    rw [if_pos rfl] at hTT
    refine wl_callP rfl (c_rdtext st hb hl hj4) rfl (fun w' h => ⟨rfl, by obtain ⟨hn, j, _, st⟩ := h; exact ⟨m1, Es, ⟨by rw [hbat, hTT, hn], hmm1, rfl⟩, (((st.drop 0).drop 0).drop 1).drop 1⟩⟩) ?_
    rintro v22 w ⟨m2, d, j5, hm2, hij5, hj5, htx5, hsl5, st⟩
    rw [htx5] at hTT
    refine wl_val (v_fa TF.f33_2 rfl) rfl ?_
    refine wl_store1 (v := v22) 1 st rfl TF.t31 rfl rfl (SlM.one1 hsl5) (lt_ok rfl) ?_
    intro w st
    have st : St m0 m2 [] w0 w (rdE rb bv j5 :: K.blk b4 (acC ⟨t, true, d⟩ v22).toArray 33 :: errE eb 0 :: gaE lb lv :: acE lv L :: Es) := st
    refine wl_nil ?_
    refine then_go ?_
    exact ⟨m2, ⟨t, true, d⟩, v22, j5, hj5, rfl, rfl, rfl, rfl, hm2, ⟨by show t.length ≤ _; omega, hsl5⟩, by rw [hTT]; dsimp only; cases actsR k (b.drop j5) <;> rfl, st⟩
   ·refine wc_skip ?_
    refine then_go ?_
    have hs : ¬ s = 1 := of_decide_eq_false h20
    rw [if_neg hs] at hTT
    rw [decide_eq_false hs] at st
    exact ⟨m1, ⟨t, false, []⟩, .slice none 0 0, j4, hj4, rfl, rfl, rfl, rfl, fun _ _ h => h, ⟨by show t.length ≤ _; omega, SlM.nil⟩, by rw [hTT]; dsimp only; cases actsR k (b.drop j4) <;> rfl, st⟩
  ·clear st hTT
   rintro r w ⟨m2, a, dv, j5, hj5, g0, g1, g3, g4, hm2, hao, hTT, st⟩
   refine wc_o 0 g0 (wc_o 1 g1 (wc_o 3 g3 (wc_o 4 g4 ?_)))
   have hmm2 : ∀ k o, m k = some o → m2 k = some o := fun k o h => hm2 k o (hmm1 k o h)
   refine wc_region ?_
   refine wl_val (v_load rfl (st.reads (v := lv) 3 rfl TF.t22 rfl)) rfl ?_
   refine wl_val (v_load rfl (st.reads (v := .agg (acC a dv).toArray) 1 rfl TF.t33 (getV_all (Ac.len hao)))) rfl ?_
   refine wl_lsOne (acC a dv) Try.underlying22 TF.t33 TF.z33 (by decide) (by decide) (Ac.len hao) rfl st rfl ?_
   intro b26 w st
   refine wl_lsApp (c := acP) (e := (a, dv)) 4 st rfl Try.underlying22 TF.t33 TF.z33 rfl rfl (Ac.one hao) rfl rfl (by omega) (by omega) rfl ?_
   intro v27 w st hv27
   have st : St m0 m2 [] w0 w (rdE rb bv j5 :: K.blk b4 (acC a dv).toArray 33 :: errE eb 0 :: gaE lb lv :: acE v27 (L ++ [(a, dv)]) :: Es) := st
   refine wl_store1 (v := v27) 3 st rfl TF.t22 rfl rfl hv27 (lt_ok rfl) ?_
   intro w st
   have st : St m0 m2 [] w0 w (rdE rb bv j5 :: errE eb 0 :: gaE lb v27 :: acE v27 (L ++ [(a, dv)]) :: Es) := st.drop 1
   refine wl_nil ?_
   refine block_go (then_go ?_)
   refine wc_region ?_
   refine wl_val (v_move' (by conv => (lhs; whnf))) rfl ?_
   refine wl_val (v_sub' (c := (k : Int)) rfl rfl (by omega) (by omega) (by omega)) rfl ?_
   refine wl_val (v_assign' (by conv => (lhs; whnf))) rfl ?_
   refine wl_nil ?_
   refine then_go ?_
   exact ⟨k, by simp; omega, k, j5, v27, L ++ [(a, dv)], m2, rfl, by simp; omega, hj5, rfl, rfl, rfl, hmm2, fun p hp => (List.mem_append.1 hp).elim (fun hp => (hLo p hp).mono fun k o h => hm2 k o (hm1 k o h)) fun hp => by rw [List.mem_singleton.1 hp]; exact hao, by rw [hTT]; simp, st⟩
 ·refine wc_exit (then_exit (then_exit (block_hit ?_)))
  refine then_go ?_
  refine wc_seq ?_
  have hk : k = 0 := by have := of_decide_eq_false h8; omega
  subst hk
  have hTT : T = some (L.map (·.1), b.drop j2) := by rw [hTT, actsR]; simp
  rw [hTT] at hbat
  have st0 := st
  refine wc_region ?_
  refine wl_val (v_load rfl (st.reads (v := lv) 2 rfl TF.t22 rfl)) rfl ?_
  have hLM : AcsM (heapM w2) lv L := ⟨st.lsRd 3 rfl (fun x _ => rfl), fun p hp => (hLo p hp).mono st.im⟩
  refine wl_call rfl (c_chk (im_heapM w2) hLM (by omega)) rfl ?_
  rintro v29 w ⟨t29, rfl⟩
  have st := st.pure t29
  refine wl_val (wl_valD (v_neq rfl rfl) (q := decide (¬ okL (L.map (·.1)))) (by unfold chkL; by_cases h : okL (L.map (·.1)) <;> simp [h])) rfl ?_
  refine wl_nil ?_
  refine then_go ?_
  refine wc_cond rfl (fun h30 => ?_) (fun h30 => ?_)
  ·refine wc_region ?_
   refine wl_val (v_move' (by conv => (lhs; whnf))) rfl ?_
   exact wl_callP rfl c_fail rfl (fun w' h => by subst h; exact ⟨rfl, m', Es, ⟨by rw [hbat]; exact if_neg (fun h => of_decide_eq_true h30 h.2), hmm, rfl⟩, ((st.drop 0).drop 1).drop 1⟩) (fun _ _ h => h.elim)
  ·refine wc_skip ?_
   have hok : okL (L.map (·.1)) := Decidable.not_not.1 (of_decide_eq_false h30)
   exact toPn (end0 ⟨m', j2, _, ⟨lv, L, n, b.drop j, hmm, rfl, hj, hLo, hc, by rw [← hT, hTT], hok⟩, st⟩)
end
end Go.Proofs.Ytladpaehbolghaa

namespace Go.Proofs.Ytladpaehbolghaa
open Go Go.RowKit K Go.Sort
theorem bytesW_grow {w : World} {E : TypeId} {s : ByteArray} : Lib.bytesWorld w E s = grow (w.drewN 1) #[.cells (Lib.bytesCells w E s) E ((Lib.bytesCells w E s).size, (Lib.bytesCells w E s).size + 1)] := by
 have hh : (Lib.bytesWorld w E s).heap = w.heap ++ #[.cells (Lib.bytesCells w E s) E ((Lib.bytesCells w E s).size, (Lib.bytesCells w E s).size + 1)] := by
  apply Array.ext_getElem?
  intro j
  rcases Nat.lt_trichotomy j w.heap.size with h | h | h
  ·rw [Lib.bytesWorld_at_old w E s j h, Array.getElem?_append_left h]
  ·subst h
   rw [Lib.bytesWorld_at_new, Array.getElem?_append_right (Nat.le_refl _), Nat.sub_self]
   rfl
  ·rw [Array.getElem?_eq_none (by rw [Lib.bytesWorld_size]; omega), Array.getElem?_eq_none (by simp; omega)]
 show (⟨(Lib.bytesWorld w E s).heap, w.tape, w.drawn + 1, w.os, w.output⟩ : World) = ⟨w.heap ++ _, w.tape, w.drawn + 1, w.os, w.output⟩
 rw [hh]
section
variable {P : Program} {n : Nat} {ops : Array Oper} {Q : Po} {rest : List Oper} {r : Fr} {w : World} {d : Nat} {ty : TypeId} {pos : String} {after : Array Edge}
theorem wl_s2bX {S T E : TypeId} {x : Operand} {l : List UInt8} (hS : P.underlying S = some .string) (hT : P.underlying T = some (.slice E)) (hE : P.underlying E = some (.int .u8)) (hx : ev r x = .string (strB l)) (hd : Nat.blt d n = true)
  (k : ∀ v o, (∀ m : Mem, m w.heap.size = some o → SlM m v 1 l.length (bs l)) → WL P n ops Q rest (upd d v r) (grow (w.drewN 1) #[o])) :
  WL P n ops Q (⟨some d, .convert S T x, ty, pos, after, none⟩ :: rest) r w := by
 have hrun := Lib.run_convert_string_bytes (P := P) w S T E (strB l) hS hT hE
 have hsl : ∀ m : Mem, m w.heap.size = some (.cells (Lib.bytesCells w E (strB l)) E ((Lib.bytesCells w E (strB l)).size, (Lib.bytesCells w E (strB l)).size + 1)) → SlM m (.slice (some ⟨w.heap.size, 0, none⟩) (strB l).size (grownCap w (strB l).size 0 E)) 1 l.length (bs l) := fun m hm => by
  have hsz : (strB l).size = l.length := rfl
  have hge := grownCap_ge w (strB l).size 0 E
  rw [hsz] at hge ⊢
  refine SlM.ofBlock (pre := []) (post := List.replicate (grownCap w (strB l).size 0 E - (strB l).size) (.int .u8 0)) hm ?_ rfl hge
  simp [Lib.bytesCells, strB, bs, u8]
 refine wl_val (v := .slice (some ⟨w.heap.size, 0, none⟩) (strB l).size (grownCap w (strB l).size 0 E)) (w' := Lib.bytesWorld w E (strB l)) ?_ hd (by rw [bytesW_grow]; exact k _ _ hsl)
 intro _ _ _ _
 simp only [execOp, hx, Sem.run_bind, hrun, Result.andThen_ok, Sem.run_pure]
theorem grow_old {w : World} {os : Array Obj} {q k : Nat} {o : Obj} (h : w.heap[k]? = some o) : (grow (w.drewN q) os).heap[k]? = some o := by
 show (w.heap ++ os)[k]? = _
 rw [Array.getElem?_append_left (lt_of_get h), h]
theorem grow_new {w : World} {o : Obj} {q : Nat} : (grow (w.drewN q) #[o]).heap[w.heap.size]? = some o := by
 show (w.heap ++ #[o])[w.heap.size]? = _
 rw [Array.getElem?_append_right (Nat.le_refl _), Nat.sub_self]
 rfl
def Gro (w w' : World) : Prop := ∃ q os, w' = grow (w.drewN q) os
theorem Gro.trans {a b c : World} (h : Gro a b) (h' : Gro b c) : Gro a c := by
 obtain ⟨q, os, rfl⟩ := h
 obtain ⟨q', os', rfl⟩ := h'
 refine ⟨q + q', os ++ os', ?_⟩
 show (⟨a.heap ++ os ++ os', a.tape, a.drawn + q + q', a.os, a.output⟩ : World) = ⟨a.heap ++ (os ++ os'), a.tape, a.drawn + (q + q'), a.os, a.output⟩
 rw [Array.append_assoc, Nat.add_assoc]
theorem Gro.one {w : World} {q : Nat} {os : Array Obj} : Gro w (grow (w.drewN q) os) := ⟨q, os, rfl⟩
end
end Go.Proofs.Ytladpaehbolghaa

namespace Go.Proofs.Ytladpaehbolghaa
open Go Go.RowKit K SH
section
variable {P : Program} {r : Fr} {w : World} {ty : TypeId} {m : Mem}
theorem run_bytesOf {x : Value} {a : (List UInt8)} (him : Im m w) (ha : SlM m x 1 a.length (bs a)) : (Extern.Bytes.bytesOf x).run P w = .ok (strB a) w := by
 have ha0 := ha
 obtain ⟨hl, p, c, rfl, hc, hn, h1⟩ := ha
 by_cases h0 : a = []
 ·subst h0
  cases p with
  | none => rfl
  | some p => rfl
 ·have hpos : 0 < a.length := List.length_pos_iff.2 h0
  obtain ⟨b, o, cap, he, _, _⟩ := ha0.rd P (by simpa [bs] using hpos)
  cases he
  have hq := Lib.run_loadBytesX (P := P) w (a.map fun x => (x.toNat : Int)) ⟨b, o, none⟩ .empty (fun j y hy => by
   obtain ⟨hj, hjy⟩ := List.getElem?_eq_some_iff.1 hy
   have hj2 : j < a.length := by simpa using hj
   rw [List.getElem_map] at hjy
   obtain ⟨b', o', cc, t, fr, h2, h3, h4⟩ := h1 j (u8 a[j]) (by simp [bs, hj2])
   cases h2
   have e : (⟨b, o, none⟩ : Addr).add j = ⟨b, o + j, none⟩ := by unfold Addr.add; split <;> simp_all
   rw [e, cell_of_row w b (o + j) cc t fr (him b _ h3), h4, ← hjy]
   rfl)
  rw [List.length_map] at hq
  show (Extern.Bytes.loadBytes ⟨b, o, none⟩ a.length .empty).run P w = _
  rw [hq]
  congr 1
  unfold strB Lib.bytesOf
  apply ByteArray.ext
  simp
  conv => rhs; rw [← List.map_id a]
  refine List.map_congr_left fun c _ => ?_
  simp
theorem v_extern {f : FuncId} {args : Array Value} {v : Value} {ags : Array Operand} {tys : Array TypeId} (ha : ags.map (ev r) = args) (hc : (callFunc f args).run P w = .ok (.value v) w) : Val P (.call ⟨.value (.func f), ags, tys⟩) ty r w v w := by
 intro _ _ _ _
 simp [execOp, resolve, ev, Deferred.ofValue, invoke, ha, hc]
theorem v_bcompare {f : FuncId} {fn : Func} {x y : Value} {X Y : Operand} {a b : (List UInt8)} {tys : Array TypeId} (hf : P.funcs[f]? = some fn) (h1 : (fn.name == "runtime.NumGoroutine") = false) (h2 : fn.body.isNone = true) (h3 : Extern.findNext fn = none) (h4 : Extern.find fn = some Extern.BytealgCompare.compare)
  (him : Im m w) (ha : SlM m x 1 a.length (bs a)) (hb : SlM m y 1 b.length (bs b)) (hx : ev r X = x) (hy : ev r Y = y) : Val P (.call ⟨.value (.func f), #[X, Y], tys⟩) ty r w (.int .i64 (Lib.compareBytes a b)) w := by
 have hc : (Extern.BytealgCompare.compare #[x, y]).run P w = .ok (.int .i64 (Lib.compareBytes a b)) w := by
  change Sem.run P (do pure (goInt (Extern.BytealgCompare.cmp (← Extern.Bytes.bytesOf x) (← Extern.Bytes.bytesOf y)))) w = _
  simp only [Sem.run_bind, run_bytesOf him ha, run_bytesOf him hb, Sem.run_pure, Result.andThen]
  rw [Lib.cmp_eq]
  rfl
 refine v_extern (args := #[x, y]) (by simp [hx, hy]) ?_
 rw [run_callFunc_extern hf h1 h2 h3 h4, hc]
 rfl
end
section
variable {m : Mem} {wI : World}
theorem c_bcompareW {x y : Value} {a b : (List UInt8)} (him : Im m wI) (ha : SlM m x 1 a.length (bs a)) (hb : SlM m y 1 b.length (bs b)) :
  Ret Try.prog 57 #[x, y] wI fun v w' => w' = wI ∧ v = .int .i64 (Lib.compareBytes a b) := by
 refine ret_of Try.call57 Try.func57 rfl Try.ntmps57 Try.results57 rfl ?_
 refine wc_seq ?_
 refine wc_region ?_
 refine wl_val (v_assign' (by conv => (lhs; whnf))) rfl ?_
 refine wl_nil ?_
 refine then_go ?_
 refine wc_seq ?_
 refine wc_region ?_
 refine wl_val (v_move' (by conv => (lhs; whnf))) rfl ?_
 refine wl_val (v_move' (by conv => (lhs; whnf))) rfl ?_
 refine wl_val (v_bcompare Try.func69 (by kernel_rfl) (by kernel_rfl) (by kernel_rfl) (by kernel_rfl) him ha hb rfl rfl) rfl ?_
 refine wl_val (v_assign' (by conv => (lhs; whnf))) rfl ?_
 refine wl_nil ?_
 refine then_go ?_
 refine wc_ret ?_
 exact ret1 rfl ⟨rfl, rfl⟩
end
end Go.Proofs.Ytladpaehbolghaa

namespace Go.Proofs.Ytladpaehbolghaa
open Go.Shelf
def sortAct_ren : Go.Shelf.Ren := ⟨fun | 6 => 55 | 15 => 68 | 14 => 67 | 28 => 84 | 29 => 85 | 20 => 76 | 21 => 77 | 22 => 78 | 23 => 79 | 24 => 80 | 25 => 81 | 26 => 82 | 27 => 83 | 46 => 89 | 47 => 90 | 48 => 91 | 49 => 92 | 50 => 93 | 57 => 97 | n => n, fun | 22 => 22 | 24 => 33 | 25 => 103 | 3 => 3 | 39 => 99 | 0 => 0 | 53 => 134 | 55 => 47 | 4 => 4 | 46 => 127 | 45 => 126 | 50 => 131 | 5 => 5 | 9 => 9 | 66 => 139 | 70 => 142 | 76 => 150 | 77 => 151 | n => n, fun | n => n⟩
theorem sortAct : Go.Proofs.SlLaysF0.n6 Try.prog sortAct_ren := {
 mixed := by kernel_rfl
 f6 := ⟨Try.f55.name, by decide, Try.func55.trans (congrArg some (by kernel_rfl))⟩
 f14 := ⟨Try.f67.name, by decide, Try.func67.trans (congrArg some (by kernel_rfl))⟩
 f15 := Try.func68.trans (congrArg some (by kernel_rfl))
 f20 := ⟨Try.f76.name, by decide, Try.func76.trans (congrArg some (by kernel_rfl))⟩
 f21 := ⟨Try.f77.name, by decide, Try.func77.trans (congrArg some (by kernel_rfl))⟩
 f22 := ⟨Try.f78.name, by decide, Try.func78.trans (congrArg some (by kernel_rfl))⟩
 f23 := ⟨Try.f79.name, by decide, Try.func79.trans (congrArg some (by kernel_rfl))⟩
 f24 := ⟨Try.f80.name, by decide, Try.func80.trans (congrArg some (by kernel_rfl))⟩
 f25 := ⟨Try.f81.name, by decide, Try.func81.trans (congrArg some (by kernel_rfl))⟩
 f26 := ⟨Try.f82.name, by decide, Try.func82.trans (congrArg some (by kernel_rfl))⟩
 f27 := ⟨Try.f83.name, by decide, Try.func83.trans (congrArg some (by kernel_rfl))⟩
 f28 := Try.func84.trans (congrArg some (by kernel_rfl))
 f29 := Try.func85.trans (congrArg some (by kernel_rfl))
 f46 := ⟨Try.f89.name, by decide, Try.func89.trans (congrArg some (by kernel_rfl))⟩
 f47 := Try.func90.trans (congrArg some (by kernel_rfl))
 f48 := Try.func91.trans (congrArg some (by kernel_rfl))
 f49 := ⟨Try.f92.name, by decide, Try.func92.trans (congrArg some (by kernel_rfl))⟩
 f50 := ⟨Try.f93.name, by decide, Try.func93.trans (congrArg some (by kernel_rfl))⟩
 f57 := ⟨Try.f97.name, by decide, Try.func97.trans (congrArg some (by kernel_rfl))⟩
 t0 := Try.underlying0
 a0 := Try.isAgg0
 z0 := Try.sizeOf0
 v0 := Try.zeroValue0
 t3 := Try.underlying3
 a3 := Try.isAgg3
 z3 := Try.sizeOf3
 v3 := Try.zeroValue3
 t4 := Try.underlying4
 a4 := Try.isAgg4
 z4 := Try.sizeOf4
 v4 := Try.zeroValue4
 t5 := Try.underlying5
 a5 := Try.isAgg5
 z5 := Try.sizeOf5
 v5 := Try.zeroValue5
 t9 := Try.underlying9
 a9 := Try.isAgg9
 z9 := Try.sizeOf9
 v9 := Try.zeroValue9
 t22 := Try.underlying22
 a22 := Try.isAgg22
 z22 := Try.sizeOf22
 v22 := Try.zeroValue22
 t25 := Try.underlying103
 a25 := Try.isAgg103
 z25 := Try.sizeOf103
 v25 := Try.zeroValue103
 t39 := Try.underlying99
 a39 := Try.isAgg99
 z39 := Try.sizeOf99
 v39 := Try.zeroValue99
 t45 := Try.underlying126
 a45 := Try.isAgg126
 z45 := Try.sizeOf126
 v45 := Try.zeroValue126
 t46 := Try.underlying127
 a46 := Try.isAgg127
 z46 := Try.sizeOf127
 v46 := Try.zeroValue127
 t50 := Try.underlying131
 a50 := Try.isAgg131
 z50 := Try.sizeOf131
 v50 := Try.zeroValue131
 t53 := Try.underlying134
 a53 := Try.isAgg134
 z53 := Try.sizeOf134
 v53 := Try.zeroValue134
 t55 := Try.underlying47
 a55 := Try.isAgg47
 z55 := Try.sizeOf47
 v55 := Try.zeroValue47
 t66 := Try.underlying139
 a66 := Try.isAgg139
 z66 := Try.sizeOf139
 v66 := Try.zeroValue139
 t70 := Try.underlying142
 a70 := Try.isAgg142
 z70 := Try.sizeOf142
 v70 := Try.zeroValue142
 t76 := Try.underlying150
 a76 := Try.isAgg150
 z76 := Try.sizeOf150
 v76 := Try.zeroValue150
 t77 := Try.underlying151
 a77 := Try.isAgg151
 z77 := Try.sizeOf151
 v77 := Try.zeroValue151 }
def cloneMap_ren : Go.Shelf.Ren := ⟨fun | 5 => 33 | 7 => 54 | n => n, fun | 23 => 52 | 25 => 9 | 3 => 31 | 4 => 4 | 20 => 20 | n => n, fun | n => n⟩
theorem cloneMap : Go.Proofs.SlLaysW.n5 Try.prog cloneMap_ren := {
 mixed := by kernel_rfl
 f5 := ⟨Try.f33.name, by decide, Try.func33.trans (congrArg some (by kernel_rfl))⟩
 f7 := Try.func54.trans (congrArg some (by kernel_rfl))
 t4 := Try.underlying4
 a4 := Try.isAgg4
 z4 := Try.sizeOf4
 v4 := Try.zeroValue4
 t20 := Try.underlying20
 a20 := Try.isAgg20
 z20 := Try.sizeOf20
 v20 := Try.zeroValue20
 t23 := Try.underlying52
 a23 := Try.isAgg52
 z23 := Try.sizeOf52
 v23 := Try.zeroValue52 }
end Go.Proofs.Ytladpaehbolghaa

namespace Go.Proofs.Ytladpaehbolghaa
open Go Go.RowKit K SH GC JR OS Go.Sort
abbrev SB := {x : AcT // x.2.oneCell' = true}
instance : Inhabited SB := ⟨⟨(⟨[], false, []⟩, .slice none 0 0), rfl⟩⟩
abbrev sbC (x : SB) : List Value := acP x.1
theorem as_sb : ∀ {L : List AcT}, (∀ x ∈ L, x.2.oneCell' = true) → ∃ L' : List SB, L'.map Subtype.val = L
 | [], _ => ⟨[], rfl⟩
 | x :: L, h => by
  obtain ⟨L', e⟩ := as_sb (L := L) fun y hy => h y (List.mem_cons_of_mem _ hy)
  exact ⟨⟨x, h x (List.mem_cons_self ..)⟩ :: L', by rw [List.map_cons, e]⟩
theorem sb_E (v : Value) (M : List SB) : acE v (M.map Subtype.val) = rowE v 33 3 M.length (M.flatMap sbC) := by
 show rowE v 33 3 (M.map Subtype.val).length ((M.map Subtype.val).flatMap acP) = _
 rw [List.flatMap_map, List.length_map]
theorem cmpA (W : World) (x y : AcT) : Ret Try.prog 56 #[.agg (acP x).toArray, .agg (acP y).toArray] W fun v w' => v = .int .i64 (Lib.compareBytes x.1.key y.1.key) ∧ Gro W w' := by
 refine ret_of Try.call56 Try.func56 rfl Try.ntmps56 Try.results56 rfl ?_
 refine wc_seq ?_
 refine wc_region ?_
 refine wl_boxX rfl rfl ?_
 refine wl_boxX rfl rfl ?_
 refine wl_val (v_assign' (by conv => (lhs; whnf))) rfl ?_
 refine wl_nil ?_
 refine then_go ?_
 refine wc_seq ?_
 obtain ⟨W2, hW2⟩ : ∃ W2, W2 = grow (grow W #[.cells (acP x).toArray 33 (0, 0)]) #[.cells (acP y).toArray 33 (0, 0)] := ⟨_, rfl⟩
 have g2 : Gro W W2 := by rw [hW2, grow_grow]; exact ⟨0, _, rfl⟩
 have hA : W2.heap[W.heap.size]? = some (.cells (acP x).toArray 33 (0, 0)) := by rw [hW2, grow_grow]; exact grow_at (k := 0)
 have hB : W2.heap[(grow W #[.cells (acP x).toArray 33 (0, 0)]).heap.size]? = some (.cells (acP y).toArray 33 (0, 0)) := by rw [hW2, grow_grow, size_grow]; exact grow_at (k := 1)
 change WC _ _ _ _ _ (grow (grow W #[.cells (acP x).toArray 33 (0, 0)]) #[.cells (acP y).toArray 33 (0, 0)])
 rw [← hW2]
 refine wc_region ?_
 refine wl_val (v_fa TF.f33_0 rfl) rfl ?_
 refine wl_val (v_load rfl (reads_row TF.t9 hA rfl)) rfl ?_
 refine wl_s2bX (l := x.1.key) Try.underlying9 Try.underlying31 Try.underlying5 rfl rfl ?_
 intro v7 o7 h7
 obtain ⟨W3, hW3⟩ : ∃ W3, W3 = grow (W2.drewN 1) #[o7] := ⟨_, rfl⟩
 have g3 : Gro W W3 := by rw [hW3]; exact g2.trans .one
 have hB : W3.heap[(grow W #[.cells (acP x).toArray 33 (0, 0)]).heap.size]? = some (.cells (acP y).toArray 33 (0, 0)) := by rw [hW3]; exact grow_old hB
 have hO : W3.heap[W2.heap.size]? = some o7 := by rw [hW3]; exact grow_new
 rw [← hW3]
 refine wl_val (v_fa TF.f33_0 rfl) rfl ?_
 refine wl_val (v_load rfl (reads_row TF.t9 hB rfl)) rfl ?_
 refine wl_s2bX (l := y.1.key) Try.underlying9 Try.underlying31 Try.underlying5 rfl rfl ?_
 intro v10 o10 h10
 obtain ⟨W4, hW4⟩ : ∃ W4, W4 = grow (W3.drewN 1) #[o10] := ⟨_, rfl⟩
 have g4 : Gro W W4 := by rw [hW4]; exact g3.trans .one
 have hO4 : W4.heap[W2.heap.size]? = some o7 := by rw [hW4]; exact grow_old hO
 have hO5 : W4.heap[W3.heap.size]? = some o10 := by rw [hW4]; exact grow_new
 rw [← hW4]
 refine wl_call rfl (c_bcompareW (m := fun k => W4.heap[k]?) (wI := W4) (fun _ _ h => h) (h7 _ hO4) (h10 _ hO5)) rfl ?_
 rintro v11 w ⟨rfl, rfl⟩
 refine wl_val (v_assign' (by conv => (lhs; whnf))) rfl ?_
 refine wl_nil ?_
 refine then_go ?_
 refine wc_ret ?_
 exact ret1 rfl ⟨rfl, g4⟩
theorem c_sortAct {m0 m : Mem} {F : List Nat} {w0 w : World} {Es : List Ent} {v : Value} {L : List AcT} (st : St m0 m F w0 w (acE v L :: Es)) (hone : ∀ x ∈ L, x.2.oneCell' = true) (hl : L.length ≤ 1000000000) :
  Ret Try.prog 55 #[v, .func (.func 56) #[] #[]] w fun _ w' => ∃ L', L'.Perm L ∧ L'.Pairwise (fun x y => ¬ y.1.key < x.1.key) ∧ St m0 m F w0 w' (acE v L' :: Es) := by
 obtain ⟨M, rfl⟩ := as_sb hone
 refine ⟨Try.call55, Calls.mono (sort_row (enc := sbC) sortAct rfl TF.t33 (fun x => rfl) (fun x u hu => by
   simp only [sbC, acP, acC, List.cons_append, List.nil_append, List.mem_cons, List.not_mem_nil, or_false] at hu
   rcases hu with rfl | rfl | rfl
   ·rfl
   ·rfl
   ·exact x.2) (cmpB_swo fun x : SB => x.1.1.key) Try.call56
  (fun W x y => Calls.mono (cmpA W x.1 y.1).2 fun e w' ⟨v, h, e2, q⟩ => ⟨h.trans (congrArg _ e2), q⟩) (L := M) (v := v) st 0 (congrArg some (sb_E v M)) (by simpa using hl)) ?_⟩
 rintro e w' ⟨rfl, L', hp, hs, st⟩
 refine ⟨_, rfl, L'.map Subtype.val, hp.map _, ?_, by rw [sb_E]; exact st⟩
 rw [List.pairwise_map]
 exact hs.imp fun h => by simpa [ltOf, cmpB_lt] using h
end Go.Proofs.Ytladpaehbolghaa

namespace Go.Proofs.Ytladpaehbolghaa
open Go Go.RowKit K SH GC JR OS
namespace OS
def toAct (x : By × DV) : AcT := (⟨x.1, true, x.2.1⟩, x.2.2)
end OS
section
open OS
variable {m0 m : Mem} {w0 w : World} {Es : List Ent}
theorem c_swhole {mb : Nat} {L : List (By × DV)} (st : St m0 m [] w0 w (kmE mb L :: Es)) (hL : KvOk m L) (hl : L.length ≤ 1000000) :
  Ret Try.prog 34 #[.map (some mb)] w fun v w' => ∃ A : List AcT, A.Perm (L.map toAct) ∧ (A.map (·.1.key)).Pairwise (· < ·) ∧ St m0 m [] w0 w' (acE v A :: kmE mb L :: Es) := by
 obtain ⟨es, clock, he, st⟩ := st.mapFix 0 rfl
 have st : St m0 m [] w0 w (K.objE mb (.map es clock) :: Es) := st
 refine ret_of Try.call34 Try.func34 rfl Try.ntmps34 Try.results34 rfl ?_
 refine wc_seq ?_
 refine wc_region ?_
 refine wl_val (v_assign' (by conv => (lhs; whnf))) rfl ?_
 refine wl_nil ?_
 refine then_go ?_
 refine wc_seq ?_
 refine wc_region ?_
 refine wl_val (v_assign' (by conv => (lhs; whnf))) rfl ?_
 refine wl_nil ?_
 refine then_go ?_
 refine wc_seq ?_
 refine wc_seq ?_
 refine wc_region ?_
 refine wl_val (v_move' (by conv => (lhs; whnf))) rfl ?_
 refine wl_range st (st.at (i := 0) rfl) he Try.underlying52 rfl rfl ?_
 intro g6 w hg6 st
 refine wl_nil ?_
 refine then_go ?_
 refine wc_block ?_
 have st : St m0 m [] w0 w (acE (.slice none 0 0) [] :: iterE strV (fun x : DV => x.2) es clock mb g6 L :: K.objE mb (.map es clock) :: Es) := nilRow st 33 3
 refine wc_loop (S := Nat) (fun q r w' => ∃ (v : Value) (A : List AcT) (R : List (By × DV)), q = R.length ∧ r 0 = .map (some mb) ∧ r 3 = v ∧ r 6 = .pointer (some ⟨g6, 0, none⟩) ∧ (A ++ R.map toAct).Perm (L.map toAct) ∧ St m0 m [] w0 w' (acE v A :: iterE strV (fun x : DV => x.2) es clock mb g6 R :: K.objE mb (.map es clock) :: Es)) id _ ⟨_, [], L, rfl, rfl, rfl, rfl, List.Perm.refl _, st⟩ ?_
 clear st
 rintro q r w2 ⟨v, A, R, hq, g0, g3, g6e, hperm, st⟩
 refine wc_o 0 g0 (wc_o 3 g3 (wc_o 6 g6e ?_))
 have hAl : A.length + R.length ≤ 1000000 := by have := hperm.length_eq; simp at this; omega
 refine wc_seq ?_
 rcases next_or (P := Try.prog) (ty := 0) 1 st rfl (st.at (i := 2) rfl) he with ⟨hR, hrun⟩ | ⟨p1, y, p2, w3, hR, st, hent, hrun, _⟩
 ·refine wc_region ?_
  refine wl_val (v_next hrun rfl) rfl ?_
  refine wl_val (v_extract rfl rfl) rfl ?_
  refine wl_nil ?_
  refine then_go ?_
  refine wc_seq ?_
  refine wc_false rfl ?_
  refine wc_exit (then_exit (then_exit (block_hit ?_)))
  refine then_go ?_
  refine wc_seq ?_
  refine wc_region ?_
  refine wl_val (v_move' (by conv => (lhs; whnf))) rfl ?_
  subst hR
  have hone : ∀ x ∈ A, x.2.oneCell' = true := fun x hx => by
   have h1 := hperm.mem_iff.1 (List.mem_append_left _ hx)
   obtain ⟨z, hz, e⟩ := List.mem_map.1 h1
   rw [← e]
   exact SlM.one1 (hL z hz).2.2
  refine wl_call rfl (c_sortAct st hone (by omega)) rfl ?_
  rintro v20 w ⟨A', hp', hs', st⟩
  refine wl_nil ?_
  refine then_go ?_
  refine wc_seq ?_
  refine wc_region ?_
  refine wl_val (v_move' (by conv => (lhs; whnf))) rfl ?_
  refine wl_val (v_assign' (by conv => (lhs; whnf))) rfl ?_
  refine wl_nil ?_
  refine then_go ?_
  refine wc_ret ?_
  have st := (st.drop 1).mapLoose 1 rfl he
  refine ret1 rfl ⟨A', hp'.trans (by simpa using hperm), ?_, st⟩
  have hnd : (A'.map (·.1.key)).Nodup := by
   have hp2 := (hp'.trans (by simpa using hperm : A.Perm (L.map toAct))).map (fun a : AcT => a.1.key)
   rw [List.map_map] at hp2
   exact hp2.symm.nodup (by exact he.nodup)
  rw [List.pairwise_map]
  refine (List.pairwise_and_iff.2 ⟨hs', List.pairwise_map.1 hnd⟩).imp fun {x y} h => ?_
  rcases List.le_iff_lt_or_eq.1 (List.not_lt.1 h.1) with h2 | h2
  ·exact h2
  ·exact (h.2 h2).elim
 ·refine wc_region ?_
  refine wl_val (v_next hrun rfl) rfl ?_
  refine wl_val (v_extract rfl rfl) rfl ?_
  refine wl_nil ?_
  refine then_go ?_
  refine wc_seq ?_
  refine wc_true rfl ?_
  refine wc_skip ?_
  refine then_go ?_
  refine wc_block ?_
  refine wc_seq ?_
  have hyL : y ∈ L := by
   have h1 : toAct y ∈ L.map toAct := hperm.mem_iff.1 (List.mem_append_right A (List.mem_map.2 ⟨y, by rw [hR]; simp, rfl⟩))
   obtain ⟨z, hz, e⟩ := List.mem_map.1 h1
   obtain ⟨k, d, v⟩ := y
   obtain ⟨k', d', v'⟩ := z
   simp only [toAct, Prod.mk.injEq, Ac.mk.injEq, true_and] at e
   obtain ⟨⟨rfl, rfl⟩, rfl⟩ := e
   exact hz
  obtain ⟨hk64, hd20, hsl⟩ := hL y hyL
  have hget : getKV y.1 L = some y.2 := (mem_getKV he.nodup).1 hyL
  have st : St m0 m [] w0 w3 (acE v A :: iterE strV (fun x : DV => x.2) es clock mb g6 (p1 ++ p2) :: K.objE mb (.map es clock) :: Es) := st
  have o1 := cells_one (SlM.one1 hsl)
  refine wc_region ?_
  refine wl_val (v_entry hent rfl) rfl ?_
  refine wl_val (v_extract rfl rfl) rfl ?_
  refine wl_val (v_assign' (by conv => (lhs; whnf))) rfl ?_
  refine wl_nil ?_
  refine then_go ?_
  refine wc_region ?_
  refine wl_val (v_move' (by conv => (lhs; whnf))) rfl ?_
  refine wl_val (v_move' (by conv => (lhs; whnf))) rfl ?_
  refine wl_val (v_move' (by conv => (lhs; whnf))) rfl ?_
  refine wl_val (v_move' (by conv => (lhs; whnf))) rfl ?_
  refine wl_val (v_to (v' := y.2.2) (v_mapGetH (st.at (i := 2) rfl) he kt_str Try.underlying52 TF.z31 hL.keys (by omega) rfl rfl false) (by rw [hget]; rfl)) rfl ?_
  refine wl_val (v_build (c' := (acC ⟨y.1, true, y.2.1⟩ y.2.2).toArray) [(0, .string (strB y.1)), (1, .bool true), (2, y.2.2)] TF.z33 TF.p33 rfl (fill_one [] [.string ⟨#[]⟩] [.bool false, .slice none 0 0] rfl rfl rfl (fill_one [.string (strB y.1)] [.bool false] [.slice none 0 0] rfl rfl rfl (fill_one [.string (strB y.1), .bool true] [.slice none 0 0] [] rfl rfl (by rw [o1]; rfl) (by rw [o1]; rfl))))) rfl ?_
  have hao : AcOk m ⟨y.1, true, y.2.1⟩ y.2.2 := ⟨by show y.1.length ≤ _; omega, hsl⟩
  refine wl_lsOne (acC ⟨y.1, true, y.2.1⟩ y.2.2) Try.underlying22 TF.t33 TF.z33 (by decide) (by decide) (Ac.len hao) rfl st rfl ?_
  intro b17 w st
  refine wl_lsApp (c := acP) (e := toAct y) 0 st rfl Try.underlying22 TF.t33 TF.z33 rfl rfl (Ac.one hao) rfl rfl (by omega) (by omega) rfl ?_
  intro v18 w st hv18
  have st : St m0 m [] w0 w (acE v18 (A ++ [toAct y]) :: iterE strV (fun x : DV => x.2) es clock mb g6 (p1 ++ p2) :: K.objE mb (.map es clock) :: Es) := st
  refine wl_val (v_assign' (by conv => (lhs; whnf))) rfl ?_
  refine wl_nil ?_
  refine block_go (then_go ?_)
  refine ⟨(p1 ++ p2).length, ?_, v18, A ++ [toAct y], p1 ++ p2, rfl, rfl, rfl, rfl, ?_, st⟩
  ·rw [hq, hR]; simp
  ·refine List.Perm.trans ?_ hperm
   rw [hR]
   simp only [List.map_append, List.map_cons, List.append_assoc, List.singleton_append]
   exact (List.perm_middle (l₁ := p1.map toAct)).symm.append_left A
end
end Go.Proofs.Ytladpaehbolghaa

namespace Go.Proofs.Ytladpaehbolghaa
open Go Go.RowKit K SH DK JR
section
variable {m0 m : Mem} {F : List Nat} {w0 w : World} {Es : List Ent}
def LogOut (m0 m : Mem) (w0 w' : World) (Es : List Ent) (g b s n : Nat) (o : DS × LG × Int) (N : List (By × Value)) (L L' : List By) (v : Value) : Prop :=
 ∃ m' wv' lv' N', (∀ k o, m k = some o → m' k = some o) ∧ v = .int .i64 o.2.2 ∧ Pcs m' N' ∧ PcsN m m' N N' ∧ N'.map (·.1) = (if o.2.2 = 0 then L' else L) ∧ St m0 m' [] w0 w' (logB g b o.2.1 lv' :: lrE lv' N' :: diskO b s n wv' o.1 :: Es)
theorem p132 {a b c : Ent} {l : List Ent} : List.Perm (a :: b :: c :: l) (a :: c :: b :: l) := List.Perm.cons _ (List.Perm.swap _ _ _)
theorem c_append {g b s n : Nat} {sl : LG} {lv wv bv : Value} {d : DS} {N : List (By × Value)} {x : By} (st : St m0 m [] w0 w (logB g b sl lv :: lrE lv N :: diskO b s n wv d :: Es)) (hr : Rdy n d 100000) (hP : Pcs m N) (hx : SlM m bv 1 x.length (bs x)) (hsl : sl.half ≤ 1) (hf1 : sl.fin ≤ n / 2 * 64) (hNn : N.length ≤ 1048576) :
  Ret Try.prog 16 #[.pointer (some ⟨g, 0, none⟩), bv] w fun v w' => LogOut m0 m w0 w' Es g b s n (appD n d sl (N.map (·.1)) x) N (N.map (·.1)) (N.map (·.1) ++ [x]) v := by
 obtain ⟨ba, bc, rfl, hbc⟩ := hx.opn
 have hn := hr.ok.le
 obtain ⟨la, lc, hlv⟩ := row_sl (st.at (i := 1) rfl)
 have hNL : (N.map (·.1)).length = N.length := List.length_map _
 have hrl := length_recB sl.gen (UInt64.ofNat N.length) x
 have hmm0 : ∀ k o, m k = some o → m k = some o := fun _ _ h => h
 have bad : ∀ {d' : DS} {e : Int} {m' : Mem} {wv' : Value} {w' : World}, appD n d sl (N.map (·.1)) x = (d', sl, e) → e ≠ 0 → (∀ k o, m k = some o → m' k = some o) → St m0 m' [] w0 w' (logB g b sl lv :: diskO b s n wv' d' :: lrE lv N :: Es) → LogOut m0 m w0 w' Es g b s n (appD n d sl (N.map (·.1)) x) N (N.map (·.1)) (N.map (·.1) ++ [x]) (.int .i64 e) := by
  intro d' e m' wv' w' ho he hmm st
  unfold LogOut
  rw [ho]
  exact ⟨m', wv', lv, N, hmm, rfl, hP.mono hmm, .refl, by rw [if_neg he], st.perm p132⟩
 have st : St m0 m [] w0 w (logB g b sl lv :: diskO b s n wv d :: lrE lv N :: Es) := st.perm p132
 refine ret_of Try.call16 Try.func16 rfl Try.ntmps16 Try.results16 rfl ?_
 refine wc_seq ?_
 refine wc_region ?_
 refine wl_val (v_assign' (by conv => (lhs; whnf))) rfl ?_
 refine wl_nil ?_
 refine then_go ?_
 refine wc_seq ?_
 refine wc_seq ?_
 refine wc_region ?_
 refine wl_val (v_move' (by conv => (lhs; whnf))) rfl ?_
 refine wl_call rfl (c_jcheck st.im hx) rfl ?_
 rintro v9 w ⟨t9, rfl⟩
 have st := st.pure t9
 have hck : (if 1 ≤ x.length ∧ x.length ≤ 1048576 then (0 : Int) else 1) = ((checkE x : Nat) : Int) := by unfold checkE; split <;> rfl
 rw [hck]
 refine wl_val (v_assign' (by conv => (lhs; whnf))) rfl ?_
 refine wl_nil ?_
 refine then_go ?_
 refine wc_seq ?_
 refine wc_region ?_
 refine wl_val (v_move' (by conv => (lhs; whnf))) rfl ?_
 refine wl_val (v_neq rfl rfl) rfl ?_
 refine wl_nil ?_
 refine then_go ?_
 refine wc_cond rfl (fun h11 => ?_) (fun h11 => ?_)
 ·refine wc_seq ?_
  refine wc_region ?_
  refine wl_val (v_move' (by conv => (lhs; whnf))) rfl ?_
  refine wl_val (v_assign' (by conv => (lhs; whnf))) rfl ?_
  refine wl_nil ?_
  refine then_go ?_
  refine wc_ret (then_ret ?_)
  have hz := of_decide_eq_true h11
  have h1 : checkE x = 1 := by
   have : checkE x = 0 ∨ checkE x = 1 := by
    unfold checkE
    split
    ·exact .inl rfl
    ·exact .inr rfl
   rcases this with h | h
   ·exact (hz (by rw [h]; rfl)).elim
   ·exact h
  exact ret1 (v := .int .i64 1) (by rw [h1]; rfl) (bad (by unfold appD; rw [if_pos (by omega)]) (by decide) hmm0 st)
 ·refine wc_skip ?_
  refine then_go ?_
  refine wc_seq ?_
  have hc0 : ¬ checkE x ≠ 0 := fun h => of_decide_eq_false h11 (by omega)
  have hxm : 1 ≤ x.length ∧ x.length ≤ 1048576 := by
   unfold checkE at hc0
   split at hc0
   ·assumption
   ·exact (hc0 (by decide)).elim
  have hrl2 : recL x.length ≤ 1048696 := by unfold recL; omega
  refine wc_draw TF.mixed ?_
  have st := st.pure (touch_drew _)
  refine fl_val 0 rfl (fun _ => (v_move' (by conv => (lhs; whnf)))) rfl (by kernel_rfl) ?_
  refine fl_val 1 rfl (fun _ => (v_nil rfl)) rfl (by kernel_rfl) ?_
  refine fl_val 2 rfl (fun _ => (v_fa TF.f75_2 rfl)) rfl (by kernel_rfl) ?_
  refine fl_ld 3 rfl (v_load rfl (by first | exact st.reads (v := u64 sl.gen) 0 rfl TF.t47 rfl | exact st.reads (v := u64 sl.gen) 1 rfl TF.t47 rfl)) (by kernel_rfl) ?_
  refine fl_val 4 rfl (fun _ => (v_move' (by conv => (lhs; whnf)))) rfl (by kernel_rfl) ?_
  refine fl_val 5 rfl (fun _ => (v_nil rfl)) rfl (by kernel_rfl) ?_
  refine fl_val 6 rfl (fun _ => (v_fa TF.f75_4 rfl)) rfl (by kernel_rfl) ?_
  refine fl_ld 7 rfl (v_load rfl (by first | exact st.reads (v := .slice la N.length lc) 0 rfl TF.t35 (by rw [hlv]; rfl) | exact st.reads (v := .slice la N.length lc) 1 rfl TF.t35 (by rw [hlv]; rfl))) (by kernel_rfl) ?_
  refine fl_val 8 rfl (fun _ => (v_len_s Try.underlying35 rfl)) rfl (by kernel_rfl) ?_
  refine fl_val 9 rfl (fun _ => (v_convi_64 Try.underlying3 Try.underlying47 rfl)) rfl (by kernel_rfl) ?_
  refine fl_val 10 rfl (fun _ => (v_move' (by conv => (lhs; whnf)))) rfl (by kernel_rfl) ?_
  refine fl_eff1 11 [8, 6, 5, 4, 2, 1, 0] [7] (by kernel_rfl) ⟨obl_ld rfl rfl rfl (v_load rfl (by first | exact st.reads (v := .slice la N.length lc) 0 rfl TF.t35 (by rw [hlv]; rfl) | exact st.reads (v := .slice la N.length lc) 1 rfl TF.t35 (by rw [hlv]; rfl))), obl_ld rfl rfl rfl (v_load rfl (by first | exact st.reads (v := u64 sl.gen) 0 rfl TF.t47 rfl | exact st.reads (v := u64 sl.gen) 1 rfl TF.t47 rfl)), trivial⟩ rfl ?_
  refine wl_call rfl (c_jrecord (g := sl.gen) (s := UInt64.ofNat N.length) st hx (by omega)) rfl ?_
  intro v24 w st
  have st1 := st
  obtain ⟨m1, hg1, hm1, st⟩ := st.freezeR (i := 0) rfl (by simp)
  obtain ⟨R, hR⟩ : ∃ R, R = recB sl.gen (UInt64.ofNat N.length) x := ⟨_, rfl⟩
  rw [← hR] at hrl st1
  have hRm : SlM m1 v24 1 R.length (bs R) := row_SlM (m := m1) (st1.at (i := 0) rfl) hm1
  have st : St m0 m1 [] w0 w (logB g b sl lv :: diskO b s n wv d :: lrE lv N :: Es) := st
  have hmm1 := hg1.le
  have hx := hx.mono hmm1
  obtain ⟨Ra, Rc, hRv, _⟩ := hRm.opn
  subst hRv
  have hRe : recB sl.gen (UInt64.ofNat (N.map (·.1)).length) x = R := by rw [hNL, hR]
  refine wl_nil ⟨rfl, ?_⟩
  refine fl_eff1 12 [] [] (by kernel_rfl) ⟨obl_ld rfl rfl rfl (v_load rfl (by first | exact st.reads (v := .slice la N.length lc) 0 rfl TF.t35 (by rw [hlv]; rfl) | exact st.reads (v := .slice la N.length lc) 1 rfl TF.t35 (by rw [hlv]; rfl))), trivial⟩ rfl ?_
  refine wl_val (v_assign' (by conv => (lhs; whnf))) rfl ?_
  refine wl_nil ⟨rfl, ?_⟩
  refine fl_nil (by kernel_rfl) trivial ?_
  refine then_go ?_
  refine wc_seq ?_
  refine wc_seq ?_
  refine wc_draw TF.mixed ?_
  have st := st.pure (touch_drew _)
  refine fl_val 0 rfl (fun _ => (v_move' (by conv => (lhs; whnf)))) rfl (by kernel_rfl) ?_
  refine fl_val 1 rfl (fun _ => (v_len_s Try.underlying31 rfl)) rfl (by kernel_rfl) ?_
  refine fl_val 2 rfl (fun _ => (v_move' (by conv => (lhs; whnf)))) rfl (by kernel_rfl) ?_
  refine fl_val 4 rfl (fun _ => (v_move' (by conv => (lhs; whnf)))) rfl (by kernel_rfl) ?_
  refine fl_val 5 rfl (fun _ => (v_nil rfl)) rfl (by kernel_rfl) ?_
  refine fl_val 6 rfl (fun _ => (v_fa TF.f75_3 rfl)) rfl (by kernel_rfl) ?_
  refine fl_ld 7 rfl (v_load rfl (st.reads (v := .int .i64 sl.fin) 0 rfl TF.t3 rfl)) (by kernel_rfl) ?_
  refine fl_eff1 3 [6, 5, 4, 1, 0] [7] (by kernel_rfl) ⟨obl_ld rfl rfl rfl (v_load rfl (st.reads (v := .int .i64 sl.fin) 0 rfl TF.t3 rfl)), trivial⟩ rfl ?_
  refine wl_call rfl (c_lsize st hr.ok) rfl ?_
  rintro v28 w ⟨t28, rfl⟩
  have st := st.pure t28
  refine wl_nil ⟨rfl, ?_⟩
  refine fl_val 8 rfl (fun _ => (v_sub' (c := ((n / 2 * 64 - sl.fin : Nat) : Int)) rfl rfl (by omega) (by omega) (by omega))) rfl (by kernel_rfl) ?_
  refine fl_val 9 rfl (fun _ => (v_gtr rfl rfl)) rfl (by kernel_rfl) ?_
  refine fl_nil (by kernel_rfl) ⟨obl_ld rfl rfl rfl (v_load rfl (st.reads (v := .int .i64 sl.fin) 0 rfl TF.t3 rfl)), trivial⟩ ?_
  refine then_go ?_
  refine wc_if rfl (fun h34 => ?_) (fun h34 => ?_)
  ·refine wc_seq ?_
   refine wc_region ?_
   refine wl_val (v_assign' (by conv => (lhs; whnf))) rfl ?_
   refine wl_nil ?_
   refine then_go ?_
   refine wc_ret (then_ret ?_)
   exact ret1 rfl (bad (e := 13) (by unfold appD; rw [if_neg hc0, if_pos (by omega)]) (by decide) hmm1 st)
  ·refine wc_skip ?_
   refine then_go ?_
   refine wc_seq ?_
   refine wc_seq ?_
   refine wc_draw TF.mixed ?_
   have st := st.pure (touch_drew _)
   refine fl_val 0 rfl (fun _ => (v_move' (by conv => (lhs; whnf)))) rfl (by kernel_rfl) ?_
   refine fl_val 1 rfl (fun _ => (v_move' (by conv => (lhs; whnf)))) rfl (by kernel_rfl) ?_
   refine fl_val 2 rfl (fun _ => (v_nil rfl)) rfl (by kernel_rfl) ?_
   refine fl_val 3 rfl (fun _ => (v_fa TF.f75_1 rfl)) rfl (by kernel_rfl) ?_
   refine fl_ld 4 rfl (v_load rfl (st.reads (v := .int .i64 sl.half) 0 rfl TF.t3 rfl)) (by kernel_rfl) ?_
   refine fl_val 5 rfl (fun _ => (v_move' (by conv => (lhs; whnf)))) rfl (by kernel_rfl) ?_
   refine fl_val 6 rfl (fun _ => (v_nil rfl)) rfl (by kernel_rfl) ?_
   refine fl_val 7 rfl (fun _ => (v_fa TF.f75_3 rfl)) rfl (by kernel_rfl) ?_
   refine fl_ld 8 rfl (v_load rfl (st.reads (v := .int .i64 sl.fin) 0 rfl TF.t3 rfl)) (by kernel_rfl) ?_
   refine fl_val 9 rfl (fun _ => (v_move' (by conv => (lhs; whnf)))) rfl (by kernel_rfl) ?_
   refine fl_eff1 10 [7, 6, 5, 3, 2, 1] [] (by kernel_rfl) ⟨obl_ld rfl rfl rfl (v_load rfl (st.reads (v := .int .i64 sl.fin) 0 rfl TF.t3 rfl)), obl_ld rfl rfl rfl (v_load rfl (st.reads (v := .int .i64 sl.half) 0 rfl TF.t3 rfl)), trivial⟩ rfl ?_
   have hfit : ¬ n / 2 * 64 < sl.fin + recL x.length := by omega
   refine wl_call rfl (c_put (hf := sl.half) (at' := sl.fin) st hr hRm (by rw [hrl]; unfold recL; omega) (by omega) hsl (by omega)) rfl ?_
   rintro v45 w ⟨wv1, st, rfl⟩
   have hd1 : putD n d ((sl.half * (n / 2 * 64) + sl.fin) / 64) (recB sl.gen (UInt64.ofNat (N.map (·.1)).length) x) = putD n d ((sl.half * (n / 2 * 64) + sl.fin) / 64) R := by rw [hRe]
   obtain ⟨P1, hP1⟩ : ∃ P1, P1 = putD n d ((sl.half * (n / 2 * 64) + sl.fin) / 64) R := ⟨_, rfl⟩
   rw [← hP1] at st hd1 ⊢
   refine wl_nil ⟨rfl, ?_⟩
   refine fl_eff1 11 [] [] (by kernel_rfl) trivial rfl ?_
   refine wl_val (v_assign' (by conv => (lhs; whnf))) rfl ?_
   refine wl_nil ⟨rfl, ?_⟩
   refine fl_nil (by kernel_rfl) trivial ?_
   refine then_go ?_
   refine wc_seq ?_
   refine wc_region ?_
   refine wl_val (v_move' (by conv => (lhs; whnf))) rfl ?_
   refine wl_val (v_neq rfl rfl) rfl ?_
   refine wl_nil ?_
   refine then_go ?_
   refine wc_cond rfl (fun h47 => ?_) (fun h47 => ?_)
   ·refine wc_seq ?_
    refine wc_region ?_
    refine wl_val (v_move' (by conv => (lhs; whnf))) rfl ?_
    refine wl_val (v_assign' (by conv => (lhs; whnf))) rfl ?_
    refine wl_nil ?_
    refine then_go ?_
    refine wc_ret (then_ret ?_)
    have hz := of_decide_eq_true h47
    exact ret1 rfl (bad (by unfold appD; rw [if_neg hc0, if_neg hfit, hd1, if_pos hz]) hz hmm1 st)
   ·refine wc_skip ?_
    refine then_go ?_
    refine wc_seq ?_
    refine wc_draw TF.mixed ?_
    have st := st.pure (touch_drew _)
    refine fl_val 0 rfl (fun _ => (v_move' (by conv => (lhs; whnf)))) rfl (by kernel_rfl) ?_
    refine fl_val 1 rfl (fun _ => (v_move' (by conv => (lhs; whnf)))) rfl (by kernel_rfl) ?_
    refine fl_val 2 rfl (fun _ => (v_move' (by conv => (lhs; whnf)))) rfl (by kernel_rfl) ?_
    refine fl_val 3 rfl (fun _ => (v_nil rfl)) rfl (by kernel_rfl) ?_
    refine fl_val 4 rfl (fun _ => (v_fa TF.f75_4 rfl)) rfl (by kernel_rfl) ?_
    refine fl_ld 5 rfl (v_load rfl (by first | exact st.reads (v := lv) 0 rfl TF.t35 rfl | exact st.reads (v := lv) 1 rfl TF.t35 rfl)) (by kernel_rfl) ?_
    refine fl_val 6 rfl (fun _ => (v_move' (by conv => (lhs; whnf)))) rfl (by kernel_rfl) ?_
    refine fl_val 10 rfl (fun _ => (v_move' (by conv => (lhs; whnf)))) rfl (by kernel_rfl) ?_
    refine fl_val 11 rfl (fun _ => (v_nil rfl)) rfl (by kernel_rfl) ?_
    refine fl_val 12 rfl (fun _ => (v_fa TF.f75_3 rfl)) rfl (by kernel_rfl) ?_
    refine fl_ld 13 rfl (v_load rfl (by first | exact st.reads (v := .int .i64 sl.fin) 0 rfl TF.t3 rfl | exact st.reads (v := .int .i64 sl.fin) 1 rfl TF.t3 rfl)) (by kernel_rfl) ?_
    refine fl_val 14 rfl (fun _ => (v_move' (by conv => (lhs; whnf)))) rfl (by kernel_rfl) ?_
    refine fl_val 15 rfl (fun _ => (v_len_s Try.underlying31 rfl)) rfl (by kernel_rfl) ?_
    refine fl_val 16 rfl (fun _ => (v_add' (c := ((sl.fin + recL x.length : Nat) : Int)) rfl rfl (by omega) (by omega) (by omega))) rfl (by kernel_rfl) ?_
    refine fl_eff1 7 [16, 15, 14, 12, 11, 10, 4, 3, 2, 1, 0] [13, 5] (by kernel_rfl) ⟨obl_ld rfl rfl rfl (v_load rfl (by first | exact st.reads (v := .int .i64 sl.fin) 0 rfl TF.t3 rfl | exact st.reads (v := .int .i64 sl.fin) 1 rfl TF.t3 rfl)), obl_ld rfl rfl rfl (v_load rfl (by first | exact st.reads (v := lv) 0 rfl TF.t35 rfl | exact st.reads (v := lv) 1 rfl TF.t35 rfl)), trivial⟩ rfl ?_
    refine wl_call rfl (c_bcloneA st.im hx (by omega)) rfl ?_
    rintro v56 w ⟨t56, m2, hg2, hi2, hxv, hap⟩
    have hap : Apart m m2 v56 x := hap.mono hmm1 fun _ _ h => h
    have st := st.grown hg2 t56 hi2
    have hmm2 : ∀ k o, m k = some o → m2 k = some o := fun k o h => hg2.le k o (hmm1 k o h)
    have hP := hP.mono hmm2
    refine wl_nil ⟨rfl, ?_⟩
    refine fl_eff1 8 [16, 15, 14, 12, 11, 10, 4, 3, 2, 1, 0] [13, 5] (by kernel_rfl) ⟨obl_ld rfl rfl rfl (v_load rfl (by first | exact st.reads (v := .int .i64 sl.fin) 0 rfl TF.t3 rfl | exact st.reads (v := .int .i64 sl.fin) 1 rfl TF.t3 rfl)), obl_ld rfl rfl rfl (v_load rfl (by first | exact st.reads (v := lv) 0 rfl TF.t35 rfl | exact st.reads (v := lv) 1 rfl TF.t35 rfl)), trivial⟩ rfl ?_
    refine wl_svOne (v := v56) Try.underlying35 TF.t31 TF.z31 (SlM.one1 hxv) rfl st rfl ?_
    intro b57 w st
    refine wl_nil ⟨rfl, ?_⟩
    refine fl_eff1 9 [16, 15, 14, 12, 11, 10, 4, 3, 2, 1, 0] [13] (by kernel_rfl) ⟨obl_ld rfl rfl rfl (v_load rfl (by first | exact st.reads (v := .int .i64 sl.fin) 0 rfl TF.t3 rfl | exact st.reads (v := .int .i64 sl.fin) 1 rfl TF.t3 rfl)), obl_ld rfl rfl rfl (v_load rfl (by first | exact st.reads (v := lv) 0 rfl TF.t35 rfl | exact st.reads (v := lv) 1 rfl TF.t35 rfl)), trivial⟩ rfl ?_
    refine wl_lrApp (x := x) 2 st rfl (SlM.one1 hxv) rfl rfl (by omega) rfl ?_
    intro v58 w st
    have st : St m0 m2 [] w0 w (logB g b sl lv :: diskO b s n wv1 P1.1 :: lrE v58 (N ++ [(x, v56)]) :: Es) := st
    refine wl_nil ⟨rfl, ?_⟩
    refine fl_val 17 rfl (fun _ => (v_nil rfl)) rfl (by kernel_rfl) ?_
    refine fl_val 18 rfl (fun _ => (v_fa TF.f75_4 rfl)) rfl (by kernel_rfl) ?_
    refine fl_eff1 19 [17, 16, 15, 14, 12, 11, 10, 1] [] (by kernel_rfl) ⟨obl_ld rfl rfl rfl (v_load rfl (by first | exact st.reads (v := .int .i64 sl.fin) 0 rfl TF.t3 rfl | exact st.reads (v := .int .i64 sl.fin) 1 rfl TF.t3 rfl)), trivial⟩ rfl ?_
    refine wl_store1 (v := v58) 0 st rfl TF.t35 rfl rfl (row_one (st.at (i := 2) rfl)) (lt_ok rfl) ?_
    intro w st
    have st : St m0 m2 [] w0 w (logB g b sl v58 :: diskO b s n wv1 P1.1 :: lrE v58 (N ++ [(x, v56)]) :: Es) := st
    refine wl_nil ⟨rfl, ?_⟩
    refine fl_val 20 rfl (fun _ => (v_nil rfl)) rfl (by kernel_rfl) ?_
    refine fl_val 21 rfl (fun _ => (v_fa TF.f75_3 rfl)) rfl (by kernel_rfl) ?_
    refine fl_eff1 22 [20] [] (by kernel_rfl) trivial rfl ?_
    refine wl_store1 (v := .int .i64 ((sl.fin + recL x.length : Nat) : Int)) 0 st rfl TF.t3 rfl rfl rfl (lt_ok rfl) ?_
    intro w st
    have st : St m0 m2 [] w0 w (logB g b { sl with fin := sl.fin + recL x.length } v58 :: diskO b s n wv1 P1.1 :: lrE v58 (N ++ [(x, v56)]) :: Es) := st
    refine wl_nil ⟨rfl, ?_⟩
    refine fl_nil (by kernel_rfl) trivial ?_
    refine then_go ?_
    refine wc_seq ?_
    refine wc_region ?_
    refine wl_val (v_assign' (by conv => (lhs; whnf))) rfl ?_
    refine wl_nil ?_
    refine then_go ?_
    refine wc_ret ?_
    have hz := of_decide_eq_false h47
    have hfin : appD n d sl (N.map (·.1)) x = (P1.1, { sl with fin := sl.fin + recL x.length }, 0) := by unfold appD; rw [if_neg hc0, if_neg hfit, hd1, if_neg hz]
    refine ret1 (v := .int .i64 0) rfl ?_
    unfold LogOut
    rw [hfin]
    exact ⟨m2, wv1, v58, N ++ [(x, v56)], hmm2, rfl, hP.snoc hxv, fun y hy => (List.mem_append.1 hy).imp id fun hy => by rw [List.mem_singleton.1 hy]; exact hap, by rw [if_pos rfl, List.map_append]; rfl, st.perm p132⟩
def resD (n : Nat) (d : DS) (s : LG) (M : List By) : DS × LG × Int := if ∃ b ∈ M, checkE b ≠ 0 then (d, s, 1) else overD n d s M
theorem checkE_or (x : By) : checkE x = 0 ∨ checkE x = 1 := by
 unfold checkE
 split
 ·exact .inl rfl
 ·exact .inr rfl
theorem checkE_len {x : By} (h : ¬ checkE x ≠ 0) : 1 ≤ x.length ∧ x.length ≤ 1048576 := by
 unfold checkE at h
 split at h
 ·assumption
 ·exact (h (by decide)).elim
theorem c_restart {g b s n : Nat} {sl : LG} {lv wv nv : Value} {d : DS} {N M : List (By × Value)} (st : St m0 m [] w0 w (logB g b sl lv :: lrE lv N :: diskO b s n wv d :: Es)) (hr : Rdy n d 100000) (hP : Pcs m N) (hn8 : 8 ≤ n) (hsl : sl.half ≤ 1) (hM : PcsM m nv M) (hMn : M.length ≤ 1048576) :
  Ret Try.prog 35 #[.pointer (some ⟨g, 0, none⟩), nv] w fun v w' => LogOut m0 m w0 w' Es g b s n (resD n d sl (M.map (·.1))) N (N.map (·.1)) (M.map (·.1)) v := by
 obtain ⟨na, nc, hlv⟩ : ∃ a c, nv = .slice a M.length c := by obtain ⟨⟨_, a, c, h, _⟩, _⟩ := hM; exact ⟨a, c, h⟩
 subst hlv
 have hmm0 : ∀ k o, m k = some o → m k = some o := fun _ _ h => h
 refine ret_of Try.call35 Try.func35 rfl Try.ntmps35 Try.results35 rfl ?_
 refine wc_seq ?_
 refine wc_region ?_
 refine wl_val (v_assign' (by conv => (lhs; whnf))) rfl ?_
 refine wl_nil ?_
 refine then_go ?_
 refine wc_seq ?_
 refine wc_seq ?_
 refine wc_region ?_
 refine wl_val (v_move' (by conv => (lhs; whnf))) rfl ?_
 refine wl_val (v_len_s Try.underlying35 rfl) rfl ?_
 refine wl_val (v_move' (by conv => (lhs; whnf))) rfl ?_
 refine wl_nil ?_
 refine then_go ?_
 refine wc_block ?_
 refine wc_loop (S := Nat) (fun q r w' => ∃ (i : Nat), q + i = M.length ∧ r 0 = .pointer (some ⟨g, 0, none⟩) ∧ r 1 = .slice na M.length nc ∧ r 8 = .slice na M.length nc ∧ r 9 = .int .i64 M.length ∧ r 10 = .int .i64 i ∧ (∀ x ∈ M.take i, ¬ checkE x.1 ≠ 0) ∧ St m0 m [] w0 w' (logB g b sl lv :: lrE lv N :: diskO b s n wv d :: Es)) id M.length ⟨0, by omega, rfl, rfl, rfl, rfl, rfl, by simp, st⟩ ?_
 clear st
 rintro q r w2 ⟨i, hqi, g0, g1, g8, g9, g10, hck, st⟩
 refine wc_o 0 g0 (wc_o 1 g1 (wc_o 8 g8 (wc_o 9 g9 (wc_o 10 g10 ?_))))
 refine wc_seq ?_
 refine wc_region ?_
 refine wl_val (v_lss rfl rfl) rfl ?_
 refine wl_nil ?_
 refine then_go ?_
 refine wc_seq ?_
 refine wc_if rfl (fun h11 => ?_) (fun h11 => ?_)
 ·refine wc_skip ?_
  refine then_go ?_
  refine wc_seq ?_
  refine wc_block ?_
  refine wc_seq ?_
  have hi : i < M.length := by omega
  obtain ⟨nb, no, _, hnv, hsk, hrk⟩ := hM.elem hi
  cases hnv
  refine wc_region ?_
  refine wl_val (v_ias i Try.underlying35 TF.t31 rfl rfl (by first | rfl | omega) (by first | omega | (dsimp only at *; omega))) rfl ?_
  refine wl_val (v_load rfl (hrk st.im)) rfl ?_
  refine wl_val (v_assign' (by conv => (lhs; whnf))) rfl ?_
  refine wl_nil ?_
  refine then_go ?_
  refine wc_seq ?_
  refine wc_region ?_
  refine wl_val (v_move' (by conv => (lhs; whnf))) rfl ?_
  refine wl_call rfl (c_jcheck st.im hsk) rfl ?_
  rintro v15 w ⟨t15, rfl⟩
  have st := st.pure t15
  have hcq : (if 1 ≤ M[i].1.length ∧ M[i].1.length ≤ 1048576 then (0 : Int) else 1) = ((checkE M[i].1 : Nat) : Int) := by unfold checkE; split <;> rfl
  rw [hcq]
  refine wl_val (v_assign' (by conv => (lhs; whnf))) rfl ?_
  refine wl_nil ?_
  refine then_go ?_
  refine wc_seq ?_
  refine wc_region ?_
  refine wl_val (v_move' (by conv => (lhs; whnf))) rfl ?_
  refine wl_val (v_neq rfl rfl) rfl ?_
  refine wl_nil ?_
  refine then_go ?_
  refine wc_cond rfl (fun h17 => ?_) (fun h17 => ?_)
  ·refine wc_seq ?_
   refine wc_region ?_
   refine wl_val (v_move' (by conv => (lhs; whnf))) rfl ?_
   refine wl_val (v_assign' (by conv => (lhs; whnf))) rfl ?_
   refine wl_nil ?_
   refine then_go ?_
   refine wc_ret (block_ret (then_ret (then_ret (block_ret (then_ret ?_)))))
   have hz := of_decide_eq_true h17
   have h1 : checkE M[i].1 = 1 := (checkE_or _).resolve_left fun h => hz (by rw [h]; rfl)
   have hfin : resD n d sl (M.map (·.1)) = (d, sl, 1) := by unfold resD; rw [if_pos ⟨_, List.mem_map.2 ⟨_, List.getElem_mem hi, rfl⟩, by omega⟩]
   refine ret1 (v := .int .i64 1) (by rw [h1]; rfl) ?_
   unfold LogOut
   rw [hfin]
   exact ⟨m, wv, lv, N, hmm0, rfl, hP, .refl, by rw [if_neg (show ¬ (1 : Int) = 0 by decide)], st⟩
  ·refine wc_skip ?_
   refine block_go (then_go ?_)
   refine wc_region ?_
   refine wl_val (v_add' (c := ((i + 1 : Nat) : Int)) rfl rfl (by omega) (by omega) (by omega)) rfl ?_
   refine wl_val (v_move' (by conv => (lhs; whnf))) rfl ?_
   refine wl_nil ?_
   refine then_go ?_
   refine ⟨q - 1, by simp; omega, i + 1, by omega, rfl, rfl, rfl, rfl, rfl, fun x hx => ?_, st⟩
   rw [List.take_succ_eq_append_getElem hi] at hx
   rcases List.mem_append.1 hx with hx | hx
   ·exact hck x hx
   ·rw [List.mem_singleton.1 hx]
    exact fun h => of_decide_eq_false h17 (by omega)
 ·refine wc_exit (then_exit (then_exit (block_hit ?_)))
  refine then_go ?_
  refine wc_seq ?_
  refine wc_region ?_
  refine wl_val (v_move' (by conv => (lhs; whnf))) rfl ?_
  refine wl_val (v_move' (by conv => (lhs; whnf))) rfl ?_
  have hiN : i = M.length := by omega
  subst hiN
  rw [List.take_length] at hck
  have hfin : resD n d sl (M.map (·.1)) = overD n d sl (M.map (·.1)) := by
   unfold resD
   rw [if_neg]
   rintro ⟨x, hx, hz⟩
   obtain ⟨y, hy, rfl⟩ := List.mem_map.1 hx
   exact hck y hy hz
  have st := st.perm p132
  refine wl_call rfl (c_over st hr hn8 hsl hM (fun x hx => (checkE_len (hck x hx)).2) hMn) rfl ?_
  rintro v22 w ⟨m1, wv1, hmm1, rfl, hbad, hok⟩
  refine wl_val (v_assign' (by conv => (lhs; whnf))) rfl ?_
  refine wl_nil ?_
  refine then_go ?_
  refine wc_ret ?_
  refine ret1 rfl ?_
  unfold LogOut
  rw [hfin]
  by_cases hz : (overD n d sl (M.map (·.1))).2.2 = 0
  ·obtain ⟨lv', N', hP', hPn, hNN, st⟩ := hok hz
   refine ⟨m1, wv1, lv', N', hmm1, rfl, hP', fun y hy => .inr (hPn y hy), by rw [if_pos hz]; exact hNN, ?_⟩
   exact (st.perm (List.perm_middle (l₁ := [_, _, _]))).drop 0
  ·obtain ⟨hs, st⟩ := hbad hz
   refine ⟨m1, wv1, lv, N, hmm1, rfl, hP.mono hmm1, .refl, by rw [if_neg hz], ?_⟩
   rw [hs]
   exact st.perm p132
abbrev rowsE (A : List (By × Value)) : List Ent := (A.map fun x => byE x.2 x.1).reverse
theorem rows_freeze : ∀ {A : List (By × Value)} {m : Mem} {Es : List Ent}, St m0 m [] w0 w (rowsE A ++ Es) → ∃ m', (∀ k o, m k = some o → m' k = some o) ∧ Pcs m' A ∧ St m0 m' [] w0 w Es := by
 intro A
 induction h : A.length generalizing A with
 | zero =>
  intro m Es st
  have := List.eq_nil_of_length_eq_zero h
  subst this
  exact ⟨m, fun _ _ h => h, (by intro x hx; cases hx), st⟩
 | succ k ih =>
  intro m Es st
  have hne : A ≠ [] := by intro e; subst e; simp at h
  obtain ⟨B, x, rfl⟩ : ∃ B x, A = B ++ [x] := ⟨A.dropLast, A.getLast hne, (List.dropLast_concat_getLast hne).symm⟩
  have e : rowsE (B ++ [x]) ++ Es = byE x.2 x.1 :: (rowsE B ++ Es) := by simp [rowsE]
  rw [e] at st
  obtain ⟨m1, hg1, hm1, st1⟩ := st.freezeR (i := 0) rfl (by simp)
  have hx : SlM m1 x.2 1 x.1.length (bs x.1) := row_SlM (m := m1) (st.at (i := 0) rfl) hm1
  obtain ⟨m2, h2, hP, st2⟩ := ih (A := B) (by simpa using h) (show St m0 m1 [] w0 w (rowsE B ++ Es) from st1)
  exact ⟨m2, fun k o h => h2 k o (hg1.le k o h), hP.snoc (hx.mono h2), st2⟩
theorem c_logAll {g b : Nat} {sl : LG} {lv : Value} {N : List (By × Value)} (st : St m0 m F w0 w (logB g b sl lv :: lrE lv N :: Es)) (hP : Pcs m N) (hNl : ∀ x ∈ N, x.1.length ≤ 1048576) (hNn : N.length ≤ 1048576) :
  Ret Try.prog 25 #[.pointer (some ⟨g, 0, none⟩)] w fun v w' => ∃ A, A.map (·.1) = N.map (·.1) ∧ St m0 m F w0 w' (lrE v A :: (rowsE A ++ logB g b sl lv :: lrE lv N :: Es)) := by
 obtain ⟨la, lc, hlv⟩ := row_sl (st.at (i := 1) rfl)
 subst hlv
 refine ret_of Try.call25 Try.func25 rfl Try.ntmps25 Try.results25 rfl ?_
 refine wc_seq ?_
 refine wc_region ?_
 refine wl_val (v_assign' (by conv => (lhs; whnf))) rfl ?_
 refine wl_nil ?_
 refine then_go ?_
 refine wc_seq ?_
 refine wc_region ?_
 refine wl_val (v_assign' (by conv => (lhs; whnf))) rfl ?_
 refine wl_nil ?_
 refine then_go ?_
 refine wc_seq ?_
 refine wc_seq ?_
 refine wc_region ?_
 refine wl_val (v_move' (by conv => (lhs; whnf))) rfl ?_
 refine wl_val (v_nil rfl) rfl ?_
 refine wl_val (v_fa TF.f75_4 rfl) rfl ?_
 refine wl_val (v_load rfl (st.reads (v := .slice la N.length lc) 0 rfl TF.t35 rfl)) rfl ?_
 refine wl_val (v_len_s Try.underlying35 rfl) rfl ?_
 refine wl_val (v_move' (by conv => (lhs; whnf))) rfl ?_
 refine wl_nil ?_
 refine then_go ?_
 refine wc_block ?_
 have st := nilRow st 31 1
 refine wc_loop (S := Nat) (fun q r w' => ∃ (i : Nat) (v : Value) (A : List (By × Value)), q + i = N.length ∧ r 3 = v ∧ r 9 = .slice la N.length lc ∧ r 10 = .int .i64 N.length ∧ r 11 = .int .i64 i ∧ A.map (·.1) = (N.take i).map (·.1) ∧ St m0 m F w0 w' (lrE v A :: (rowsE A ++ logB g b sl (.slice la N.length lc) :: lrE (.slice la N.length lc) N :: Es))) id N.length ⟨0, _, [], by omega, rfl, rfl, rfl, rfl, rfl, st⟩ ?_
 clear st
 rintro q r w2 ⟨i, v, A, hqi, g3, g9, g10, g11, hA, st⟩
 refine wc_o 3 g3 (wc_o 9 g9 (wc_o 10 g10 (wc_o 11 g11 ?_)))
 refine wc_seq ?_
 refine wc_region ?_
 refine wl_val (v_lss rfl rfl) rfl ?_
 refine wl_nil ?_
 refine then_go ?_
 refine wc_seq ?_
 refine wc_if rfl (fun h12 => ?_) (fun h12 => ?_)
 ·refine wc_skip ?_
  refine then_go ?_
  refine wc_seq ?_
  refine wc_block ?_
  refine wc_seq ?_
  have hi : i < N.length := by omega
  have hAl : A.length = i := by have := congrArg List.length hA; rw [List.length_map, List.length_map, List.length_take] at this; omega
  have hidx : (lrE v A :: (rowsE A ++ logB g b sl (.slice la N.length lc) :: lrE (.slice la N.length lc) N :: Es))[A.length + 2]? = some (lrE (.slice la N.length lc) N) := by
   rw [List.getElem?_cons_succ, List.getElem?_append_right (by simp)]
   simp
  obtain ⟨nb, no, _, hnv, hsk, hrk⟩ := (lr_PcsM st (A.length + 2) hidx hP).elem hi
  cases hnv
  have hxl := hNl _ (List.getElem_mem hi)
  have hsk := hP _ (List.getElem_mem hi)
  refine wc_region ?_
  refine wl_val (v_ias i Try.underlying35 TF.t31 rfl rfl (by first | rfl | omega) (by first | omega | (dsimp only at *; omega))) rfl ?_
  refine wl_val (v_load rfl (hrk (im_heapM _))) rfl ?_
  refine wl_val (v_assign' (by conv => (lhs; whnf))) rfl ?_
  refine wl_nil ?_
  refine then_go ?_
  refine wc_region ?_
  refine wl_val (v_move' (by conv => (lhs; whnf))) rfl ?_
  refine wl_val (v_move' (by conv => (lhs; whnf))) rfl ?_
  refine wl_call rfl (c_bcloneR st hsk (by omega)) rfl ?_
  intro v17 w st
  refine wl_svOne (v := v17) Try.underlying35 TF.t31 TF.z31 (byE_one st 0 rfl) rfl st rfl ?_
  intro b18 w st
  refine wl_lrApp (x := N[i].1) 1 st rfl (byE_one st 1 rfl) rfl rfl (by omega) rfl ?_
  intro v19 w st
  have st : St m0 m F w0 w (lrE v19 (A ++ [(N[i].1, v17)]) :: (rowsE (A ++ [(N[i].1, v17)]) ++ logB g b sl (.slice (some ⟨nb, no, none⟩) N.length lc) :: lrE (.slice (some ⟨nb, no, none⟩) N.length lc) N :: Es)) := by
   have e : rowsE (A ++ [(N[i].1, v17)]) = byE v17 N[i].1 :: rowsE A := by simp [rowsE]
   rw [e]
   exact st.perm (List.Perm.swap _ _ _)
  refine wl_val (v_assign' (by conv => (lhs; whnf))) rfl ?_
  refine wl_nil ?_
  refine block_go (then_go ?_)
  refine wc_region ?_
  refine wl_val (v_add' (c := ((i + 1 : Nat) : Int)) rfl rfl (by omega) (by omega) (by omega)) rfl ?_
  refine wl_val (v_move' (by conv => (lhs; whnf))) rfl ?_
  refine wl_nil ?_
  refine then_go ?_
  refine ⟨q - 1, by simp; omega, i + 1, v19, A ++ [(N[i].1, v17)], by omega, rfl, rfl, rfl, rfl, ?_, st⟩
  rw [List.map_append, hA, List.take_succ_eq_append_getElem hi, List.map_append]
  rfl
 ·refine wc_exit (then_exit (then_exit (block_hit ?_)))
  refine then_go ?_
  refine wc_seq ?_
  refine wc_region ?_
  refine wl_val (v_move' (by conv => (lhs; whnf))) rfl ?_
  refine wl_val (v_assign' (by conv => (lhs; whnf))) rfl ?_
  refine wl_nil ?_
  refine then_go ?_
  refine wc_ret ?_
  have hiN : i = N.length := by omega
  subst hiN
  rw [List.take_length] at hA
  exact ret1 rfl ⟨A, hA, st⟩
end
end Go.Proofs.Ytladpaehbolghaa

namespace Go.Proofs.Ytladpaehbolghaa
open Go Go.RowKit K SH DK JR
namespace JR
theorem splice_get {S l : By} {o i : Nat} (h : o + l.length ≤ S.length) : (splice S o l)[i]? = if i < o then S[i]? else if i < o + l.length then l[i - o]? else S[i]? := by
 unfold splice
 have h1 : (S.take o).length = o := by rw [List.length_take]; omega
 by_cases a : i < o
 ·rw [if_pos a, List.append_assoc, List.getElem?_append_left (by omega), List.getElem?_take_of_lt a]
 ·rw [if_neg a]
  by_cases c : i < o + l.length
  ·rw [if_pos c, List.getElem?_append_left (by rw [List.length_append]; omega), List.getElem?_append_right (by omega), h1]
  ·rw [if_neg c, List.getElem?_append_right (by rw [List.length_append]; omega), List.length_append, h1, List.getElem?_drop]
   congr 1
   omega
theorem halfB_get {b : By} {n k i : Nat} : (halfB b n k)[i]? = if i < n then b[k * n + i]? else none := by
 unfold halfB
 rw [List.getElem?_take]
 split
 ·rw [List.getElem?_drop]
 ·rfl
theorem halfB_len {b : By} {n k : Nat} (hk : k ≤ 1) (h : 2 * n ≤ b.length) : (halfB b n k).length = n := by
 unfold halfB
 rw [List.length_take, List.length_drop]
 rcases Nat.le_one_iff_eq_zero_or_eq_one.1 hk with h | h <;> subst h <;> omega
theorem half_other {S l : By} {H k a : Nat} (hk : k ≤ 1) (h : 2 * H ≤ S.length) (ha : a + l.length ≤ H) : halfB (splice S (k * H + a) l) H (1 - k) = halfB S H (1 - k) := by
 apply List.ext_getElem?
 intro i
 rw [halfB_get, halfB_get]
 split
 ·rcases Nat.le_one_iff_eq_zero_or_eq_one.1 hk with hk | hk <;> subst hk
  ·rw [splice_get (by omega), if_neg (by omega), if_neg (by omega)]
  ·rw [splice_get (by omega), if_pos (by omega)]
 ·rfl
theorem half_same {S l : By} {H k a : Nat} (hk : k ≤ 1) (h : 2 * H ≤ S.length) (ha : a + l.length ≤ H) : halfB (splice S (k * H + a) l) H k = splice (halfB S H k) a l := by
 have hkl : k * H ≤ H := by rcases Nat.le_one_iff_eq_zero_or_eq_one.1 hk with hk | hk <;> subst hk <;> omega
 apply List.ext_getElem?
 intro i
 have e : (splice (halfB S H k) a l)[i]? = if i < a then (halfB S H k)[i]? else if i < a + l.length then l[i - a]? else (halfB S H k)[i]? := splice_get (by rw [halfB_len hk h]; exact ha)
 rw [e, halfB_get, halfB_get, splice_get (by omega)]
 by_cases c : i < H
 ·simp only [if_pos c]
  by_cases c1 : i < a
  ·rw [if_pos c1, if_pos (by omega)]
  ·rw [if_neg c1, if_neg (by omega)]
   by_cases c2 : i < a + l.length
   ·rw [if_pos c2, if_pos (by omega)]; congr 1; omega
   ·rw [if_neg c2, if_neg (by omega)]
 ·rw [if_neg c, if_neg (by omega), if_neg (by omega), if_neg c]
structure LogOk (n : Nat) (S : By) (s : LG) (L : List By) : Prop where
 len : S.length = 64 * n
 n8 : 8 ≤ n
 nle : n ≤ 16384
 half : s.half ≤ 1
 fin : s.fin = 64 + sizeL L
 fit : 64 + sizeL L ≤ n / 2 * 64
 here : halfB S (n / 2 * 64) s.half = headB s.gen ++ (allB s.gen 0 L ++ List.replicate (n / 2 * 64 - 64 - sizeL L) 0)
 gen : 0 < s.gen.toNat
 other : (begF (halfB S (n / 2 * 64) (1 - s.half))).toNat < s.gen.toNat + (1 - s.half)
 okr : Okr L
theorem nextF_zeros {g s : UInt64} {k : Nat} : nextF g s (List.replicate k 0) = none := nextF_zero (by rw [List.drop_replicate, rd8_zero]; rfl)
section
variable {n : Nat} {S : By} {s : LG} {L : List By}
theorem LogOk.pick (h : LogOk n S s L) : pickF S (n / 2 * 64) = (s.half, s.gen) := by
 have hb : begF (halfB S (n / 2 * 64) s.half) = s.gen := by rw [h.here]; exact begF_head h.gen
 have ho := h.other
 unfold pickF
 rcases Nat.le_one_iff_eq_zero_or_eq_one.1 h.half with hk | hk
 ·rw [hk] at hb ho ⊢
  have ho : (begF (halfB S (n / 2 * 64) 1)).toNat < s.gen.toNat + 1 := ho
  rw [hb, if_neg]
  intro hlt
  have := UInt64.lt_iff_toNat_lt.1 hlt
  omega
 ·rw [hk] at hb ho ⊢
  have ho : (begF (halfB S (n / 2 * 64) 0)).toNat < s.gen.toNat := ho
  rw [hb, if_pos (UInt64.lt_iff_toNat_lt.2 ho)]
theorem okr_small {L : List By} (h : Okr L) : ∀ x ∈ L, 1 ≤ x.length ∧ x.length < 18446744073709551616 := fun x hx => ⟨(h x hx).1, by have := (h x hx).2; omega⟩
theorem recs_here {H : By} {g : UInt64} {L : List By} {k : Nat} (h : H = headB g ++ (allB g 0 L ++ List.replicate k 0)) (ho : Okr L) : recs g H = L := by
 unfold recs
 have e : H.drop 64 = allB g 0 L ++ List.replicate k 0 := by rw [h]; exact List.drop_left' (length_headB g)
 rw [e]
 refine recs_all (okr_small ho) nextF_zeros ?_
 rw [h, List.length_append, List.length_append, length_allB]
 have := sizeL_ge (l := L)
 omega
theorem LogOk.recs (h : LogOk n S s L) : recs s.gen (halfB S (n / 2 * 64) s.half) = L := recs_here h.here h.okr
theorem hlf_eq {n : Nat} : 64 * n / 64 / 2 * 64 = n / 2 * 64 := by omega
theorem LogOk.app (h : LogOk n S s L) {x : By} : ∃ S' s', appD n (calm S) s L x = (calm S', s', ((appR L x n : Nat) : Int)) ∧ LogOk n S' s' (if appR L x n = 0 then L ++ [x] else L) ∧ s'.gen = s.gen ∧ s'.half = s.half := by
 have hn := h.n8
 have hfit := h.fit
 have hfin := h.fin
 by_cases hc : checkE x ≠ 0
 ·have hR : appR L x n = 1 := by unfold appR; rw [if_pos hc]
  rw [hR]
  exact ⟨S, s, by unfold appD; rw [if_pos hc]; rfl, by rw [if_neg (by decide)]; exact h, rfl, rfl⟩
 ·by_cases hf : n / 2 * 64 < s.fin + recL x.length
  ·have hR : appR L x n = 13 := by unfold appR; rw [if_neg hc, sizeL_snoc, if_neg (by omega)]
   rw [hR]
   exact ⟨S, s, by unfold appD; rw [if_neg hc, if_pos hf]; rfl, by rw [if_neg (by decide)]; exact h, rfl, rfl⟩
  ·have hR : appR L x n = 0 := by unfold appR; rw [if_neg hc, sizeL_snoc, if_pos (by omega)]
   rw [hR]
   have hrl := length_recB s.gen (UInt64.ofNat L.length) x
   have hk := h.half
   have hmod := sizeL_mod (l := L)
   have hpos : 64 * ((s.half * (n / 2 * 64) + s.fin) / 64) = s.half * (n / 2 * 64) + s.fin := by rcases Nat.le_one_iff_eq_zero_or_eq_one.1 hk with hk | hk <;> rw [hk] <;> omega
   have hle : s.half * (n / 2 * 64) ≤ n / 2 * 64 := by rcases Nat.le_one_iff_eq_zero_or_eq_one.1 hk with hk | hk <;> rw [hk] <;> omega
   have h2 : 2 * (n / 2 * 64) ≤ S.length := by rw [h.len]; omega
   have hput : putD n (calm S) ((s.half * (n / 2 * 64) + s.fin) / 64) (recB s.gen (UInt64.ofNat L.length) x) = (calm (splice S (s.half * (n / 2 * 64) + s.fin) (recB s.gen (UInt64.ofNat L.length) x)), 0) := by
    rw [put_calm h.len (by rw [hrl]; unfold recL; omega) (by rw [hpos, hrl]; omega), hpos]
   refine ⟨splice S (s.half * (n / 2 * 64) + s.fin) (recB s.gen (UInt64.ofNat L.length) x), { s with fin := s.fin + recL x.length }, by unfold appD; rw [if_neg hc, if_neg hf, hput, if_neg (by simp)]; rfl, ?_, rfl, rfl⟩
   rw [if_pos rfl]
   have hz : n / 2 * 64 - 64 - sizeL L = recL x.length + (n / 2 * 64 - 64 - sizeL (L ++ [x])) := by rw [sizeL_snoc]; omega
   refine ⟨by rw [length_splice (by rw [hrl, h.len]; omega)]; exact h.len, hn, h.nle, hk, by rw [sizeL_snoc]; show s.fin + recL x.length = _; omega, by rw [sizeL_snoc]; omega, ?_, h.gen, ?_, ?_⟩
   ·show halfB (splice S (s.half * (n / 2 * 64) + s.fin) _) _ s.half = _
    rw [half_same hk h2 (by rw [hrl]; omega), h.here, hz, ← List.replicate_append_replicate]
    have hl : (headB s.gen ++ allB s.gen 0 L).length = s.fin := by rw [List.length_append, length_headB, length_allB]; omega
    unfold splice
    rw [← List.append_assoc (headB s.gen), ← List.append_assoc (headB s.gen ++ allB s.gen 0 L)]
    rw [List.append_assoc (headB s.gen ++ allB s.gen 0 L), List.take_left' hl, ← List.append_assoc (headB s.gen ++ allB s.gen 0 L)]
    rw [List.drop_left' (by rw [List.length_append, hl, List.length_replicate, hrl])]
    rw [allB_snoc, Nat.zero_add, List.append_assoc, List.append_assoc, List.append_assoc]
   ·show (begF (halfB (splice S (s.half * (n / 2 * 64) + s.fin) _) _ (1 - s.half))).toNat < s.gen.toNat + (1 - s.half)
    rw [half_other hk h2 (by rw [hrl]; omega)]
    exact h.other
   ·intro y hy
    rcases List.mem_append.1 hy with hy | hy
    ·exact h.okr y hy
    ·rw [List.mem_singleton.1 hy]; exact checkE_len hc
theorem over_ok (hl : S.length = 64 * n) (hn : 8 ≤ n) (hn2 : n ≤ 16384) (hk : s.half ≤ 1) (hg : (begF (halfB S (n / 2 * 64) s.half)).toNat ≤ s.gen.toNat) (hg2 : s.gen.toNat + 1 < 18446744073709551616) (ho : Okr L) :
  (sizeL L ≤ n / 2 * 64 - 64 → ∃ S', overD n (calm S) s L = (calm S', ⟨1 - s.half, s.gen + 1, 64 + sizeL L⟩, 0) ∧ LogOk n S' ⟨1 - s.half, s.gen + 1, 64 + sizeL L⟩ L) ∧ (¬ sizeL L ≤ n / 2 * 64 - 64 → overD n (calm S) s L = (calm S, s, 13)) := by
 refine ⟨fun hf => ?_, fun hf => by unfold overD; rw [if_pos (by omega)]⟩
 obtain ⟨hh, hhe⟩ : ∃ hh, hh = 1 - s.half := ⟨_, rfl⟩
 obtain ⟨H, hH⟩ : ∃ H, H = n / 2 * 64 := ⟨_, rfl⟩
 have hh1 : hh ≤ 1 := by omega
 have hback : 1 - hh = s.half := by omega
 have h64 : 64 * (hh * (n / 2)) = hh * H := by rcases Nat.le_one_iff_eq_zero_or_eq_one.1 hh1 with h | h <;> rw [h] <;> omega
 have h65 : 64 * (hh * (n / 2) + 1) = hh * H + 64 := by omega
 have hle : hh * H ≤ H := by rcases Nat.le_one_iff_eq_zero_or_eq_one.1 hh1 with h | h <;> rw [h] <;> omega
 have hmod := sizeL_mod (l := L)
 obtain ⟨Z, hZ⟩ : ∃ Z : By, Z = List.replicate H 0 := ⟨_, rfl⟩
 have hZl : Z.length = H := by rw [hZ, List.length_replicate]
 obtain ⟨B, hB⟩ : ∃ B, B = allB (s.gen + 1) 0 L := ⟨_, rfl⟩
 have hBl : B.length = sizeL L := by rw [hB, length_allB]
 obtain ⟨D, hD⟩ : ∃ D, D = headB (s.gen + 1) := ⟨_, rfl⟩
 have hDl : D.length = 64 := by rw [hD, length_headB]
 have p1 : putD n (calm S) (hh * (n / 2)) Z = (calm (splice S (hh * H + 0) Z), 0) := by rw [put_calm hl (by omega) (by omega), h64, Nat.add_zero]
 have l1 : (splice S (hh * H + 0) Z).length = 64 * n := by rw [length_splice (by omega)]; exact hl
 have p2 : putD n (calm (splice S (hh * H + 0) Z)) (hh * (n / 2) + 1) B = (calm (splice (splice S (hh * H + 0) Z) (hh * H + 64) B), 0) := by rw [put_calm l1 (by omega) (by omega), h65]
 have l2 : (splice (splice S (hh * H + 0) Z) (hh * H + 64) B).length = 64 * n := by rw [length_splice (by omega)]; exact l1
 have p3 : putD n (calm (splice (splice S (hh * H + 0) Z) (hh * H + 64) B)) (hh * (n / 2)) D = (calm (splice (splice (splice S (hh * H + 0) Z) (hh * H + 64) B) (hh * H + 0) D), 0) := by rw [put_calm l2 (by omega) (by omega), h64, Nat.add_zero]
 have hov : overD n (calm S) s L = (calm (splice (splice (splice S (hh * H + 0) Z) (hh * H + 64) B) (hh * H + 0) D), ⟨hh, s.gen + 1, 64 + sizeL L⟩, 0) := by
  unfold overD
  rw [← hhe, ← hH, ← hZ, ← hB, ← hD, if_neg (by omega)]
  simp only [p1, p2, p3]
  rfl
 refine ⟨_, by rw [← hhe]; exact hov, ?_⟩
 rw [← hhe]
 have hgs : (s.gen + 1).toNat = s.gen.toNat + 1 := by rw [UInt64.toNat_add]; show (s.gen.toNat + 1) % 18446744073709551616 = _; omega
 refine ⟨by rw [length_splice (by omega)]; exact l2, hn, hn2, hh1, rfl, by omega, ?_, by show 0 < (s.gen + 1).toNat; omega, ?_, ho⟩
 ·show halfB _ (n / 2 * 64) hh = _
  rw [← hH, half_same hh1 (by omega) (by omega), half_same hh1 (by omega) (by omega), half_same hh1 (by omega) (by omega)]
  have hs := halfB_len (b := S) hh1 (show 2 * H ≤ S.length by omega)
  have e1 : splice (halfB S H hh) 0 Z = Z := by
   unfold splice
   rw [List.drop_of_length_le (by omega)]
   simp
  rw [e1]
  have e2 : splice Z 64 B = List.replicate 64 0 ++ (B ++ List.replicate (H - 64 - sizeL L) 0) := by
   unfold splice
   rw [hZ, List.take_replicate, List.drop_replicate, Nat.min_eq_left (by omega), List.append_assoc, hBl]
   congr 3
   omega
  rw [e2]
  unfold splice
  rw [Nat.zero_add, List.drop_left' (by rw [List.length_replicate, hDl]), List.take_zero, List.nil_append, hD, hB]
 ·show (begF (halfB _ (n / 2 * 64) (1 - hh))).toNat < (s.gen + 1).toNat + (1 - hh)
  rw [← hH, half_other hh1 (by omega) (by omega), half_other hh1 (by omega) (by omega), half_other hh1 (by omega) (by omega), hback, hH]
  omega
theorem LogOk.res (h : LogOk n S s L) (hg2 : s.gen.toNat + 1 < 18446744073709551616) {M : List By} : ∃ S' s', resD n (calm S) s M = (calm S', s', ((resR M n : Nat) : Int)) ∧ LogOk n S' s' (if resR M n = 0 then M else L) ∧ s'.gen = (if resR M n = 0 then s.gen + 1 else s.gen) := by
 unfold resD resR
 by_cases hb : ∃ b ∈ M, checkE b ≠ 0
 ·rw [if_pos hb, if_pos hb]
  exact ⟨S, s, rfl, by rw [if_neg (by decide)]; exact h, by rw [if_neg (by decide)]⟩
 ·rw [if_neg hb, if_neg hb]
  have ho : Okr M := fun x hx => checkE_len fun hz => hb ⟨x, hx, hz⟩
  have hbe : begF (halfB S (n / 2 * 64) s.half) = s.gen := by rw [h.here]; exact begF_head h.gen
  obtain ⟨o1, o2⟩ := over_ok (L := M) h.len h.n8 h.nle h.half (by rw [hbe]; exact Nat.le_refl _) hg2 ho
  by_cases hf : sizeL M ≤ n / 2 * 64 - 64
  ·obtain ⟨S', h1, h2⟩ := o1 hf
   rw [if_pos hf]
   exact ⟨S', _, h1, by rw [if_pos rfl]; exact h2, by rw [if_pos rfl]⟩
  ·rw [if_neg hf]
   exact ⟨S, s, o2 hf, by rw [if_neg (by decide)]; exact h, by rw [if_neg (by decide)]⟩
def openD (n : Nat) (S : By) : DS × LG × List By × Int :=
  if (pickF S (n / 2 * 64)).2 = 0 then ((overD n (calm S) ⟨1, 0, 0⟩ []).1, (overD n (calm S) ⟨1, 0, 0⟩ []).2.1, [], (overD n (calm S) ⟨1, 0, 0⟩ []).2.2) else
  if ∃ c ∈ (halfB S (n / 2 * 64) (pickF S (n / 2 * 64)).1).drop (64 + sizeL (JR.recs (pickF S (n / 2 * 64)).2 (halfB S (n / 2 * 64) (pickF S (n / 2 * 64)).1))), c ≠ 0 then
    ((overD n (calm S) ⟨(pickF S (n / 2 * 64)).1, (pickF S (n / 2 * 64)).2, 64 + sizeL (JR.recs (pickF S (n / 2 * 64)).2 (halfB S (n / 2 * 64) (pickF S (n / 2 * 64)).1))⟩ (JR.recs (pickF S (n / 2 * 64)).2 (halfB S (n / 2 * 64) (pickF S (n / 2 * 64)).1))).1,
     (overD n (calm S) ⟨(pickF S (n / 2 * 64)).1, (pickF S (n / 2 * 64)).2, 64 + sizeL (JR.recs (pickF S (n / 2 * 64)).2 (halfB S (n / 2 * 64) (pickF S (n / 2 * 64)).1))⟩ (JR.recs (pickF S (n / 2 * 64)).2 (halfB S (n / 2 * 64) (pickF S (n / 2 * 64)).1))).2.1,
     JR.recs (pickF S (n / 2 * 64)).2 (halfB S (n / 2 * 64) (pickF S (n / 2 * 64)).1),
     (overD n (calm S) ⟨(pickF S (n / 2 * 64)).1, (pickF S (n / 2 * 64)).2, 64 + sizeL (JR.recs (pickF S (n / 2 * 64)).2 (halfB S (n / 2 * 64) (pickF S (n / 2 * 64)).1))⟩ (JR.recs (pickF S (n / 2 * 64)).2 (halfB S (n / 2 * 64) (pickF S (n / 2 * 64)).1))).2.2)
  else (calm S, ⟨(pickF S (n / 2 * 64)).1, (pickF S (n / 2 * 64)).2, 64 + sizeL (JR.recs (pickF S (n / 2 * 64)).2 (halfB S (n / 2 * 64) (pickF S (n / 2 * 64)).1))⟩, JR.recs (pickF S (n / 2 * 64)).2 (halfB S (n / 2 * 64) (pickF S (n / 2 * 64)).1), 0)
theorem pick_le {H : Nat} : (begF (halfB S H (1 - (pickF S H).1))).toNat ≤ (pickF S H).2.toNat ∧ begF (halfB S H (pickF S H).1) = (pickF S H).2 ∧ ((pickF S H).1 = 1 → (begF (halfB S H 0)).toNat < (pickF S H).2.toNat) := by
 unfold pickF
 split
 ·rename_i h
  have := UInt64.lt_iff_toNat_lt.1 h
  exact ⟨Nat.le_of_lt this, rfl, fun _ => this⟩
 ·rename_i h
  refine ⟨?_, rfl, fun h => by cases h⟩
  rcases Nat.lt_or_ge (begF (halfB S H 0)).toNat (begF (halfB S H 1)).toNat with h' | h'
  ·exact (h (UInt64.lt_iff_toNat_lt.2 h')).elim
  ·exact h'
theorem open_ok (hl : S.length = 64 * n) (hn : 8 ≤ n) (hn2 : n ≤ 16384) (hg : (pickF S (n / 2 * 64)).2.toNat + 1 < 18446744073709551616) :
  ∃ S' s' L, openD n S = (calm S', s', L, 0) ∧ LogOk n S' s' L ∧ (readF S).2.1 = L ∧ (s'.gen = (readF S).1 ∨ s'.gen = (readF S).1 + 1) ∧ s'.gen.toNat ≤ (pickF S (n / 2 * 64)).2.toNat + 1 := by
 obtain ⟨H, hH⟩ : ∃ H, H = n / 2 * 64 := ⟨_, rfl⟩
 have hrd : readF S = if (pickF S H).2 = 0 then (0, [], 0) else ((pickF S H).2, JR.recs (pickF S H).2 (halfB S H (pickF S H).1), 0) := by
  unfold readF
  rw [hl, hlf_eq, ← hH, if_neg (by omega)]
 rw [← hH] at hg
 rw [hrd, ← hH]
 obtain ⟨q1, q2, q3⟩ := pick_le (S := S) (H := H)
 have hk := pickF_le (b := S) (n := H)
 unfold openD
 rw [← hH]
 obtain ⟨k, hke⟩ : ∃ k, k = (pickF S H).1 := ⟨_, rfl⟩
 obtain ⟨g, hge⟩ : ∃ g, g = (pickF S H).2 := ⟨_, rfl⟩
 rw [← hke, ← hge] at q1 q2 q3 ⊢
 rw [← hge] at hg
 rw [← hke] at hk
 by_cases hg0 : g = 0
 ·rw [if_pos hg0, if_pos hg0]
  have hb1 : (begF (halfB S H 1)).toNat ≤ 0 := by
   rw [hg0] at q1 q2
   rcases Nat.le_one_iff_eq_zero_or_eq_one.1 hk with h | h
   ·rw [h] at q1; exact q1
   ·rw [h] at q2; rw [q2]; exact Nat.le_refl _
  obtain ⟨o1, _⟩ := over_ok (n := n) (S := S) (s := ⟨1, 0, 0⟩) (L := []) hl hn hn2 (Nat.le_refl _) (by rw [← hH]; exact hb1) (by decide) (by intro x hx; cases hx)
  obtain ⟨S', h1, h2⟩ := o1 (Nat.zero_le _)
  rw [h1]
  exact ⟨S', _, [], rfl, h2, rfl, .inr rfl, by rw [hg0]; exact Nat.le_refl _⟩
 ·rw [if_neg hg0, if_neg hg0]
  have hgp : 0 < g.toNat := by
   rcases Nat.eq_zero_or_pos g.toNat with h | h
   ·exact (hg0 (UInt64.toNat_inj.1 h)).elim
   ·exact h
  obtain ⟨half, hhf⟩ : ∃ half, half = halfB S H k := ⟨_, rfl⟩
  have hhl : half.length = H := by rw [hhf]; exact halfB_len hk (by omega)
  rw [← hhf] at q2 ⊢
  obtain ⟨r1, r2, r3, r4⟩ := recs_there (g := g) (f := half.length) (k := 0) (b := half.drop 64) (by rw [List.length_drop]; omega)
  have hrl : recsF g half.length 0 (half.drop 64) = JR.recs g half := rfl
  rw [hrl] at r1 r2 r3 r4
  rw [List.length_drop] at r1 r4
  obtain ⟨L, hL⟩ : ∃ L, L = JR.recs g half := ⟨_, rfl⟩
  rw [← hL] at r1 r2 r3 r4 ⊢
  have ho : Okr L := fun x hx => ⟨(r4 x hx).1, by have := (r4 x hx).2; omega⟩
  have hmod := sizeL_mod (l := L)
  by_cases hnz : ∃ c ∈ half.drop (64 + sizeL L), c ≠ 0
  ·rw [if_pos hnz]
   obtain ⟨o1, _⟩ := over_ok (n := n) (S := S) (s := ⟨k, g, 64 + sizeL L⟩) (L := L) hl hn hn2 hk (by rw [← hH, ← hhf, q2]; exact Nat.le_refl _) hg ho
   obtain ⟨S', h1, h2⟩ := o1 (by omega)
   rw [h1]
   exact ⟨S', _, L, rfl, h2, rfl, .inr rfl, by show (g + 1).toNat ≤ _; rw [UInt64.toNat_add]; show (g.toNat + 1) % 18446744073709551616 ≤ _; omega⟩
  ·rw [if_neg hnz]
   refine ⟨S, _, L, rfl, ⟨hl, hn, hn2, hk, rfl, by omega, ?_, hgp, ?_, ho⟩, rfl, .inl rfl, Nat.le_succ _⟩
   ·show halfB S (n / 2 * 64) k = headB g ++ (allB g 0 L ++ List.replicate (n / 2 * 64 - 64 - sizeL L) 0)
    rw [← hH, ← hhf, ← begF_is q2 hgp, ← r2]
    have hz : half.drop (64 + sizeL L) = List.replicate (H - 64 - sizeL L) 0 := by
     rw [List.eq_replicate_iff]
     refine ⟨by rw [List.length_drop]; omega, fun c hc => ?_⟩
     by_cases hc0 : c = 0
     ·exact hc0
     ·exact (hnz ⟨c, hc, hc0⟩).elim
    rw [← hz, ← List.drop_drop, List.take_append_drop, List.take_append_drop]
   ·show (begF (halfB S (n / 2 * 64) (1 - k))).toNat < g.toNat + (1 - k)
    rw [← hH]
    rcases Nat.le_one_iff_eq_zero_or_eq_one.1 hk with h | h
    ·rw [h] at q1 ⊢; omega
    ·rw [h]; exact q3 h
theorem begF_zeros {k : Nat} : begF (List.replicate k 0) = 0 := by
 unfold begF
 rw [List.drop_replicate, rd8_zero, if_neg (fun h => absurd h.1 (by decide))]
theorem open_new {n : Nat} (hn : 8 ≤ n) (hn2 : n ≤ 16384) : ∃ S' s', openD n (List.replicate (64 * n) 0) = (calm S', s', [], 0) ∧ LogOk n S' s' [] ∧ s'.gen = 1 := by
 have hp : (pickF (List.replicate (64 * n) 0) (n / 2 * 64)).2 = 0 := by
  unfold pickF halfB
  rw [List.drop_replicate, List.take_replicate, List.drop_replicate, List.take_replicate, begF_zeros, begF_zeros]
  rfl
 obtain ⟨S', s', L, h1, h2, h3, _, h5⟩ := open_ok (S := List.replicate (64 * n) 0) (by simp) hn hn2 (by rw [hp]; decide)
 have hL : L = [] := by
  rw [← h3]
  unfold readF
  rw [List.length_replicate, hlf_eq, if_neg (by omega), if_pos hp]
 subst hL
 refine ⟨S', s', h1, h2, ?_⟩
 rw [hp] at h5
 have := h2.gen
 have h5 : s'.gen.toNat ≤ 1 := h5
 exact UInt64.toNat_inj.1 (show s'.gen.toNat = 1 by omega)
end
end JR
end Go.Proofs.Ytladpaehbolghaa

namespace Go.Proofs.Ytladpaehbolghaa
open Go Go.RowKit K SH DK JR
section
variable {m0 m : Mem} {F : List Nat} {w0 w : World} {Es : List Ent}
theorem ok_calm {n : Nat} {S : By} (hl : S.length = 64 * n) (h1 : 1 ≤ n) (h2 : n ≤ 16384) : (calm S).ok n := ⟨h1, hl, h2, by intro x hx; cases hx⟩
theorem rdy_calm {n k : Nat} {S : By} (hl : S.length = 64 * n) (h1 : 1 ≤ n) (h2 : n ≤ 16384) : Rdy n (calm S) k := ⟨ok_calm hl h1 h2, ⟨Int.le_refl _, show (-1 : Int) ≤ 9223372036854775807 by decide⟩, Nat.zero_le _⟩
def OpenOut (m0 m : Mem) (w0 w' : World) (Es : List Ent) (b s n : Nat) (o : DS × LG × List By × Int) (v : Value) : Prop :=
 ∃ m' wv' g lv' N', (∀ k o, m k = some o → m' k = some o) ∧ v = .tuple #[.pointer (some ⟨g, 0, none⟩), .int .i64 o.2.2.2] ∧ Pcs m' N' ∧ N'.map (·.1) = o.2.2.1 ∧ St m0 m' [] w0 w' (logB g b o.2.1 lv' :: lrE lv' N' :: diskO b s n wv' o.1 :: Es)
theorem c_open {b s n : Nat} {wv : Value} {S : By} (st : St m0 m [] w0 w (diskO b s n wv (calm S) :: Es)) (hl : S.length = 64 * n) (hn : 8 ≤ n) (hn2 : n ≤ 16384) (h0 : (openD n S).2.2.2 = 0) :
  Ret Try.prog 24 #[.pointer (some ⟨b, 0, none⟩)] w fun v w' => OpenOut m0 m w0 w' Es b s n (openD n S) v := by
 have ok := ok_calm (n := n) hl (by omega) hn2
 have hr : Rdy n (calm S) 100000 := rdy_calm hl (by omega) hn2
 have hmm0 : ∀ k o, m k = some o → m k = some o := fun _ _ h => h
 have hop := openD.eq_1 n S
 refine ret_of Try.call24 Try.func24 rfl Try.ntmps24 Try.results24 rfl ?_
 refine wc_seq ?_
 refine wc_region ?_
 refine wl_val (v_assign' (by conv => (lhs; whnf))) rfl ?_
 refine wl_val (v_assign' (by conv => (lhs; whnf))) rfl ?_
 refine wl_nil ?_
 refine then_go ?_
 refine wc_seq ?_
 refine wc_seq ?_
 refine wc_region ?_
 refine wl_val (v_move' (by conv => (lhs; whnf))) rfl ?_
 refine wl_val (v_eq_nil (p := some ⟨b, 0, none⟩) Try.underlying23 rfl rfl) rfl ?_
 refine wl_val (v_move' (by conv => (lhs; whnf))) rfl ?_
 refine wl_on rfl rfl ?_
 refine wl_val (v_move' (by conv => (lhs; whnf))) rfl ?_
 refine wl_on rfl rfl ?_
 refine wl_call rfl (c_size (im_heapM _) (disk_at 0 st rfl ok)) rfl ?_
 rintro v14 w ⟨rfl, rfl⟩
 refine wl_on rfl rfl ?_
 refine wl_val (v_lss rfl rfl) rfl ?_
 refine wl_val (v_pick rfl) rfl ?_
 refine wl_nil ?_
 refine then_go ?_
 refine wc_false (congrArg Value.bool (decide_eq_false (by omega))) ?_
 refine wc_skip ?_
 refine then_go ?_
 refine wc_seq ?_
 refine wc_region ?_
 refine wl_val (v_move' (by conv => (lhs; whnf))) rfl ?_
 refine wl_call rfl (c_dump (im_heapM _) (disk_at 0 st rfl ok)) rfl ?_
 rintro v18 w ⟨t18, m1, hf1, hi1, hS⟩
 obtain ⟨m2, hmm2, hm12, st⟩ := st.absorb t18 hf1 hi1
 have hS : SlM m2 v18 1 S.length (bs S) := hS.mono hm12
 obtain ⟨sa, sc, hv18, hsc⟩ := hS.opn
 subst hv18
 refine wl_val (v_assign' (by conv => (lhs; whnf))) rfl ?_
 refine wl_nil ?_
 refine then_go ?_
 refine wc_seq ?_
 refine wc_region ?_
 refine wl_val (v_move' (by conv => (lhs; whnf))) rfl ?_
 refine wl_val (v_build (c' := #[.pointer (some ⟨b, 0, none⟩), .int .i64 0, .int .u64 0, .int .i64 0, .slice none 0 0]) [(0, .pointer (some ⟨b, 0, none⟩))] TF.z75 TF.p75 rfl ⟨0, 1, rfl, rfl, by decide, rfl⟩) rfl ?_
 refine wl_box (v := .agg #[.pointer (some ⟨b, 0, none⟩), .int .i64 0, .int .u64 0, .int .i64 0, .slice none 0 0]) rfl st rfl ?_
 intro g w st
 have st : St m0 m2 [] w0 w (logB g b ⟨0, 0, 0⟩ (.slice none 0 0) :: diskO b s n wv (calm S) :: Es) := st
 refine wl_val (v_assign' (by conv => (lhs; whnf))) rfl ?_
 refine wl_nil ?_
 refine then_go ?_
 refine wc_seq ?_
 refine wc_region ?_
 refine wl_val (v_move' (by conv => (lhs; whnf))) rfl ?_
 refine wl_call rfl (c_lsize st ok) rfl ?_
 rintro v23 w ⟨t23, rfl⟩
 have st := st.pure t23
 obtain ⟨H, hH⟩ : ∃ H, H = n / 2 * 64 := ⟨_, rfl⟩
 rw [← hH]
 refine wl_val (v_assign' (by conv => (lhs; whnf))) rfl ?_
 refine wl_nil ?_
 refine then_go ?_
 refine wc_seq ?_
 refine wc_region ?_
 refine wl_val (v_move' (by conv => (lhs; whnf))) rfl ?_
 refine wl_val (v_move' (by conv => (lhs; whnf))) rfl ?_
 refine wl_val (v_move' (by conv => (lhs; whnf))) rfl ?_
 refine wl_val (v_move' (by conv => (lhs; whnf))) rfl ?_
 refine wl_call rfl (c_pick (n := H) st.im hS (by omega) (by omega) (by omega)) rfl ?_
 rintro v29 w ⟨t29, rfl⟩
 have st := st.pure t29
 obtain ⟨q1, q2, q3⟩ := pick_le (S := S) (H := H)
 have hk := pickF_le (b := S) (n := H)
 obtain ⟨k, hke⟩ : ∃ k, k = (pickF S H).1 := ⟨_, rfl⟩
 obtain ⟨gn, hge⟩ : ∃ g, g = (pickF S H).2 := ⟨_, rfl⟩
 rw [← hH, ← hke, ← hge] at hop
 rw [← hke, ← hge] at q1 q2 q3 ⊢
 rw [← hke] at hk
 have hkl : k * H ≤ H := by rcases Nat.le_one_iff_eq_zero_or_eq_one.1 hk with h | h <;> rw [h] <;> omega
 refine wl_val (v_move' (by conv => (lhs; whnf))) rfl ?_
 refine wl_val (v_extract rfl rfl) rfl ?_
 refine wl_val (v_extract rfl rfl) rfl ?_
 refine wl_val (v_nil rfl) rfl ?_
 refine wl_val (v_fa TF.f75_1 rfl) rfl ?_
 refine wl_store1 0 st rfl TF.t3 rfl (by conv => (lhs; whnf)) rfl (by first | exact lt_ok rfl | decide | simp) ?_
 intro w st
 refine wl_val (v_nil rfl) rfl ?_
 refine wl_val (v_fa TF.f75_2 rfl) rfl ?_
 refine wl_store1 0 st rfl TF.t47 rfl (by conv => (lhs; whnf)) rfl (by first | exact lt_ok rfl | decide | simp) ?_
 intro w st
 have st : St m0 m2 [] w0 w (logB g b ⟨k, gn, 0⟩ (.slice none 0 0) :: diskO b s n wv (calm S) :: Es) := st
 refine wl_nil ?_
 refine then_go ?_
 refine wc_seq ?_
 refine wc_seq ?_
 refine wc_region ?_
 refine wl_val (v_move' (by conv => (lhs; whnf))) rfl ?_
 refine wl_val (v_nil rfl) rfl ?_
 refine wl_val (v_fa TF.f75_2 rfl) rfl ?_
 refine wl_val (v_load rfl (st.reads (v := u64 gn) 0 rfl TF.t47 rfl)) rfl ?_
 refine wl_val (v_eql64 (q := 0) rfl rfl) rfl ?_
 refine wl_nil ?_
 refine then_go ?_
 refine wc_if rfl (fun h40 => ?_) (fun h40 => ?_)
 ·refine wc_seq ?_
  refine wc_region ?_
  refine wl_val (v_move' (by conv => (lhs; whnf))) rfl ?_
  refine wl_val (v_nil rfl) rfl ?_
  refine wl_val (v_fa TF.f75_1 rfl) rfl ?_
  refine wl_store1 0 st rfl TF.t3 rfl (by conv => (lhs; whnf)) rfl (by first | exact lt_ok rfl | decide | simp) ?_
  intro w st
  have st : St m0 m2 [] w0 w (logB g b ⟨1, gn, 0⟩ (.slice none 0 0) :: diskO b s n wv (calm S) :: Es) := st
  refine wl_nil ?_
  refine then_go ?_
  refine wc_seq ?_
  refine wc_region ?_
  refine wl_val (v_move' (by conv => (lhs; whnf))) rfl ?_
  refine wl_val (v_move' (by conv => (lhs; whnf))) rfl ?_
  rw [if_pos h40] at hop
  rw [h40] at st
  refine wl_call rfl (c_over (N := []) st hr hn (Nat.le_refl _) ⟨SlM.nil, by intro x hx; cases hx⟩ (by intro x hx; cases hx) (Nat.zero_le _)) rfl ?_
  rintro v46 w ⟨m3, wv3, hmm3, rfl, hbad, hok⟩
  have hz : (overD n (calm S) ⟨1, 0, 0⟩ []).2.2 = 0 := by rw [hop] at h0; exact h0
  obtain ⟨lv', N', hP', _, hNN, st⟩ := hok hz
  refine wl_val (v_assign' (by conv => (lhs; whnf))) rfl ?_
  refine wl_val (v_assign' (by conv => (lhs; whnf))) rfl ?_
  refine wl_nil ?_
  refine then_go ?_
  refine wc_ret (then_ret ?_)
  refine ret2 rfl rfl ⟨m3, wv3, g, lv', N', fun k o h => hmm3 k o (hmm2 k o h), by rw [hop]; rfl, hP', by rw [hop]; exact hNN, by rw [hop]; exact st⟩
 ·refine wc_skip ?_
  refine then_go ?_
  refine wc_seq ?_
  rw [if_neg h40] at hop
  obtain ⟨half, hhf⟩ : ∃ half, half = halfB S H k := ⟨_, rfl⟩
  have hhl : half.length = H := by rw [hhf]; exact halfB_len hk (by omega)
  have hh : SlM m2 (.slice (sliceOff sa sc (k * H) 1) half.length (sc - k * H)) 1 half.length (bs half) := by
   have h := hS.partB (k * H) (k * H + H) (by omega) (by omega)
   rw [Nat.add_sub_cancel_left] at h
   rw [hhl]
   have e : (S.drop (k * H)).take H = half := by rw [hhf]; rfl
   rw [e, hhl] at h
   exact h
  rw [← hhf] at hop q2
  refine wc_draw TF.mixed ?_
  have st := st.pure (touch_drew _)
  refine fl_val 0 rfl (fun _ => (v_move' (by conv => (lhs; whnf)))) rfl (by kernel_rfl) ?_
  refine fl_val 1 rfl (fun _ => (v_move' (by conv => (lhs; whnf)))) rfl (by kernel_rfl) ?_
  refine fl_val 2 rfl (fun _ => (v_nil rfl)) rfl (by kernel_rfl) ?_
  refine fl_val 3 rfl (fun _ => (v_fa TF.f75_1 rfl)) rfl (by kernel_rfl) ?_
  refine fl_ld 4 rfl (v_load rfl (st.reads (v := .int .i64 k) 0 rfl TF.t3 rfl)) (by kernel_rfl) ?_
  refine fl_val 5 rfl (fun _ => (v_move' (by conv => (lhs; whnf)))) rfl (by kernel_rfl) ?_
  refine fl_val 6 rfl (fun _ => (v_mul' (c := ((k * H : Nat) : Int)) rfl rfl (Int.natCast_mul _ _).symm (by omega) (by omega))) rfl (by kernel_rfl) ?_
  refine fl_val 7 rfl (fun _ => (v_move' (by conv => (lhs; whnf)))) rfl (by kernel_rfl) ?_
  refine fl_val 8 rfl (fun _ => (v_nil rfl)) rfl (by kernel_rfl) ?_
  refine fl_val 9 rfl (fun _ => (v_fa TF.f75_1 rfl)) rfl (by kernel_rfl) ?_
  refine fl_ld 10 rfl (v_load rfl (st.reads (v := .int .i64 k) 0 rfl TF.t3 rfl)) (by kernel_rfl) ?_
  refine fl_val 11 rfl (fun _ => (v_add' (c := ((k + 1 : Nat) : Int)) rfl rfl (by omega) (by omega) (by omega))) rfl (by kernel_rfl) ?_
  refine fl_val 12 rfl (fun _ => (v_move' (by conv => (lhs; whnf)))) rfl (by kernel_rfl) ?_
  refine fl_val 13 rfl (fun _ => (v_mul' (c := ((k * H + H : Nat) : Int)) rfl rfl (by rw [Int.natCast_add, Int.natCast_add, Int.natCast_mul, Int.add_mul]; omega) (by omega) (by omega))) rfl (by kernel_rfl) ?_
  refine fl_val 14 rfl (fun _ => (v_to (v' := .slice (sliceOff sa sc (k * H) 1) half.length (sc - k * H)) (v_sls (k * H) (k * H + H) Try.underlying31 TF.t5 rfl ⟨_, _, rfl, rfl⟩ ⟨_, _, rfl, rfl⟩ (by omega) (by omega)) (by rw [Nat.add_sub_cancel_left, hhl]))) rfl (by kernel_rfl) ?_
  refine fl_eff1 15 [] [] (by kernel_rfl) ⟨obl_ld rfl rfl rfl (v_load rfl (st.reads (v := .int .i64 k) 0 rfl TF.t3 rfl)), obl_ld rfl rfl rfl (v_load rfl (st.reads (v := .int .i64 k) 0 rfl TF.t3 rfl)), trivial⟩ rfl ?_
  refine wl_val (v_assign' (by conv => (lhs; whnf))) rfl ?_
  refine wl_nil ⟨rfl, ?_⟩
  refine fl_nil (by kernel_rfl) trivial ?_
  refine then_go ?_
  refine wc_seq ?_
  refine wc_region ?_
  refine wl_val (v_move' (by conv => (lhs; whnf))) rfl ?_
  refine wl_val (v_move' (by conv => (lhs; whnf))) rfl ?_
  refine wl_val (v_move' (by conv => (lhs; whnf))) rfl ?_
  refine wl_val (v_nil rfl) rfl ?_
  refine wl_val (v_fa TF.f75_2 rfl) rfl ?_
  refine wl_val (v_load rfl (st.reads (v := u64 gn) 0 rfl TF.t47 rfl)) rfl ?_
  refine wl_val (v_move' (by conv => (lhs; whnf))) rfl ?_
  obtain ⟨L, hL⟩ : ∃ L, L = recs gn half := ⟨_, rfl⟩
  refine wl_call rfl (c_jread st hh (by omega) (by omega)) rfl ?_
  rintro v70 w ⟨m3, lv, N, st, hmm3, hP, hNN, rfl⟩
  obtain ⟨r1, _, _, r4⟩ := recs_there (g := gn) (f := half.length) (k := 0) (b := half.drop 64) (by rw [List.length_drop]; omega)
  have hrl : recsF gn half.length 0 (half.drop 64) = recs gn half := rfl
  rw [hrl, ← hL, List.length_drop] at r1 r4
  rw [← hL] at hNN hop ⊢
  have hLg := sizeL_ge (l := L)
  have hNL : L.length = N.length := by rw [← hNN, List.length_map]
  have st : St m0 m3 [] w0 w (logB g b ⟨k, gn, 0⟩ (.slice none 0 0) :: lrE lv N :: diskO b s n wv (calm S) :: Es) := st.perm (List.Perm.swap _ _ _)
  have hh := hh.mono hmm3
  have hmm3 : ∀ k o, m k = some o → m3 k = some o := fun k o h => hmm3 k o (hmm2 k o h)
  refine wl_val (v_move' (by conv => (lhs; whnf))) rfl ?_
  refine wl_val (v_extract rfl rfl) rfl ?_
  refine wl_val (v_extract rfl rfl) rfl ?_
  refine wl_val (v_nil rfl) rfl ?_
  refine wl_val (v_fa TF.f75_4 rfl) rfl ?_
  refine wl_store1 (v := lv) 0 st rfl TF.t35 rfl rfl (row_one (st.at (i := 1) rfl)) (lt_ok rfl) ?_
  intro w st
  have st : St m0 m3 [] w0 w (logB g b ⟨k, gn, 0⟩ lv :: lrE lv N :: diskO b s n wv (calm S) :: Es) := st
  refine wl_val (v_nil rfl) rfl ?_
  refine wl_val (v_fa TF.f75_3 rfl) rfl ?_
  refine wl_store1 (v := .int .i64 ((64 + sizeL L : Nat) : Int)) 0 st rfl TF.t3 rfl rfl rfl (lt_ok rfl) ?_
  intro w st
  have st : St m0 m3 [] w0 w (logB g b ⟨k, gn, 64 + sizeL L⟩ lv :: lrE lv N :: diskO b s n wv (calm S) :: Es) := st
  refine wl_nil ?_
  refine then_go ?_
  refine wc_seq ?_
  refine wc_seq ?_
  refine wc_region ?_
  refine wl_val (v_move' (by conv => (lhs; whnf))) rfl ?_
  refine wl_val (v_move' (by conv => (lhs; whnf))) rfl ?_
  refine wl_val (v_nil rfl) rfl ?_
  refine wl_val (v_fa TF.f75_3 rfl) rfl ?_
  refine wl_val (v_load rfl (st.reads (v := .int .i64 ((64 + sizeL L : Nat) : Int)) 0 rfl TF.t3 rfl)) rfl ?_
  refine wl_val (v_sls (64 + sizeL L) half.length Try.underlying31 TF.t5 rfl ⟨_, _, rfl, rfl⟩ rfl (by omega) (by omega)) rfl ?_
  refine wl_val (v_len_s Try.underlying31 rfl) rfl ?_
  refine wl_val (v_move' (by conv => (lhs; whnf))) rfl ?_
  refine wl_nil ?_
  refine then_go ?_
  refine wc_block ?_
  have htl := hh.tailB (64 + sizeL L) (by omega)
  obtain ⟨tl, htle⟩ : ∃ tl, tl = half.drop (64 + sizeL L) := ⟨_, rfl⟩
  have htll : tl.length = half.length - (64 + sizeL L) := by rw [htle, List.length_drop]
  rw [← htle] at htl hop
  rw [← htll] at htl ⊢
  obtain ⟨ta, tc, htv⟩ : ∃ a c, Value.slice (sliceOff (sliceOff sa sc (k * H) 1) (sc - k * H) (64 + sizeL L) 1) tl.length (sc - k * H - (64 + sizeL L)) = .slice a tl.length c := ⟨_, _, rfl⟩
  rw [htv] at htl ⊢
  refine wc_loop (S := Nat) (fun q r w' => ∃ (i : Nat), q + i = tl.length ∧ r 5 = .pointer (some ⟨g, 0, none⟩) ∧ r 82 = .slice ta tl.length tc ∧ r 83 = .int .i64 tl.length ∧ r 84 = .int .i64 i ∧ (∀ c ∈ tl.take i, c = 0) ∧ St m0 m3 [] w0 w' (logB g b ⟨k, gn, 64 + sizeL L⟩ lv :: lrE lv N :: diskO b s n wv (calm S) :: Es)) id tl.length ⟨0, by omega, rfl, rfl, rfl, rfl, by simp, st⟩ ?_
  clear st
  rintro q r w2 ⟨i, hqi, g5, g82, g83, g84, hz, st⟩
  refine wc_o 5 g5 (wc_o 82 g82 (wc_o 83 g83 (wc_o 84 g84 ?_)))
  refine wc_seq ?_
  refine wc_region ?_
  refine wl_val (v_lss rfl rfl) rfl ?_
  refine wl_nil ?_
  refine then_go ?_
  refine wc_seq ?_
  refine wc_if rfl (fun h85 => ?_) (fun h85 => ?_)
  ·refine wc_skip ?_
   refine then_go ?_
   refine wc_seq ?_
   refine wc_block ?_
   refine wc_seq ?_
   have hi : i < tl.length := by omega
   obtain ⟨tb, to, tcc, htb, _⟩ := htl.ptr1 (by omega) (by decide)
   cases htb
   refine wc_region ?_
   refine wl_val (v_ias i Try.underlying31 TF.t5 rfl rfl (by first | rfl | omega) (by first | omega | (dsimp only at *; omega))) rfl ?_
   refine wl_val (v_load rfl (SlM.rdB TF.t5 i htl hi st.im)) rfl ?_
   refine wl_val (v_assign' (by conv => (lhs; whnf))) rfl ?_
   refine wl_nil ?_
   refine then_go ?_
   refine wc_seq ?_
   refine wc_region ?_
   refine wl_val (v_move' (by conv => (lhs; whnf))) rfl ?_
   refine wl_val (v_neq rfl rfl) rfl ?_
   refine wl_nil ?_
   refine then_go ?_
   refine wc_if rfl (fun h89 => ?_) (fun h89 => ?_)
   ·refine wc_seq ?_
    refine wc_region ?_
    refine wl_val (v_move' (by conv => (lhs; whnf))) rfl ?_
    refine wl_val (v_move' (by conv => (lhs; whnf))) rfl ?_
    refine wl_val (v_move' (by conv => (lhs; whnf))) rfl ?_
    refine wl_val (v_nil rfl) rfl ?_
    refine wl_val (v_fa TF.f75_4 rfl) rfl ?_
    refine wl_val (v_load rfl (st.reads (v := lv) 0 rfl TF.t35 rfl)) rfl ?_
    have hnz : ∃ c ∈ tl, c ≠ 0 := ⟨tl[i], List.getElem_mem hi, fun e => h89 (by rw [e]; rfl)⟩
    rw [if_pos hnz] at hop
    have st1 := st
    obtain ⟨m4, hg4, hm4, st⟩ := st.freezeR (i := 1) rfl (by simp)
    have hNM : PcsM m4 lv N := ⟨row_SlM (m := m4) (st1.at (i := 1) rfl) hm4, hP.mono hg4.le⟩
    have st : St m0 m4 [] w0 _ (logB g b ⟨k, gn, 64 + sizeL L⟩ lv :: diskO b s n wv (calm S) :: Es) := st
    refine wl_call rfl (c_over (sl := ⟨k, gn, 64 + sizeL L⟩) st hr hn hk hNM (fun x hx => by have := (r4 x.1 (by rw [← hNN]; exact List.mem_map.2 ⟨x, hx, rfl⟩)).2; omega) (by omega)) rfl ?_
    rintro v96 w ⟨m5, wv5, hmm5, rfl, hbad, hok⟩
    rw [hNN] at hbad hok ⊢
    have hz : (overD n (calm S) ⟨k, gn, 64 + sizeL L⟩ L).2.2 = 0 := by rw [hop] at h0; exact h0
    obtain ⟨lv', N', hP', _, hNN', st⟩ := hok hz
    refine wl_val (v_assign' (by conv => (lhs; whnf))) rfl ?_
    refine wl_val (v_assign' (by conv => (lhs; whnf))) rfl ?_
    refine wl_nil ?_
    refine then_go ?_
    refine wc_ret (block_ret (then_ret (then_ret (block_ret (then_ret ?_)))))
    refine ret2 rfl rfl ⟨m5, wv5, g, lv', N', fun k o h => hmm5 k o (hg4.le k o (hmm3 k o h)), by rw [hop]; rfl, hP', by rw [hop]; exact hNN', by rw [hop]; exact st⟩
   ·refine wc_skip ?_
    refine block_go (then_go ?_)
    refine wc_region ?_
    refine wl_val (v_add' (c := ((i + 1 : Nat) : Int)) rfl rfl (by omega) (by omega) (by omega)) rfl ?_
    refine wl_val (v_move' (by conv => (lhs; whnf))) rfl ?_
    refine wl_nil ?_
    refine then_go ?_
    refine ⟨q - 1, by simp; omega, i + 1, by omega, rfl, rfl, rfl, rfl, fun c hc => ?_, st⟩
    rw [List.take_succ_eq_append_getElem hi] at hc
    rcases List.mem_append.1 hc with hc | hc
    ·exact hz c hc
    ·rw [List.mem_singleton.1 hc]
     have : tl[i].toNat = 0 := by have := Decidable.not_not.1 h89; omega
     exact UInt8.toNat_inj.1 this
  ·refine wc_exit (then_exit (then_exit (block_hit ?_)))
   refine then_go ?_
   refine wc_seq ?_
   refine wc_region ?_
   refine wl_val (v_move' (by conv => (lhs; whnf))) rfl ?_
   refine wl_val (v_assign' (by conv => (lhs; whnf))) rfl ?_
   refine wl_val (v_assign' (by conv => (lhs; whnf))) rfl ?_
   refine wl_nil ?_
   refine then_go ?_
   refine wc_ret ?_
   have hiN : i = tl.length := by omega
   subst hiN
   rw [List.take_length] at hz
   rw [if_neg (by rintro ⟨c, hc, hc0⟩; exact hc0 (hz c hc))] at hop
   refine ret2 rfl rfl ⟨m3, wv, g, lv, N, hmm3, by rw [hop]; rfl, hP, by rw [hop]; exact hNN, by rw [hop]; exact st⟩
end
end Go.Proofs.Ytladpaehbolghaa

namespace Go.Proofs.Ytladpaehbolghaa
open Go Go.RowKit K SH GC JR OS
namespace OS
abbrev Kys := List (By × By)
def Risen (M : Kys) : Prop := (M.map (·.1)).Pairwise (· < ·)
def oneS (M : Kys) (a : Ac) : Kys := M.filter (fun x => decide (x.1 < a.key)) ++ ((if a.set then [(a.key, a.data)] else []) ++ M.filter (fun x => decide (a.key < x.1)))
def doneS (M : Kys) (A : List Ac) : Kys := A.foldl oneS M
def actsOf (M : Kys) : List Ac := M.map fun x => ⟨x.1, true, x.2⟩
def anewOf (M : Kys) : List By := if M = [] then [] else [batB (actsOf M)]
def applyR (M : Kys) (R : List By) (A : List Ac) (n : Nat) : Kys × List By × Nat :=
 if chkL A ≠ 0 ∨ A = [] then (M, R, chkL A)
 else if appR R (batB A) n = 0 then (doneS M A, R ++ [batB A], 0)
 else if chkL (actsOf (doneS M A)) ≠ 0 ∨ resR (anewOf (doneS M A)) n ≠ 0 then (M, R, 13)
 else (doneS M A, anewOf (doneS M A), 0)
theorem Risen.nodup {M : Kys} (h : Risen M) : (M.map (·.1)).Nodup := h.imp fun h => by rintro rfl; exact List.lt_irrefl _ h
theorem oneS_rise {M : Kys} {a : Ac} (h : Risen M) : Risen (oneS M a) := by
 unfold Risen oneS at *
 rw [List.pairwise_map] at *
 rw [List.pairwise_append]
 refine ⟨h.sublist List.filter_sublist, ?_, ?_⟩
 ·rw [List.pairwise_append]
  refine ⟨by split <;> simp, h.sublist List.filter_sublist, fun x hx y hy => ?_⟩
  have hy := (List.mem_filter.1 hy).2
  split at hx
  ·rw [List.mem_singleton.1 hx]; exact of_decide_eq_true hy
  ·cases hx
 ·intro x hx y hy
  have hx := of_decide_eq_true (List.mem_filter.1 hx).2
  rcases List.mem_append.1 hy with hy | hy
  ·split at hy
   ·rw [List.mem_singleton.1 hy]; exact hx
   ·cases hy
  ·exact List.lt_trans hx (of_decide_eq_true (List.mem_filter.1 hy).2)
theorem ins_perm {k d : By} : ∀ {X : Kys}, (X.map (·.1)).Nodup → (insKV k d X).Perm ((k, d) :: delKV k X)
 | [], _ => List.Perm.refl _
 | x :: X, h => by
  rw [List.map_cons, List.nodup_cons] at h
  rw [insKV]
  by_cases e : x.1 = k
  ·rw [if_pos e]
   have : delKV k (x :: X) = X := by
    unfold delKV
    rw [List.filter_cons, if_neg (by simp [e])]
    exact delKV_off fun y hy q => h.1 (List.mem_map.2 ⟨y, hy, q.trans e.symm⟩)
   rw [this]
  ·rw [if_neg e]
   have : delKV k (x :: X) = x :: delKV k X := by unfold delKV; rw [List.filter_cons, if_pos (by simpa using e)]
   rw [this]
   exact ((ins_perm h.2).cons x).trans (List.Perm.swap _ _ _)
theorem two_perm {k : By} : ∀ (M : Kys), (M.filter (fun x => decide (x.1 < k)) ++ M.filter (fun x => decide (k < x.1))).Perm (delKV k M)
 | [] => List.Perm.refl _
 | x :: M => by
  have ih := two_perm (k := k) M
  unfold delKV at ih ⊢
  rw [List.filter_cons, List.filter_cons, List.filter_cons]
  by_cases h1 : x.1 < k
  ·have h2 : ¬ k < x.1 := fun h => List.lt_irrefl _ (List.lt_trans h1 h)
   have h3 : x.1 ≠ k := fun e => by rw [e] at h1; exact List.lt_irrefl _ h1
   rw [if_pos (decide_eq_true h1), if_neg (by simpa using h2), if_pos (by simpa using h3)]
   exact ih.cons x
  ·by_cases h2 : k < x.1
   ·have h3 : x.1 ≠ k := fun e => by rw [e] at h2; exact List.lt_irrefl _ h2
    rw [if_neg (by simpa using h1), if_pos (decide_eq_true h2), if_pos (by simpa using h3)]
    exact List.perm_middle.trans (ih.cons x)
   ·have h3 : x.1 = k := List.le_antisymm (List.not_lt.1 h2) (List.not_lt.1 h1)
    rw [if_neg (by simpa using h1), if_neg (by simpa using h2), if_neg (by simp [h3])]
    exact ih
theorem oneS_perm {M X : Kys} {a : Ac} (hp : M.Perm X) (hn : (X.map (·.1)).Nodup) : (oneS M a).Perm (actK X a) := by
 unfold oneS actK
 have hf : (delKV a.key M).Perm (delKV a.key X) := hp.filter _
 have h2 := (two_perm (k := a.key) M).trans hf
 split
 ·refine List.Perm.trans ?_ (ins_perm hn).symm
  exact List.perm_middle.trans (h2.cons _)
 ·rw [List.nil_append]; exact h2
theorem actK_nodup {X : Kys} {a : Ac} (h : (X.map (·.1)).Nodup) : ((actK X a).map (·.1)).Nodup := by
 unfold actK
 split
 ·exact nodup_insKV h
 ·exact nodup_delKV h
theorem doneS_rise {A : List Ac} : ∀ {M : Kys}, Risen M → Risen (doneS M A) := by
 induction A with
 | nil => intro M h; exact h
 | cons a A ih => intro M h; exact ih (oneS_rise h)
theorem doneS_perm {A : List Ac} : ∀ {M X : Kys}, M.Perm X → (X.map (·.1)).Nodup → (doneS M A).Perm (doneK X A) := by
 induction A with
 | nil => intro M X h _; exact h
 | cons a A ih => intro M X h hn; exact ih (oneS_perm h hn) (actK_nodup hn)
theorem rise_one {A B : List Ac} (hA : (A.map (·.key)).Pairwise (· < ·)) (hB : (B.map (·.key)).Pairwise (· < ·)) (hp : A.Perm B) : A = B :=
 hp.eq_of_pairwise (le := fun x y => x.key < y.key) (fun a b _ _ h1 h2 => (List.lt_irrefl _ (List.lt_trans h1 h2)).elim) (List.pairwise_map.1 hA) (List.pairwise_map.1 hB)
theorem acts_keys {M : Kys} : (actsOf M).map (·.key) = M.map (·.1) := by unfold actsOf; rw [List.map_map]; rfl
theorem whole_one {A : List AcT} {L : List (By × DV)} {M : Kys} (hA : A.Perm (L.map toAct)) (hr : (A.map (·.1.key)).Pairwise (· < ·)) (hM : Risen M) (hp : M.Perm (kvs L)) : A.map (·.1) = actsOf M := by
 refine rise_one (by rw [List.map_map]; exact hr) (by rw [acts_keys]; exact hM) ?_
 have h1 := hA.map (·.1)
 rw [List.map_map] at h1
 refine h1.trans ?_
 have h2 := (hp.map (fun x : By × By => (⟨x.1, true, x.2⟩ : Ac))).symm
 unfold kvs at h2
 rw [List.map_map] at h2
 exact h2
def bulkK (M : Kys) : Nat := (M.map fun x => x.1.length + x.2.length).sum
theorem bulk_acts {M : Kys} : bulkA (actsOf M) = bulkK M := by unfold bulkA actsOf bulkK; rw [List.map_map]; rfl
theorem bulk_filter {p : By × By → Bool} : ∀ {M : Kys}, bulkK (M.filter p) ≤ bulkK M
 | [] => by simp
 | x :: M => by
  have := bulk_filter (p := p) (M := M)
  unfold bulkK at this ⊢
  rw [List.filter_cons]
  split <;> simp <;> omega
theorem bulk_app {M N : Kys} : bulkK (M ++ N) = bulkK M + bulkK N := by simp [bulkK]
theorem bulkOne {M : Kys} {a : Ac} : bulkK (oneS M a) ≤ bulkK M + (a.key.length + a.data.length) ∧ (oneS M a).length ≤ M.length + 1 := by
 have h : (M.filter (fun x => decide (x.1 < a.key)) ++ M.filter (fun x => decide (a.key < x.1))).Perm (delKV a.key M) := two_perm M
 have h1 : bulkK (M.filter (fun x => decide (x.1 < a.key)) ++ M.filter (fun x => decide (a.key < x.1))) = bulkK (delKV a.key M) := by
  unfold bulkK
  exact (h.map _).sum_nat
 have h2 : bulkK (delKV a.key M) ≤ bulkK M := bulk_filter
 have h3 := h.length_eq
 have h4 : (delKV a.key M).length ≤ M.length := List.length_filter_le _ _
 rw [bulk_app] at h1
 rw [List.length_append] at h3
 unfold oneS
 rw [bulk_app, bulk_app, List.length_append, List.length_append]
 split
 ·simp only [bulkK, List.map_cons, List.map_nil, List.sum_cons, List.sum_nil, List.length_cons, List.length_nil] at *
  omega
 ·simp only [bulkK, List.map_nil, List.sum_nil, List.length_nil] at *
  omega
theorem bulk_done {A : List Ac} : ∀ {M : Kys}, bulkK (doneS M A) ≤ bulkK M + bulkA A ∧ (doneS M A).length ≤ M.length + A.length := by
 induction A with
 | nil => intro M; exact ⟨by simp [doneS, bulkA], by simp [doneS]⟩
 | cons a A ih =>
  intro M
  have h := ih (M := oneS M a)
  have h2 := bulkOne (M := M) (a := a)
  rw [bulk_cons, List.length_cons]
  have e : doneS M (a :: A) = doneS (oneS M a) A := rfl
  rw [e]
  omega
end OS
end Go.Proofs.Ytladpaehbolghaa

namespace Go.Proofs.Ytladpaehbolghaa
open Go Go.RowKit K SH DK JR
structure OpV where
 ag : Bool
 B : By
 bv : Value
 M : List (By × Value)
 lv : Value
def opC (o : OpV) : List Value := [.bool o.ag, o.bv, o.lv]
def OpOk (m : Mem) (o : OpV) : Prop := SlM m o.bv 1 o.B.length (bs o.B) ∧ PcsM m o.lv o.M
def OpsM (m : Mem) (v : Value) (L : List OpV) : Prop := LsM m v opC 3 L ∧ ∀ o ∈ L, OpOk m o
theorem OpsM.mono {m m' : Mem} {v : Value} {L : List OpV} (h : OpsM m v L) (hm : ∀ k o, m k = some o → m' k = some o) : OpsM m' v L := ⟨h.1.mono hm, fun o ho => ⟨(h.2 o ho).1.mono hm, (h.2 o ho).2.mono hm⟩⟩
theorem PcsM.sl {m : Mem} {v : Value} {N : List (By × Value)} (h : PcsM m v N) : ∃ a c, v = .slice a N.length c := by obtain ⟨⟨_, a, c, h, _⟩, _⟩ := h; exact ⟨a, c, h⟩
section
variable {m : Mem} {wI : World}
def ApartR (m m' : Mem) (v : Value) (N : List (By × Value)) : Prop := ∃ m1, (∀ k o, m1 k = some o → m' k = some o ∧ m k = none) ∧ SlM m1 v 1 N.length (N.map (·.2))
theorem ApartR.mono {m n m' m'' : Mem} {v : Value} {N : List (By × Value)} (h : ApartR m m' v N) (hn : ∀ k o, n k = some o → m k = some o) (hm : ∀ k o, m' k = some o → m'' k = some o) : ApartR n m'' v N := by
 obtain ⟨m1, h1, h2⟩ := h
 refine ⟨m1, fun k o hk => ⟨hm k o (h1 k o hk).1, ?_⟩, h2⟩
 cases hq : n k with
 | none => rfl
 | some q => have := hn k q hq; rw [(h1 k o hk).2] at this; cases this
end
end Go.Proofs.Ytladpaehbolghaa

namespace Go.Proofs.Ytladpaehbolghaa
open Go Go.RowKit K SH GC JR OS
namespace OS
abbrev kstr (E : List (By × DV)) : List Value := E.map fun x => .string (strB x.1)
abbrev kval (E : List (By × DV)) : List Value := E.map fun x => x.2.2
def KyM (m : Mem) (kv vv : Value) (E : List (By × DV)) : Prop := SlM m kv 1 E.length (kstr E) ∧ SlM m vv 1 E.length (kval E) ∧ KvOk m E
theorem KyM.mono {m m' : Mem} {kv vv : Value} {E : List (By × DV)} (h : KyM m kv vv E) (hm : ∀ k o, m k = some o → m' k = some o) : KyM m' kv vv E := ⟨h.1.mono hm, h.2.1.mono hm, h.2.2.mono hm⟩
theorem KyM.nil {m : Mem} : KyM m (.slice none 0 0) (.slice none 0 0) [] := ⟨SlM.nil, SlM.nil, fun _ h => by cases h⟩
theorem KyM.sl {m : Mem} {kv vv : Value} {E : List (By × DV)} (h : KyM m kv vv E) : ∃ a c a' c', kv = .slice a E.length c ∧ vv = .slice a' E.length c' ∧ E.length ≤ c ∧ E.length ≤ c' := by
 obtain ⟨⟨_, a, c, h1, k1, _⟩, ⟨_, a', c', h2, k2, _⟩, _⟩ := h
 exact ⟨a, c, a', c', h1, h2, k1, k2⟩
theorem length_kvs {E : List (By × DV)} : (kvs E).length = E.length := List.length_map _
end OS
section
variable {m : Mem} {wI : World}
theorem OS.KyM.str {kv vv : Value} {E : List (By × DV)} (h : KyM m kv vv E) {i : Nat} (hi : i < E.length) : ∃ b o c, kv = .slice (some ⟨b, o, none⟩) E.length c ∧ ∀ {w : World} (_ : Im m w), Reads Try.prog w 9 ⟨b, o + i * 1, none⟩ (.string (strB E[i].1)) := by
 obtain ⟨b, o, c, hv, _, hr⟩ := h.1.elem Try.prog (i := i) hi (by omega)
 refine ⟨b, o, c, hv, fun {w} him => ?_⟩
 have := hr him (off := 0) (v' := .string (strB E[i].1)) TF.t9 (by
  have e : cellsAt (kstr E) 1 i = [.string (strB E[i].1)] := by simp [cellsAt, List.drop_eq_getElem_cons, hi]
  rw [e]
  rfl)
 simpa using this
theorem OS.KyM.val {kv vv : Value} {E : List (By × DV)} (h : KyM m kv vv E) {i : Nat} (hi : i < E.length) : ∃ b o c, vv = .slice (some ⟨b, o, none⟩) E.length c ∧ ∀ {w : World} (_ : Im m w), Reads Try.prog w 31 ⟨b, o + i * 1, none⟩ E[i].2.2 := by
 obtain ⟨b, o, c, hv, _, hr⟩ := h.2.1.elem Try.prog (i := i) hi (by omega)
 refine ⟨b, o, c, hv, fun {w} him => ?_⟩
 have := hr him (off := 0) (v' := E[i].2.2) TF.t31 (by
  have e : cellsAt (kval E) 1 i = [E[i].2.2] := by simp [cellsAt, List.drop_eq_getElem_cons, hi]
  rw [e]
  rfl)
 simpa using this
end
end Go.Proofs.Ytladpaehbolghaa

namespace Go.Proofs.Ytladpaehbolghaa
open Go Go.RowKit K SH GC JR OS
open DK hiding By
section
variable {m0 m : Mem} {F : List Nat} {w0 w : World} {Es : List Ent}
abbrev lgE (g b s n : Nat) (sl : LG) (lv wv : Value) (S : By) (N : List (By × Value)) (Es : List Ent) : List Ent := logB g b sl lv :: lrE lv N :: diskO b s n wv (calm S) :: Es
abbrev stE (sb g mb : Nat) (L : List (By × DV)) (Es : List Ent) : List Ent := K.blk sb #[.pointer (some ⟨g, 0, none⟩), .map (some mb)] 54 :: kmE mb L :: Es
def LgOut (m0 m : Mem) (w0 w' : World) (Es : List Ent) (g b s n : Nat) (sl : LG) (N : List (By × Value)) (a : Nat) (X : List By) (v : Value) : Prop :=
 ∃ m' wv' lv' N' S' sl', (∀ k o, m k = some o → m' k = some o) ∧ v = .int .i64 (a : Nat) ∧ Pcs m' N' ∧ PcsN m m' N N' ∧ N'.map (·.1) = (if a = 0 then X else N.map (·.1)) ∧ LogOk n S' sl' (N'.map (·.1)) ∧ sl'.gen.toNat ≤ sl.gen.toNat + 1 ∧ St m0 m' [] w0 w' (lgE g b s n sl' lv' wv' S' N' Es)
theorem lg_of {g b s n a : Nat} {sl sl' : LG} {N : List (By × Value)} {d : DS} {X : List By} {v : Value} {w' : World} {S' : By} (h : LogOut m0 m w0 w' Es g b s n (d, sl', ((a : Nat) : Int)) N (N.map (·.1)) X v) (hd : d = calm S') (ok : LogOk n S' sl' (if a = 0 then X else N.map (·.1))) (hg : sl'.gen.toNat ≤ sl.gen.toNat + 1) : LgOut m0 m w0 w' Es g b s n sl N a X v := by
 obtain ⟨m', wv', lv', N', hmm, hv, hP, hPn, hN, st⟩ := h
 subst hd
 have e : (if ((a : Nat) : Int) = 0 then X else N.map (·.1)) = (if a = 0 then X else N.map (·.1)) := by
  by_cases h : a = 0
  ·rw [if_pos h, if_pos (by omega)]
  ·rw [if_neg h, if_neg (by omega)]
 have hN : N'.map (·.1) = (if a = 0 then X else N.map (·.1)) := hN.trans e
 exact ⟨m', wv', lv', N', S', sl', hmm, hv, hP, hPn, hN, by rw [hN]; exact ok, hg, st⟩
theorem LgOut.drop {E : Ent} {m' : Mem} {g b s n a : Nat} {sl : LG} {N : List (By × Value)} {X : List By} {v : Value} {w' : World} (h : LgOut m0 m' w0 w' (E :: Es) g b s n sl N a X v) : LgOut m0 m' w0 w' Es g b s n sl N a X v := by
 obtain ⟨m', wv', lv', N', S', sl', hmm, hv, hP, hPn, hN, ok, hg, st⟩ := h
 exact ⟨m', wv', lv', N', S', sl', hmm, hv, hP, hPn, hN, ok, hg, st.drop 3⟩
theorem LgOut.from {m' : Mem} {g b s n a : Nat} {sl : LG} {N : List (By × Value)} {X : List By} {v : Value} {w' : World} (h : LgOut m0 m' w0 w' Es g b s n sl N a X v) (hm : ∀ k o, m k = some o → m' k = some o) : LgOut m0 m w0 w' Es g b s n sl N a X v := by
 obtain ⟨m2, wv', lv', N', S', sl', hmm, hv, hP, hPn, hN, ok, hg, st⟩ := h
 exact ⟨m2, wv', lv', N', S', sl', fun k o h => hmm k o (hm k o h), hv, hP, fun y hy => (hPn y hy).imp id fun h => h.mono hm fun _ _ h => h, hN, ok, hg, st⟩
theorem c_lrestart {g b s n : Nat} {sl : LG} {lv wv nv : Value} {S : By} {N M : List (By × Value)} (st : St m0 m [] w0 w (lgE g b s n sl lv wv S N Es)) (ok : LogOk n S sl (N.map (·.1))) (hg : sl.gen.toNat + 1 < 18446744073709551616) (hP : Pcs m N) (hM : PcsM m nv M) (hMn : M.length ≤ 1048576) :
  Ret Try.prog 35 #[.pointer (some ⟨g, 0, none⟩), nv] w fun v w' => LgOut m0 m w0 w' Es g b s n sl N (resR (M.map (·.1)) n) (M.map (·.1)) v := by
 obtain ⟨S', sl', hr, ok', hg'⟩ := ok.res hg (M := M.map (·.1))
 refine (c_restart st (rdy_calm ok.len (by have := ok.n8; omega) ok.nle) hP ok.n8 ok.half hM hMn).mono fun v w' h => ?_
 rw [hr] at h
 refine lg_of h rfl ok' ?_
 rw [hg']
 split
 ·rw [UInt64.toNat_add, show (1 : UInt64).toNat = 1 from rfl]; omega
 ·omega
theorem c_lappend {g b s n : Nat} {sl : LG} {lv wv bv : Value} {S : By} {N : List (By × Value)} {x : By} (st : St m0 m [] w0 w (lgE g b s n sl lv wv S N Es)) (ok : LogOk n S sl (N.map (·.1))) (hP : Pcs m N) (hx : SlM m bv 1 x.length (bs x)) :
  Ret Try.prog 16 #[.pointer (some ⟨g, 0, none⟩), bv] w fun v w' => LgOut m0 m w0 w' Es g b s n sl N (appR (N.map (·.1)) x n) (N.map (·.1) ++ [x]) v := by
 obtain ⟨S', sl', hr, ok', hg', hh'⟩ := ok.app (x := x)
 have hl := sizeL_ge (l := N.map (·.1))
 have h1 := ok.fit
 have h2 := ok.nle
 rw [List.length_map] at hl
 refine (c_append st (rdy_calm ok.len (by have := ok.n8; omega) ok.nle) hP hx ok.half (by rw [ok.fin]; exact ok.fit) (by omega)).mono fun v w' h => ?_
 rw [hr] at h
 exact lg_of h rfl ok' (by rw [hg']; omega)
theorem c_kclone {mb : Nat} {L : List (By × DV)} (i : Nat) (st : St m0 m F w0 w Es) (hi : Es[i]? = some (kmE mb L)) :
  Ret Try.prog 33 #[.map (some mb)] w fun v w' => ∃ mc, v = .map (some mc) ∧ St m0 m F w0 w' (kmE mc L :: Es) := by
 obtain ⟨es, cl, hb, he⟩ := st.at hi
 exact ⟨Try.call33, Calls.mono (AnyW.maps_Clone cloneMap mb es cl w hb) fun e w' ⟨he, hw⟩ => ⟨_, he, _, rfl, hw ▸ mapE_copy (b' := 0) st hi hb⟩⟩
def OS.overN (M : Kys) (n : Nat) : Nat := if chkL (actsOf M) ≠ 0 ∨ resR (anewOf M) n ≠ 0 then 13 else 0
theorem c_sover {sb mb g b s n : Nat} {sl : LG} {lv wv v : Value} {S : By} {N : List (By × Value)} {L : List (By × DV)} {A : List AcT} {M : Kys}
  (st : St m0 m [] w0 w (lgE g b s n sl lv wv S N (stE sb g mb L Es))) (ok : LogOk n S sl (N.map (·.1))) (hg : sl.gen.toNat + 1 < 18446744073709551616) (hP : Pcs m N) (hL : KvOk m L) (hM : Risen M) (hp : M.Perm (kvs L)) (hA : AcsM m v A) (hok : okL (A.map (·.1))) (hn : L.length ≤ 100000) (hb : bulkK M + bulkA (A.map (·.1)) ≤ 1000000000) :
  Ret Try.prog 18 #[.pointer (some ⟨sb, 0, none⟩), v] w fun v' w' => LgOut m0 m w0 w' (stE sb g mb L Es) g b s n sl N (overN (doneS M (A.map (·.1))) n) (anewOf (doneS M (A.map (·.1)))) v' := by
 obtain ⟨M1, hM1⟩ : ∃ M1, M1 = doneS M (A.map (·.1)) := ⟨_, rfl⟩
 rw [← hM1]
 have hAl : A.length ≤ 4096 := by have := hok.1; simpa using this
 have hMl : M.length = L.length := by have := hp.length_eq; simpa using this
 have hr1 : Risen M1 := by rw [hM1]; exact doneS_rise hM
 obtain ⟨hb1, hl1⟩ := bulk_done (M := M) (A := A.map (·.1))
 rw [← hM1] at hb1 hl1
 rw [List.length_map] at hl1
 have hnd : ((kvs L).map (·.1)).Nodup := (hp.map (·.1)).nodup hM.nodup
 have h8 := ok.n8
 refine ret_of Try.call18 Try.func18 rfl Try.ntmps18 Try.results18 rfl ?_
 refine wc_seq ?_
 refine wc_region ?_
 refine wl_val (v_assign' (by conv => (lhs; whnf))) rfl ?_
 refine wl_nil ?_
 refine then_go ?_
 refine wc_seq ?_
 refine wc_region ?_
 refine wl_val (v_move' (by conv => (lhs; whnf))) rfl ?_
 refine wl_val (v_nil rfl) rfl ?_
 refine wl_val (v_fa TF.f54_1 rfl) rfl ?_
 refine wl_val (v_load rfl (st.reads (v := .map (some mb)) 3 rfl TF.t52 rfl)) rfl ?_
 refine wl_call rfl (c_kclone 4 st rfl) rfl ?_
 rintro v12 w ⟨mc, rfl, st⟩
 refine wl_val (v_assign' (by conv => (lhs; whnf))) rfl ?_
 refine wl_nil ?_
 refine then_go ?_
 refine wc_seq ?_
 refine wc_region ?_
 refine wl_val (v_move' (by conv => (lhs; whnf))) rfl ?_
 refine wl_val (v_move' (by conv => (lhs; whnf))) rfl ?_
 refine wl_call rfl (c_done st hA (fun a ha => hok.2.1 _ (List.mem_map.2 ⟨a, ha, rfl⟩)) hL (by omega)) rfl ?_
 rintro v15 w ⟨m1, L1, hmm1, hL1, _, hK1, st⟩
 have hpm : M1.Perm (kvs L1) := by rw [hM1, hK1]; exact doneS_perm hp hnd
 have hL1l : L1.length = M1.length := by have := hpm.length_eq; simpa using this.symm
 refine wl_nil ?_
 refine then_go ?_
 refine wc_seq ?_
 refine wc_region ?_
 refine wl_val (v_move' (by conv => (lhs; whnf))) rfl ?_
 refine wl_call rfl (c_swhole st hL1 (by omega)) rfl ?_
 rintro v17 w ⟨A1, hp1, hrs, st⟩
 have hAM : A1.map (·.1) = actsOf M1 := whole_one hp1 hrs hr1 hpm
 have hA1l : A1.length = M1.length := by have := congrArg List.length hAM; simpa [actsOf] using this
 have hao : ∀ a ∈ A1, AcOk m1 a.1 a.2 := fun a ha => by
  obtain ⟨z, hz, rfl⟩ := List.mem_map.1 (hp1.mem_iff.1 ha)
  obtain ⟨h1, h2, h3⟩ := hL1 z hz
  exact ⟨by show z.1.length ≤ _; omega, h3⟩
 obtain ⟨la, lc, hv17⟩ := row_sl (st.at (i := 0) rfl)
 subst hv17
 refine wl_val (v_assign' (by conv => (lhs; whnf))) rfl ?_
 refine wl_nil ?_
 refine then_go ?_
 refine wc_seq ?_
 refine wc_seq ?_
 refine wc_region ?_
 refine wl_val (v_move' (by conv => (lhs; whnf))) rfl ?_
 refine wl_val (v_len_s Try.underlying22 rfl) rfl ?_
 refine wl_val (v_eql rfl rfl) rfl ?_
 refine wl_nil ?_
 refine then_go ?_
 refine wc_cond rfl (fun h20 => ?_) (fun h20 => ?_)
 ·refine wc_seq ?_
  refine wc_region ?_
  refine wl_val (v_move' (by conv => (lhs; whnf))) rfl ?_
  refine wl_val (v_nil rfl) rfl ?_
  refine wl_val (v_fa TF.f54_0 rfl) rfl ?_
  refine wl_val (v_load rfl (st.reads (v := .pointer (some ⟨g, 0, none⟩)) 5 rfl TF.t51 rfl)) rfl ?_
  have hM0 : M1 = [] := by have := of_decide_eq_true h20; exact List.eq_nil_of_length_eq_zero (by omega)
  have st : St m0 m1 [] w0 w (lgE g b s n sl lv wv S N (stE sb g mb L Es)) := (st.drop 0).drop 0
  refine wl_call rfl (c_lrestart st ok hg (hP.mono hmm1) (M := []) ⟨SlM.nil, by simp⟩ (by simp)) rfl ?_
  intro v25 w ho
  refine wl_val (v_assign' (by conv => (lhs; whnf))) rfl ?_
  refine wl_nil ?_
  refine then_go ?_
  refine wc_ret (then_ret ?_)
  refine ret1 rfl ?_
  have e1 : anewOf M1 = [] := by unfold anewOf; rw [if_pos hM0]
  have e2 : overN M1 n = resR [] n := by
   have h3 : resR [] n = 0 := by unfold resR; rw [if_neg (by simp), if_pos (by simp [sizeL])]
   unfold overN
   rw [e1, h3, hM0, if_neg]
   rintro (h | h)
   ·exact h (by unfold chkL; rw [if_pos ⟨by simp [actsOf], by simp [actsOf], by simp [actsOf]⟩])
   ·exact h rfl
  rw [e1, e2]
  exact ho.from hmm1
 ·refine wc_skip ?_
  refine then_go ?_
  refine wc_seq ?_
  have hM0 : M1 ≠ [] := fun e => by have := of_decide_eq_false h20; rw [e] at hA1l; exact this (by rw [hA1l]; rfl)
  obtain ⟨m2, hg2, hls, st⟩ := st.keepLs (i := 0) rfl (fun _ _ => rfl)
  have hA1 : AcsM m2 (.slice la A1.length lc) A1 := ⟨hls, fun a ha => (hao a ha).mono hg2.le⟩
  refine wc_region ?_
  refine wl_val (v_move' (by conv => (lhs; whnf))) rfl ?_
  refine wl_call rfl (c_batch st hA1 (by omega) (by rw [hAM, bulk_acts]; omega)) rfl ?_
  rintro v27 w ⟨m3, hmm3, st⟩
  rw [hAM] at st
  have hA1 := hA1.mono hmm3
  have hmm13 : ∀ k o, m k = some o → m3 k = some o := fun k o h => hmm3 k o (hg2.le k o (hmm1 k o h))
  have ean : anewOf M1 = [batB (actsOf M1)] := by unfold anewOf; rw [if_neg hM0]
  refine wl_val (v_assign' (by conv => (lhs; whnf))) rfl ?_
  refine wl_nil ?_
  refine then_go ?_
  refine wc_seq ?_
  refine wc_seq ?_
  by_cases hck : checkE (batB (actsOf M1)) ≠ 0
  ·refine wc_region ?_
   refine wl_val (v_move' (by conv => (lhs; whnf))) rfl ?_
   refine wl_call rfl (c_jcheck (im_heapM _) (byE_SlM st 0 rfl)) rfl ?_
   rintro v29 w ⟨t29, rfl⟩
   have st := st.pure t29
   have hcq : (if 1 ≤ (batB (actsOf M1)).length ∧ (batB (actsOf M1)).length ≤ 1048576 then (0 : Int) else 1) = ((checkE (batB (actsOf M1)) : Nat) : Int) := by unfold checkE; split <;> rfl
   rw [hcq]
   refine wl_val (v_neqT (by omega) rfl rfl) rfl ?_
   refine wl_val (v_move' (by conv => (lhs; whnf))) rfl ?_
   refine wl_off rfl rfl rfl rfl ?_
   refine wl_off rfl rfl rfl rfl ?_
   refine wl_off rfl rfl rfl rfl ?_
   refine wl_val (v_pick rfl) rfl ?_
   refine wl_nil ?_
   refine then_go ?_
   refine wc_true rfl ?_
   refine wc_seq ?_
   refine wc_region ?_
   refine wl_val (v_assign' (by conv => (lhs; whnf))) rfl ?_
   refine wl_nil ?_
   refine then_go ?_
   refine wc_ret (then_ret ?_)
   have e2 : overN M1 n = 13 := by
    unfold overN
    have h : resR (anewOf M1) n ≠ 0 := by
     rw [ean]
     unfold resR
     rw [if_pos ⟨_, List.mem_singleton.2 rfl, hck⟩]
     decide
    rw [if_pos (.inr h)]
   refine ret1 (v := .int .i64 13) rfl ?_
   rw [e2]
   exact ⟨m3, wv, lv, N, S, sl, hmm13, rfl, hP.mono hmm13, .refl, by rw [if_neg (by decide)], ok, by omega, (st.drop 0).drop 0⟩
  ·refine wc_region ?_
   refine wl_val (v_move' (by conv => (lhs; whnf))) rfl ?_
   refine wl_call rfl (c_jcheck (im_heapM _) (byE_SlM st 0 rfl)) rfl ?_
   rintro v29 w ⟨t29, rfl⟩
   have st := st.pure t29
   have hcq : (if 1 ≤ (batB (actsOf M1)).length ∧ (batB (actsOf M1)).length ≤ 1048576 then (0 : Int) else 1) = ((checkE (batB (actsOf M1)) : Nat) : Int) := by unfold checkE; split <;> rfl
   rw [hcq]
   refine wl_val (v_neqF (by omega) rfl rfl) rfl ?_
   refine wl_val (v_move' (by conv => (lhs; whnf))) rfl ?_
   refine wl_on rfl rfl ?_
   refine wl_val (v_move' (by conv => (lhs; whnf))) rfl ?_
   have hAk : A1.length ≤ 1099511627776 := by omega
   have hcall := c_chk st.im hA1 hAk
   refine wl_on rfl rfl ?_
   refine wl_call rfl hcall rfl ?_
   rintro v33 w ⟨t33, rfl⟩
   have st := st.pure t33
   rw [hAM]
   refine wl_on rfl rfl ?_
   refine wl_val (v_neq rfl rfl) rfl ?_
   refine wl_val (v_pick rfl) rfl ?_
   refine wl_nil ?_
   refine then_go ?_
   refine wc_cond rfl (fun h35 => ?_) (fun h35 => ?_)
   ·refine wc_seq ?_
    refine wc_region ?_
    refine wl_val (v_assign' (by conv => (lhs; whnf))) rfl ?_
    refine wl_nil ?_
    refine then_go ?_
    refine wc_ret (then_ret ?_)
    have hz := of_decide_eq_true h35
    have e2 : overN M1 n = 13 := by
     unfold overN
     rw [if_pos (.inl (by omega))]
    refine ret1 (v := .int .i64 13) rfl ?_
    rw [e2]
    exact ⟨m3, wv, lv, N, S, sl, hmm13, rfl, hP.mono hmm13, .refl, by rw [if_neg (by decide)], ok, by omega, (st.drop 0).drop 0⟩
   ·refine wc_skip ?_
    refine then_go ?_
    refine wc_seq ?_
    refine wc_region ?_
    refine wl_val (v_move' (by conv => (lhs; whnf))) rfl ?_
    refine wl_val (v_nil rfl) rfl ?_
    refine wl_val (v_fa TF.f54_0 rfl) rfl ?_
    refine wl_val (v_load rfl (st.reads (v := .pointer (some ⟨g, 0, none⟩)) 5 rfl TF.t51 rfl)) rfl ?_
    refine wl_val (v_move' (by conv => (lhs; whnf))) rfl ?_
    have ho := byE_one st 0 rfl
    have st : St m0 m3 [] w0 w (byE v27 (batB (actsOf M1)) :: kmE mc L1 :: lgE g b s n sl lv wv S N (stE sb g mb L Es)) := st
    obtain ⟨m4, hg4, hm4, st2⟩ := st.freezeR (i := 0) rfl (by simp)
    have hx : SlM m4 v27 1 (batB (actsOf M1)).length (bs (batB (actsOf M1))) := row_SlM (m := m4) (st.at (i := 0) rfl) hm4
    have st : St m0 m4 [] w0 w (kmE mc L1 :: lgE g b s n sl lv wv S N (stE sb g mb L Es)) := st2
    refine wl_svOne (v := v27) Try.underlying35 TF.t31 TF.z31 ho rfl st rfl ?_
    intro b41 w st
    have st := st.rowShut 0 (b := b41) (k := 1) (cap := 1) (size := 1) (xs := [v27]) rfl (by omega) rfl (by omega) rfl
    have hP1 : Pcs m4 [(batB (actsOf M1), v27)] := fun y hy => by rw [List.mem_singleton.1 hy]; exact hx
    obtain ⟨m5, hg5, hm5, st5⟩ := st.freezeR (i := 0) rfl (by simp)
    have hrow : SlM m5 (.slice (some ⟨b41, 0, none⟩) 1 1) 1 1 [v27] := row_SlM (m := m5) (st.at (i := 0) rfl) hm5
    have st := st5
    have hmm15 : ∀ k o, m k = some o → m5 k = some o := fun k o h => hg5.le k o (hg4.le k o (hmm13 k o h))
    have hPM : PcsM m5 (.slice (some ⟨b41, 0, none⟩) 1 1) [(batB (actsOf M1), v27)] := ⟨hrow, hP1.mono hg5.le⟩
    have st : St m0 m5 [] w0 w (lgE g b s n sl lv wv S N (stE sb g mb L Es)) := st.drop 0
    refine wl_call rfl (c_lrestart st ok hg (hP.mono hmm15) hPM (by simp)) rfl ?_
    intro v42 w ho
    refine wl_val (v_assign' (by conv => (lhs; whnf))) rfl ?_
    refine wl_nil ?_
    refine then_go ?_
    refine wc_ret ?_
    refine ret1 rfl ?_
    have hz := of_decide_eq_false h35
    have e2 : overN M1 n = if resR (anewOf M1) n = 0 then 0 else 13 := by
     unfold overN
     by_cases h : resR (anewOf M1) n = 0
     ·rw [if_pos h, if_neg (by omega)]
     ·rw [if_neg h, if_pos (.inr h)]
    have e3 : resR (anewOf M1) n = 0 ∨ resR (anewOf M1) n = 13 := by
     rw [ean]
     unfold resR
     rw [if_neg (by rintro ⟨y, hy, hc⟩; rw [List.mem_singleton.1 hy] at hc; exact hck hc)]
     split
     ·exact .inl rfl
     ·exact .inr rfl
    have e4 : overN M1 n = resR (anewOf M1) n := by rcases e3 with e | e <;> rw [e2, e] <;> rfl
    rw [e4]
    have ho := ho.from hmm15
    rw [ean]
    exact ho
end
end Go.Proofs.Ytladpaehbolghaa

namespace Go.Proofs.Ytladpaehbolghaa
open Go Go.RowKit K SH GC JR OS
open DK hiding By
section
variable {m0 m : Mem} {F : List Nat} {w0 w : World} {Es : List Ent}
theorem OS.KvN.trans {m m1 m2 : Mem} {L L1 L2 : List (By × DV)} (h1 : KvN m m1 L L1) (h2 : KvN m1 m2 L1 L2) (hm : ∀ k o, m k = some o → m1 k = some o) (hm2 : ∀ k o, m1 k = some o → m2 k = some o) : KvN m m2 L L2 := fun x hx => (h2 x hx).elim (fun h => (h1 x h).imp id fun h => h.mono (fun _ _ h => h) hm2) fun h => .inr (h.mono hm fun _ _ h => h)
theorem PcsN.trans' {m m1 m2 : Mem} {L L1 L2 : List (By × Value)} (h1 : PcsN m m1 L L1) (h2 : PcsN m1 m2 L1 L2) (hm : ∀ k o, m k = some o → m1 k = some o) (hm2 : ∀ k o, m1 k = some o → m2 k = some o) : PcsN m m2 L L2 := fun x hx => (h2 x hx).elim (fun h => (h1 x h).imp id fun h => h.mono (fun _ _ h => h) hm2) fun h => .inr (h.mono hm fun _ _ h => h)
def StOut (m0 m : Mem) (w0 w' : World) (Es : List Ent) (sb mb g b s n : Nat) (sl : LG) (N : List (By × Value)) (L : List (By × DV)) (o : Kys × List By × Nat) (v : Value) : Prop :=
 ∃ m' wv' lv' N' S' sl' L', (∀ k o, m k = some o → m' k = some o) ∧ v = .int .i64 (o.2.2 : Nat) ∧ Pcs m' N' ∧ PcsN m m' N N' ∧ N'.map (·.1) = o.2.1 ∧ LogOk n S' sl' (N'.map (·.1)) ∧ sl'.gen.toNat ≤ sl.gen.toNat + 2 ∧ KvOk m' L' ∧ KvN m m' L L' ∧ o.1.Perm (kvs L') ∧ St m0 m' [] w0 w' (lgE g b s n sl' lv' wv' S' N' (stE sb g mb L' Es))
theorem appR_or {R : List By} {x : By} {n : Nat} : appR R x n = 0 ∨ appR R x n = 1 ∨ appR R x n = 13 := by
 unfold appR
 split
 ·exact .inr (.inl rfl)
 ·split
  ·exact .inl rfl
  ·exact .inr (.inr rfl)
theorem c_sapply {sb mb g b s n : Nat} {sl : LG} {lv wv v : Value} {S : By} {N : List (By × Value)} {L : List (By × DV)} {A : List AcT} {M : Kys}
  (st : St m0 m [] w0 w (lgE g b s n sl lv wv S N (stE sb g mb L Es))) (ok : LogOk n S sl (N.map (·.1))) (hg : sl.gen.toNat + 2 < 18446744073709551616) (hP : Pcs m N) (hL : KvOk m L) (hM : Risen M) (hp : M.Perm (kvs L)) (hA : AcsM m v A) (hAl : A.length ≤ 1000000) (hn : L.length ≤ 100000) (hb : bulkK M + bulkA (A.map (·.1)) ≤ 1000000000) :
  Ret Try.prog 8 #[.pointer (some ⟨sb, 0, none⟩), v] w fun v' w' => StOut m0 m w0 w' Es sb mb g b s n sl N L (applyR M (N.map (·.1)) (A.map (·.1)) n) v' := by
 have hmm0 : ∀ k o, m k = some o → m k = some o := fun _ _ h => h
 obtain ⟨la, lc, rfl⟩ := hA.1.sl
 have hnd : ((kvs L).map (·.1)).Nodup := (hp.map (·.1)).nodup hM.nodup
 refine ret_of Try.call8 Try.func8 rfl Try.ntmps8 Try.results8 rfl ?_
 refine wc_seq ?_
 refine wc_region ?_
 refine wl_val (v_assign' (by conv => (lhs; whnf))) rfl ?_
 refine wl_nil ?_
 refine then_go ?_
 refine wc_seq ?_
 refine wc_seq ?_
 refine wc_region ?_
 refine wl_val (v_move' (by conv => (lhs; whnf))) rfl ?_
 refine wl_call rfl (c_chk st.im hA (by omega)) rfl ?_
 rintro v8 w ⟨t8, rfl⟩
 have st := st.pure t8
 refine wl_val (v_assign' (by conv => (lhs; whnf))) rfl ?_
 refine wl_nil ?_
 refine then_go ?_
 refine wc_seq ?_
 refine wc_region ?_
 refine wl_val (v_move' (by conv => (lhs; whnf))) rfl ?_
 refine wl_val (v_neq rfl rfl) rfl ?_
 refine wl_val (v_move' (by conv => (lhs; whnf))) rfl ?_
 refine wl_valg rfl rfl (fun e => (v_move' (by conv => (lhs; whnf)))) rfl ?_
 refine wl_valg rfl rfl (fun e => (v_len_s Try.underlying22 (by first | rfl | exact gx e rfl))) rfl ?_
 refine wl_valg rfl rfl (fun e => (v_eql (by first | rfl | exact gx e rfl) (by first | rfl | exact gx e rfl))) rfl ?_
 refine wl_val (v_pickO rfl rfl rfl) rfl ?_
 refine wl_nil ?_
 refine then_go ?_
 refine wc_cond rfl (fun h15 => ?_) (fun h15 => ?_)
 ·refine wc_seq ?_
  refine wc_region ?_
  refine wl_val (v_move' (by conv => (lhs; whnf))) rfl ?_
  refine wl_val (v_assign' (by conv => (lhs; whnf))) rfl ?_
  refine wl_nil ?_
  refine then_go ?_
  refine wc_ret (then_ret ?_)
  have h : chkL (A.map (·.1)) ≠ 0 ∨ A.map (·.1) = [] := by
   rcases (Bool.or_eq_true _ _).mp h15 with h | h
   ·have := of_decide_eq_true h; exact .inl (by omega)
   ·have := of_decide_eq_true h; exact .inr (by rw [List.eq_nil_of_length_eq_zero (l := A) (by omega)]; rfl)
  refine ret1 (v := .int .i64 (chkL (A.map (·.1)) : Nat)) rfl ?_
  unfold applyR
  rw [if_pos h]
  exact ⟨m, wv, lv, N, S, sl, L, hmm0, rfl, hP, .refl, rfl, ok, by omega, hL, .refl, hp, st⟩
 ·refine wc_skip ?_
  refine then_go ?_
  refine wc_seq ?_
  have h2 := (Bool.or_eq_false_iff.mp h15)
  have hc0 : chkL (A.map (·.1)) = 0 := by have := of_decide_eq_false h2.1; omega
  have hok : okL (A.map (·.1)) := by
   unfold chkL at hc0
   split at hc0
   ·assumption
   ·cases hc0
  have hA0 : ¬ (chkL (A.map (·.1)) ≠ 0 ∨ A.map (·.1) = []) := by
   rintro (h | h)
   ·exact h hc0
   ·exact of_decide_eq_false h2.2 (by rw [List.map_eq_nil_iff.1 h]; rfl)
  refine wc_draw TF.mixed ?_
  have st := st.pure (touch_drew _)
  refine fl_val 0 rfl (fun _ => (v_move' (by conv => (lhs; whnf)))) rfl (by kernel_rfl) ?_
  refine fl_val 1 rfl (fun _ => (v_nil rfl)) rfl (by kernel_rfl) ?_
  refine fl_val 2 rfl (fun _ => (v_fa TF.f54_0 rfl)) rfl (by kernel_rfl) ?_
  refine fl_ld 3 rfl (v_load rfl (st.reads (v := .pointer (some ⟨g, 0, none⟩)) 3 rfl TF.t51 rfl)) (by kernel_rfl) ?_
  refine fl_val 4 rfl (fun _ => (v_move' (by conv => (lhs; whnf)))) rfl (by kernel_rfl) ?_
  refine fl_eff1 5 [2, 1, 0] [3] (by kernel_rfl) ⟨obl_ld rfl rfl rfl (v_load rfl (st.reads (v := .pointer (some ⟨g, 0, none⟩)) 3 rfl TF.t51 rfl)), trivial⟩ rfl ?_
  refine wl_call rfl (c_batch st hA (by omega) (by omega)) rfl ?_
  rintro v22 w ⟨m1, hmm1, st⟩
  obtain ⟨m2, hg2, hm2, st2⟩ := st.freezeR (i := 0) rfl (by simp)
  have hx : SlM m2 v22 1 (batB (A.map (·.1))).length (bs (batB (A.map (·.1)))) := row_SlM (m := m2) (st.at (i := 0) rfl) hm2
  have st : St m0 m2 [] w0 w (lgE g b s n sl lv wv S N (stE sb g mb L Es)) := st2
  have hmm2 : ∀ k o, m k = some o → m2 k = some o := fun k o h => hg2.le k o (hmm1 k o h)
  refine wl_nil ⟨rfl, ?_⟩
  refine fl_eff1 6 [2, 1, 0] [] (by kernel_rfl) ⟨obl_ld rfl rfl rfl (v_load rfl (st.reads (v := .pointer (some ⟨g, 0, none⟩)) 3 rfl TF.t51 rfl)), trivial⟩ rfl ?_
  refine wl_call rfl (c_lappend st ok (hP.mono hmm2) hx) rfl ?_
  rintro v23 w ⟨m3, wv3, lv3, N3, S3, sl3, hmm3, rfl, hP3, hPn3, hN3, ok3, hg3, st⟩
  have hmm3 : ∀ k o, m k = some o → m3 k = some o := fun k o h => hmm3 k o (hmm2 k o h)
  refine wl_nil ⟨rfl, ?_⟩
  refine fl_eff1 7 [] [] (by kernel_rfl) trivial rfl ?_
  refine wl_val (v_assign' (by conv => (lhs; whnf))) rfl ?_
  refine wl_nil ⟨rfl, ?_⟩
  refine fl_nil (by kernel_rfl) trivial ?_
  refine then_go ?_
  refine wc_seq ?_
  refine wc_seq ?_
  refine wc_region ?_
  refine wl_val (v_move' (by conv => (lhs; whnf))) rfl ?_
  refine wl_val (v_eql rfl rfl) rfl ?_
  refine wl_val (v_move' (by conv => (lhs; whnf))) rfl ?_
  refine wl_valg rfl rfl (fun e => (v_move' (by conv => (lhs; whnf)))) rfl ?_
  refine wl_valg rfl rfl (fun e => (v_eql (by first | rfl | exact gx e rfl) (by first | rfl | exact gx e rfl))) rfl ?_
  refine wl_val (v_pickO rfl rfl rfl) rfl ?_
  refine wl_nil ?_
  refine then_go ?_
  refine wc_mid (fun r w' => ∃ (a : Nat) (m' : Mem) (wv' lv' : Value) (N' : List (By × Value)) (S' : By) (sl' : LG), r 0 = .pointer (some ⟨sb, 0, none⟩) ∧ r 1 = .slice la A.length lc ∧ r 6 = .int .i64 a ∧ (∀ k o, m k = some o → m' k = some o) ∧ Pcs m' N' ∧ PcsN m m' N N' ∧ applyR M (N.map (·.1)) (A.map (·.1)) n = (if a = 0 then doneS M (A.map (·.1)) else M, N'.map (·.1), a) ∧ LogOk n S' sl' (N'.map (·.1)) ∧ sl'.gen.toNat ≤ sl.gen.toNat + 2 ∧ St m0 m' [] w0 w' (lgE g b s n sl' lv' wv' S' N' (stE sb g mb L Es))) ?_ ?_
  ·refine wc_cond rfl (fun h29 => ?_) (fun h29 => ?_)
   ·refine wc_region ?_
    refine wl_val (v_move' (by conv => (lhs; whnf))) rfl ?_
    refine wl_val (v_move' (by conv => (lhs; whnf))) rfl ?_
    have hne : ¬ appR (N.map (·.1)) (batB (A.map (·.1))) n = 0 := fun e => by rw [e] at h29; cases h29
    rw [if_neg hne] at hN3
    rw [hN3] at ok3
    refine wl_call rfl (c_sover st (by rw [hN3]; exact ok3) (by omega) hP3 (hL.mono hmm3) hM hp (hA.mono hmm3) hok hn hb) rfl ?_
    rintro v32 w ⟨m4, wv4, lv4, N4, S4, sl4, hmm4, rfl, hP4, hPn4, hN4, ok4, hg4, st⟩
    refine wl_val (v_assign' (by conv => (lhs; whnf))) rfl ?_
    refine wl_nil ?_
    refine then_go ?_
    refine ⟨_, m4, wv4, lv4, N4, S4, sl4, rfl, rfl, rfl, fun k o h => hmm4 k o (hmm3 k o h), hP4, PcsN.trans' (fun y hy => (hPn3 y hy).imp id fun h => h.mono hmm2 fun _ _ h => h) hPn4 hmm3 hmm4, ?_, ok4, by omega, st⟩
    unfold applyR
    rw [if_neg hA0, if_neg hne, hN4, hN3]
    unfold overN
    split
    ·rw [if_neg (by decide), if_neg (by decide)]
    ·rw [if_pos rfl, if_pos rfl]
   ·refine wc_skip ?_
    refine then_go ?_
    have h2 := (Bool.or_eq_false_iff.mp h29)
    have he : appR (N.map (·.1)) (batB (A.map (·.1))) n = 0 := (appR_or).resolve_right fun h => h.elim (fun h => of_decide_eq_false h2.2 (by rw [h]; rfl)) fun h => of_decide_eq_false h2.1 (by rw [h]; rfl)
    refine ⟨0, m3, wv3, lv3, N3, S3, sl3, rfl, rfl, by rw [← he]; rfl, hmm3, hP3, fun y hy => (hPn3 y hy).imp id fun h => h.mono hmm2 fun _ _ h => h, ?_, ok3, by omega, st⟩
    unfold applyR
    rw [if_neg hA0, if_pos he, hN3, if_pos he, if_pos rfl]
  ·clear st
   rintro r w ⟨a, m4, wv4, lv4, N4, S4, sl4, g0, g1, g6, hmm4, hP4, hPn4, hap, ok4, hg4, st⟩
   refine wc_o 0 g0 (wc_o 1 g1 (wc_o 6 g6 ?_))
   rw [hap]
   refine wc_seq ?_
   refine wc_seq ?_
   refine wc_region ?_
   refine wl_val (v_move' (by conv => (lhs; whnf))) rfl ?_
   refine wl_val (v_eql rfl rfl) rfl ?_
   refine wl_nil ?_
   refine then_go ?_
   refine wc_cond rfl (fun h34 => ?_) (fun h34 => ?_)
   ·refine wc_region ?_
    refine wl_val (v_move' (by conv => (lhs; whnf))) rfl ?_
    refine wl_val (v_nil rfl) rfl ?_
    refine wl_val (v_fa TF.f54_1 rfl) rfl ?_
    refine wl_val (v_load rfl (st.reads (v := .map (some mb)) 3 rfl TF.t52 rfl)) rfl ?_
    refine wl_val (v_move' (by conv => (lhs; whnf))) rfl ?_
    have st := st.perm (List.perm_middle (l₁ := [_, _, _, _]))
    refine wl_call rfl (c_done st (hA.mono hmm4) (fun a ha => hok.2.1 _ (List.mem_map.2 ⟨a, ha, rfl⟩)) (hL.mono hmm4) (by omega)) rfl ?_
    rintro v40 w ⟨m5, L5, hmm5, hL5, hN5, hK5, st⟩
    have st : St m0 m5 [] w0 w (lgE g b s n sl4 lv4 wv4 S4 N4 (stE sb g mb L5 Es)) := st.perm (List.perm_middle (l₁ := [_, _, _, _])).symm
    refine wl_nil ?_
    refine then_go ?_
    refine wc_seq ?_
    refine wc_region ?_
    refine wl_val (v_move' (by conv => (lhs; whnf))) rfl ?_
    refine wl_val (v_assign' (by conv => (lhs; whnf))) rfl ?_
    refine wl_nil ?_
    refine then_go ?_
    refine wc_ret ?_
    have ha : a = 0 := by have := of_decide_eq_true h34; omega
    refine ret1 (v := .int .i64 (a : Nat)) rfl ?_
    refine ⟨m5, wv4, lv4, N4, S4, sl4, L5, fun k o h => hmm5 k o (hmm4 k o h), rfl, hP4.mono hmm5, fun y hy => (hPn4 y hy).imp id fun h => h.mono (fun _ _ h => h) hmm5, rfl, ok4, hg4, hL5, fun y hy => (hN5 y hy).imp id fun h => h.mono hmm4 fun _ _ h => h, ?_, st⟩
    rw [if_pos ha, hK5]
    exact doneS_perm hp hnd
   ·refine wc_skip ?_
    refine then_go ?_
    refine wc_seq ?_
    refine wc_region ?_
    refine wl_val (v_move' (by conv => (lhs; whnf))) rfl ?_
    refine wl_val (v_assign' (by conv => (lhs; whnf))) rfl ?_
    refine wl_nil ?_
    refine then_go ?_
    refine wc_ret ?_
    have ha : ¬ a = 0 := by have := of_decide_eq_false h34; omega
    refine ret1 (v := .int .i64 (a : Nat)) rfl ?_
    refine ⟨m4, wv4, lv4, N4, S4, sl4, L, hmm4, rfl, hP4, hPn4, rfl, ok4, hg4, hL.mono hmm4, .refl, ?_, st⟩
    rw [if_neg ha]
    exact hp
end
end Go.Proofs.Ytladpaehbolghaa

namespace Go.Proofs.Ytladpaehbolghaa
open Go Go.RowKit K SH GC JR OS
open DK hiding By
namespace OS
theorem KvOk.take {m : Mem} {E : List (By × DV)} (h : KvOk m E) (i : Nat) : KvOk m (E.take i) := fun x hx => h x (List.mem_of_mem_take hx)
theorem KvOk.drop {m : Mem} {E : List (By × DV)} (h : KvOk m E) (i : Nat) : KvOk m (E.drop i) := fun x hx => h x (List.mem_of_mem_drop hx)
end OS
section
variable {m0 m : Mem} {wI w0 w : World} {Es : List Ent}
abbrev rwE {α : Type} (T : TypeId) (f : α → Value) (v : Value) (L : List α) : Ent := rowE v T 1 L.length (L.map f)
abbrev ksE (v : Value) (E : List (By × DV)) : Ent := rwE 9 (fun x => .string (strB x.1)) v E
abbrev vsE (v : Value) (E : List (By × DV)) : Ent := rwE 31 (fun x => x.2.2) v E
section
variable {α : Type} {P : Program} {n : Nat} {ops : Array Oper} {Q : Po} {rest : List Oper} {r : Fr} {d : Nat} {ty : TypeId} {pos : String} {after : Array Edge} {F : List Nat}
theorem wl_rwApp (f : α → Value) (i : Nat) {T E bytes : Nat} {z v x : Value} {s y : Operand} {A B : List α} (st : St m0 m F w0 w Es) (hi : Es[i]? = some (rwE E f v A)) (hT : P.underlying T = some (.slice E)) (tf : TyF P E false 1 bytes) (hz : TyZ P E z) (hzs : z.cells.size = 1)
  (hs : ev r s = v) (hy : ev r y = x) (src : Src P w x 1 B.length (B.map f)) (hb : (A.length + B.length) * bytes ≤ 140737488355328) (h63 : A.length + B.length ≤ 9223372036854775807) (hd : Nat.blt d n = true)
  (k : ∀ v' w', St m0 m F w0 w' (Es.set i (rwE E f v' (A ++ B))) → v'.oneCell' = true → WL P n ops Q rest (upd d v' r) w') :
  WL P n ops Q (⟨some d, .call ⟨.builtin .append, #[s, y], #[T, T]⟩, ty, pos, after, none⟩ :: rest) r w := by
 refine wl_append (news := B.map f) i st hi hT hT (.inr ⟨_, rfl⟩) tf hz hzs hs hy src h63 hb hd ?_
 intro v' w' _ st'
 have st2 := st'
 have e1 : A.map f ++ B.map f = (A ++ B).map f := by simp
 have e2 : A.length + B.length = (A ++ B).length := by simp
 rw [e1, e2] at st2
 have hlt : i < Es.length := by
  rcases Nat.lt_or_ge i Es.length with h | h
  ·exact h
  ·rw [List.getElem?_eq_none h] at hi; cases hi
 have hrow : (rwE E f v' (A ++ B)).holds w' := st2.at (i := i) (List.getElem?_set_self hlt)
 exact k v' w' st2 (row_one hrow)
theorem wl_rwPut (f : α → Value) (i : Nat) {T E bytes b cap : Nat} {z v : Value} {s y : Operand} {A : List α} {e : α} (st : St m0 m F w0 w (K.blk b #[f e] E :: Es)) (hi : Es[i]? = some (rwE E f v A)) (hT : P.underlying T = some (.slice E)) (tf : TyF P E false 1 bytes) (hz : TyZ P E z) (hzs : z.cells.size = 1) (ho : (f e).oneCell' = true)
  (hs : ev r s = v) (hy : ev r y = .slice (some ⟨b, 0, none⟩) 1 cap) (hb : (A.length + 1) * bytes ≤ 140737488355328) (h63 : A.length + 1 ≤ 9223372036854775807) (hd : Nat.blt d n = true)
  (k : ∀ v' w', St m0 m F w0 w' (Es.set i (rwE E f v' (A ++ [e]))) → v'.oneCell' = true → WL P n ops Q rest (upd d v' r) w') :
  WL P n ops Q (⟨some d, .call ⟨.builtin .append, #[s, y], #[T, T]⟩, ty, pos, after, none⟩ :: rest) r w := by
 refine wl_rwApp f (i + 1) (B := [e]) st hi hT tf hz hzs hs hy (st.srcArr (off := 0) 0 rfl rfl (fun j u hj => by simpa using hj) (fun u hu => by rw [List.mem_singleton.1 hu]; exact ho)) hb h63 hd ?_
 intro v' w' st' h1
 exact k v' w' (st'.drop 0) h1
theorem wl_rwOne {T E : TypeId} {bytes : Nat} {z v : Value} {x : Operand} (hT : P.underlying T = some (.slice E)) (tf : TyF P E false 1 bytes) (hz : TyZ P E z) (hzs : z.cells.size = 1) (ho : v.oneCell' = true) (hx : ev r x = v) (st : St m0 m F w0 w Es) (hd : Nat.blt d n = true)
  (k : ∀ b w', St m0 m F w0 w' (K.blk b #[v] E :: Es) → WL P n ops Q rest (upd d (.slice (some ⟨b, 0, none⟩) 1 1) r) w') :
  WL P n ops Q (⟨some d, .buildSlice T 1 #[(0, x)], ty, pos, after, none⟩ :: rest) r w := by
 refine wl_buildSlice (c' := #[v]) [(0, v)] hT tf hz (by decide) (by decide) (by simp [hx]) ⟨0, 1, rfl, by rw [cells_one ho]; rfl, by simp [size_madeCells, hzs], ?_⟩ st hd k
 rw [cells_one ho]
 exact setSeg_all (by simp [size_madeCells, hzs])
end
end
end Go.Proofs.Ytladpaehbolghaa

namespace Go.Proofs.Ytladpaehbolghaa
open Go Go.RowKit K SH GC JR OS
open DK hiding By
section
variable {m0 m : Mem} {w0 w : World} {Es : List Ent}
theorem c_sget {sb mb g b s n : Nat} {sl : LG} {lv wv : Value} {S k : By} {N : List (By × Value)} {L : List (By × DV)} {M : Kys}
    (st : St m0 m [] w0 w (lgE g b s n sl lv wv S N (stE sb g mb L Es))) (hL : KvOk m L) (hM : Risen M) (hp : M.Perm (kvs L)) (hk : k.length ≤ 9223372036854775807) :
    Ret Try.prog 10 #[.pointer (some ⟨sb, 0, none⟩), .string (strB k)] w fun v w' => ∃ u, v = .tuple #[u, .bool (getKV k M).isSome] ∧ St m0 m [] w0 w' (byE u ((getKV k M).getD []) :: lgE g b s n sl lv wv S N (stE sb g mb L Es)) := by
  have hnd : ((kvs L).map (·.1)).Nodup := (hp.map (·.1)).nodup hM.nodup
  have hget : getKV k M = (getKV k L).map (·.1) := by
    rw [← kvs_get]
    refine Option.ext fun d => ?_
    rw [← mem_getKV hM.nodup, ← mem_getKV hnd]
    exact hp.mem_iff
  rw [hget]
  have hv : SlM m (((getKV k L).map (fun x : DV => x.2)).getD (.slice none 0 0)) 1 (((getKV k L).map (·.1)).getD []).length (bs (((getKV k L).map (·.1)).getD [])) ∧ (((getKV k L).map (·.1)).getD []).length ≤ 1048576 := by
    have hnL : (L.map (·.1)).Nodup := by have : (kvs L).map (·.1) = L.map (·.1) := by unfold kvs; rw [List.map_map]; rfl
                                         rw [← this]; exact hnd
    rcases h : getKV k L with _ | x
    · exact ⟨SlM.nil, by simp⟩
    · have := hL _ ((mem_getKV hnL).2 h)
      exact ⟨this.2.2, this.2.1⟩
  have hsome : (getKV k L).isSome = ((getKV k L).map (·.1)).isSome := by cases getKV k L <;> rfl
  refine ret_of Try.call10 Try.func10 rfl Try.ntmps10 Try.results10 rfl ?_
  refine wc_seq ?_
  refine wc_region ?_
  refine wl_val (v_assign' (by conv => (lhs; whnf))) rfl ?_
  refine wl_val (v_assign' (by conv => (lhs; whnf))) rfl ?_
  refine wl_nil ?_
  refine then_go ?_
  refine wc_seq ?_
  refine wc_region ?_
  refine wl_val (v_move' (by conv => (lhs; whnf))) rfl ?_
  refine wl_val (v_nil rfl) rfl ?_
  refine wl_val (v_fa TF.f54_1 rfl) rfl ?_
  refine wl_val (v_load rfl (st.reads (v := .map (some mb)) 3 rfl TF.t52 rfl)) rfl ?_
  refine wl_val (v_move' (by conv => (lhs; whnf))) rfl ?_
  refine wl_val (v_mapGetO 4 st rfl kt_str Try.underlying52 TF.z31 hL.keys hk rfl rfl true) rfl ?_
  refine wl_val (v_move' (by conv => (lhs; whnf))) rfl ?_
  refine wl_val (v_extract rfl rfl) rfl ?_
  refine wl_val (v_extract rfl rfl) rfl ?_
  refine wl_val (v_assign' (by conv => (lhs; whnf))) rfl ?_
  refine wl_val (v_assign' (by conv => (lhs; whnf))) rfl ?_
  refine wl_nil ?_
  refine then_go ?_
  refine wc_seq ?_
  refine wc_region ?_
  refine wl_val (v_move' (by conv => (lhs; whnf))) rfl ?_
  refine wl_call rfl (c_bcloneR st hv.1 (by have := hv.2; omega)) rfl ?_
  intro v18 w st
  refine wl_val (v_move' (by conv => (lhs; whnf))) rfl ?_
  refine wl_val (v_assign' (by conv => (lhs; whnf))) rfl ?_
  refine wl_val (v_assign' (by conv => (lhs; whnf))) rfl ?_
  refine wl_nil ?_
  refine then_go ?_
  refine wc_ret ?_
  exact ret2 (v := v18) (v' := .bool (getKV k L).isSome) rfl rfl ⟨v18, by rw [hsome], st⟩
theorem c_slen {sb mb g b s n : Nat} {sl : LG} {lv wv : Value} {S : By} {N : List (By × Value)} {L : List (By × DV)}
  (st : St m0 m [] w0 w (lgE g b s n sl lv wv S N (stE sb g mb L Es))) :
  Ret Try.prog 15 #[.pointer (some ⟨sb, 0, none⟩)] w fun v w' => Tch w w' [] [] ∧ v = .int .i64 L.length := by
 refine ret_of Try.call15 Try.func15 rfl Try.ntmps15 Try.results15 rfl ?_
 refine wc_seq ?_
 refine wc_region ?_
 refine wl_val (v_assign' (by conv => (lhs; whnf))) rfl ?_
 refine wl_nil ?_
 refine then_go ?_
 refine wc_seq ?_
 refine wc_region ?_
 refine wl_val (v_move' (by conv => (lhs; whnf))) rfl ?_
 refine wl_val (v_nil rfl) rfl ?_
 refine wl_val (v_fa TF.f54_1 rfl) rfl ?_
 refine wl_val (v_load rfl (st.reads (v := .map (some mb)) 3 rfl TF.t52 rfl)) rfl ?_
 refine wl_val (v_mapLen 4 st rfl Try.underlying52 rfl) rfl ?_
 refine wl_val (v_assign' (by conv => (lhs; whnf))) rfl ?_
 refine wl_nil ?_
 refine then_go ?_
 refine wc_ret ?_
 exact ret1 rfl ⟨Tch.refl _ _, rfl⟩
theorem c_sall {sb mb g b s n : Nat} {sl : LG} {lv wv : Value} {S : By} {N : List (By × Value)} {L : List (By × DV)} {M : Kys}
  (st : St m0 m [] w0 w (lgE g b s n sl lv wv S N (stE sb g mb L Es))) (hL : KvOk m L) (hM : Risen M) (hp : M.Perm (kvs L)) (hl : L.length ≤ 1000000) :
  Ret Try.prog 20 #[.pointer (some ⟨sb, 0, none⟩)] w fun v w' => ∃ b3 m' av A, v = .func (.func 36) #[] #[.pointer (some ⟨b3, 0, none⟩)] ∧ (∀ k o, m k = some o → m' k = some o) ∧ AcsM m' av A ∧ A.map (·.1) = actsOf M ∧ m' b3 = some (.cells #[av] 22 (0, 0)) ∧ St m0 m' [] w0 w' (lgE g b s n sl lv wv S N (stE sb g mb L Es)) := by
 refine ret_of Try.call20 Try.func20 rfl Try.ntmps20 Try.results20 rfl ?_
 refine wc_seq ?_
 refine wc_region ?_
 refine wl_val (v_assign' (by conv => (lhs; whnf))) rfl ?_
 refine wl_nil ?_
 refine then_go ?_
 refine wc_seq ?_
 refine wc_region ?_
 refine wl_val (v_move' (by conv => (lhs; whnf))) rfl ?_
 refine wl_val (v_nil rfl) rfl ?_
 refine wl_val (v_fa TF.f54_1 rfl) rfl ?_
 refine wl_val (v_load rfl (st.reads (v := .map (some mb)) 3 rfl TF.t52 rfl)) rfl ?_
 have st := st.perm (List.perm_middle (l₁ := [_, _, _, _]))
 refine wl_call rfl (c_swhole st hL hl) rfl ?_
 rintro v8 w ⟨A, hp1, hrs, st⟩
 have hAM : A.map (·.1) = actsOf M := whole_one hp1 hrs hM hp
 have hao : ∀ a ∈ A, AcOk m a.1 a.2 := fun a ha => by
  obtain ⟨z, hz, rfl⟩ := List.mem_map.1 (hp1.mem_iff.1 ha)
  obtain ⟨h1, h2, h3⟩ := hL z hz
  exact ⟨by show z.1.length ≤ _; omega, h3⟩
 obtain ⟨m1, hg1, hls, st⟩ := st.keepLs (i := 0) rfl (fun _ _ => rfl)
 have hA : AcsM m1 v8 A := ⟨hls, fun a ha => (hao a ha).mono hg1.le⟩
 obtain ⟨aa, ac, rfl⟩ := hA.1.sl
 refine wl_alloc TF.z22 st rfl ?_
 intro b3 w st
 refine wl_store1 (v := .slice aa A.length ac) 0 st rfl TF.t22 rfl rfl rfl (lt_ok rfl) ?_
 intro w st
 obtain ⟨m2, hg2, hm2, st⟩ := st.freeze (i := 0) rfl (by simp)
 have st : St m0 m2 [] w0 w (lgE g b s n sl lv wv S N (stE sb g mb L Es)) := st.perm (List.perm_middle (l₁ := [_, _, _, _])).symm
 refine wl_nil ?_
 refine then_go ?_
 refine wc_seq ?_
 refine wc_region ?_
 refine wl_val (v_mkfunc rfl rfl) rfl ?_
 refine wl_val (v_assign' (by conv => (lhs; whnf))) rfl ?_
 refine wl_nil ?_
 refine then_go ?_
 refine wc_ret ?_
 exact ret1 rfl ⟨b3, m2, _, A, rfl, fun k o h => hg2.le k o (hg1.le k o h), hA.mono hg2.le, hAM, hm2, st⟩
theorem c_sall1 {mA : Mem} {W : World} {l b1 : Nat} {av : Value} {A : List AcT} (J : Nat → World → Prop) (Jx : World → Prop) (him : ∀ i W, J i W → Im mA W)
  (hy : ∀ i W W2 u (hi : i < A.length), J i W → St (heapM W) (heapM W) [] W W2 [byE u A[i].1.data] → YieldR Try.prog l [.string (strB A[i].1.key), u] W2 fun v W' => (v = .bool true ∧ J (i + 1) W') ∨ (v = .bool false ∧ Jx W'))
  (hA : AcsM mA av A) (hAl : A.length ≤ 1000000) (hAd : ∀ a ∈ A, a.1.data.length ≤ 1048576) (hJ : J 0 W) (hrd : Reads Try.prog W 22 ⟨b1, 0, none⟩ av) :
  Ret Try.prog 36 #[.func (.yield l) #[] #[], .pointer (some ⟨b1, 0, none⟩)] W fun _ W' => J A.length W' ∨ Jx W' := by
 obtain ⟨la, lc, rfl⟩ := hA.1.sl
 refine ret_of Try.call36 Try.func36 rfl Try.ntmps36 Try.results36 rfl ?_
 refine wc_seq ?_
 refine wc_region ?_
 refine wl_val (v_load rfl hrd) rfl ?_
 refine wl_val (v_len_s Try.underlying22 rfl) rfl ?_
 refine wl_val (v_move' (by conv => (lhs; whnf))) rfl ?_
 refine wl_nil ?_
 refine then_go ?_
 refine wc_block ?_
 refine wc_loop (S := Nat) (fun q r w' => ∃ i, q + i = A.length ∧ r 0 = .func (.yield l) #[] #[] ∧ r 5 = .slice la A.length lc ∧ r 6 = .int .i64 A.length ∧ r 7 = .int .i64 i ∧ J i w') id A.length ⟨0, by omega, rfl, rfl, rfl, rfl, hJ⟩ ?_
 rintro q r w ⟨i, hqi, g0, g5, g6, g7, hJ⟩
 refine wc_o 0 g0 (wc_o 5 g5 (wc_o 6 g6 (wc_o 7 g7 ?_)))
 refine wc_seq ?_
 refine wc_region ?_
 refine wl_val (v_lss rfl rfl) rfl ?_
 refine wl_nil ?_
 refine then_go ?_
 refine wc_seq ?_
 refine wc_if rfl (fun h8 => ?_) (fun h8 => ?_)
 ·refine wc_skip ?_
  refine then_go ?_
  refine wc_seq ?_
  refine wc_block ?_
  refine wc_seq ?_
  have hi : i < A.length := by omega
  have st := St.start (im_heapM w)
  obtain ⟨lb, lo, da, dc, hla, hd, hrL, _⟩ := hA.at hi
  subst hla
  have hok : AcOk mA A[i].1 A[i].2 := hA.2 _ (List.getElem_mem hi)
  have hdl := hAd _ (List.getElem_mem hi)
  have hyy := fun W2 u => hy i w W2 u hi
  obtain ⟨x, hx⟩ : ∃ x, x = A[i].1 := ⟨_, rfl⟩
  rw [← hx] at hd hok hdl hyy
  rw [hd] at hok
  have hrX : ∀ {w' : World}, Im mA w' → Reads Try.prog w' 33 ⟨lb, lo + i * 3, none⟩ (.agg (acC x (.slice da x.data.length dc)).toArray) := by rw [← hd, hx]; exact hrL
  have hdm : SlM (heapM w) (.slice da x.data.length dc) 1 x.data.length (bs x.data) := hok.data.mono (him i w hJ)
  refine wc_region ?_
  refine wl_val (v_ias i Try.underlying22 TF.t33 rfl rfl (by first | rfl | omega) (by first | omega | (dsimp only at *; omega))) rfl ?_
  refine wl_val (v_load rfl (hrX (him i _ hJ))) rfl ?_
  refine wl_alloc TF.z33 st rfl ?_
  intro b4 w st
  refine wl_storeW (cs := (acC x (.slice da x.data.length dc)).toArray) 0 st rfl TF.t33 rfl rfl (by exact Ac.len hok) rfl (by exact Ac.one hok) ?_
  intro w3 st
  refine wl_nil ?_
  refine then_go ?_
  refine wc_seq ?_
  refine wc_drawI TF.mixed ?_
  have st := st.pure (touch_drew _)
  refine fli_val 0 rfl (fun _ => (v_move' (by conv => (lhs; whnf)))) rfl (by kernel_rfl) ?_
  refine fli_val 1 rfl (fun _ => (v_fa TF.f33_0 rfl)) rfl (by kernel_rfl) ?_
  refine fli_ld 2 rfl (v_load rfl (by first | exact st.reads (v := .string (strB x.key)) 0 rfl TF.t9 (Ac.g0_1 hok) | exact st.reads (v := .string (strB x.key)) 1 rfl TF.t9 (Ac.g0_1 hok))) (by kernel_rfl) ?_
  refine fli_val 3 rfl (fun _ => (v_fa TF.f33_2 rfl)) rfl (by kernel_rfl) ?_
  refine fli_ld 4 rfl (v_load rfl (st.reads (v := .slice da x.data.length dc) 0 rfl TF.t31 (Ac.g2_1 hok))) (by kernel_rfl) ?_
  refine fli_eff1 5 [3, 1, 0] [2] (by kernel_rfl) ⟨obl_ld rfl rfl rfl (v_load rfl (st.reads (v := .slice da x.data.length dc) 0 rfl TF.t31 (Ac.g2_1 hok))), obl_ld rfl rfl rfl (v_load rfl (by first | exact st.reads (v := .string (strB x.key)) 0 rfl TF.t9 (Ac.g0_1 hok) | exact st.reads (v := .string (strB x.key)) 1 rfl TF.t9 (Ac.g0_1 hok))), trivial⟩ rfl ?_
  refine wli_call rfl (c_bcloneR st hdm (by omega)) rfl ?_
  intro v16 w4 st
  refine wli_nil ⟨rfl, ?_⟩
  refine fli_eff1 6 [3, 1] [] (by kernel_rfl) ⟨obl_ld rfl rfl rfl (v_load rfl (by first | exact st.reads (v := .string (strB x.key)) 0 rfl TF.t9 (Ac.g0_1 hok) | exact st.reads (v := .string (strB x.key)) 1 rfl TF.t9 (Ac.g0_1 hok))), trivial⟩ rfl ?_
  refine wli_yield rfl rfl (hyy w4 v16 hJ (st.drop 1)) rfl ?_
  intro v17 w5 hR
  obtain ⟨bb, rfl, hR2⟩ : ∃ bb : Bool, v17 = .bool bb ∧ ((bb = true ∧ J (i + 1) w5) ∨ (bb = false ∧ Jx w5)) := by
   rcases hR with ⟨rfl, h⟩ | ⟨rfl, h⟩
   ·exact ⟨true, rfl, .inl ⟨rfl, h⟩⟩
   ·exact ⟨false, rfl, .inr ⟨rfl, h⟩⟩
  refine wli_nil ⟨rfl, ?_⟩
  refine fli_val 7 rfl (fun _ => (v_not rfl)) rfl (by kernel_rfl) ?_
  refine fli_nil (by kernel_rfl) trivial ?_
  refine then_go ?_
  refine wc_cond rfl (fun h18 => ?_) (fun h18 => ?_)
  ·refine wc_ret (block_ret (then_ret (then_ret (block_ret ?_))))
   refine ret0 ?_
   rcases hR2 with ⟨rfl, h⟩ | ⟨rfl, h⟩
   ·cases h18
   ·exact .inr h
  ·refine wc_skip ?_
   refine block_go (then_go ?_)
   refine wc_region ?_
   refine wl_val (v_add' (c := ((i + 1 : Nat) : Int)) rfl rfl (by omega) (by omega) (by omega)) rfl ?_
   refine wl_val (v_move' (by conv => (lhs; whnf))) rfl ?_
   refine wl_nil ?_
   refine then_go ?_
   rcases hR2 with ⟨rfl, h⟩ | ⟨rfl, h⟩
   ·exact ⟨q - 1, by simp; omega, i + 1, by omega, rfl, rfl, rfl, rfl, h⟩
   ·cases h18
 ·refine wc_exit (then_exit (then_exit (block_hit ?_)))
  refine end0 ?_
  have hiA : i = A.length := by omega
  subst hiA
  exact .inl hJ
end
end Go.Proofs.Ytladpaehbolghaa

namespace Go.Proofs.Ytladpaehbolghaa
open Go Go.RowKit K SH GC JR
end Go.Proofs.Ytladpaehbolghaa

namespace Go.Proofs.Ytladpaehbolghaa
open Go Go.RowKit K SH GC JR
end Go.Proofs.Ytladpaehbolghaa

namespace Go.Proofs.Ytladpaehbolghaa
open Go Go.RowKit K SH GC JR OS
def BatOut (m : Mem) (v : Value) : Option (List Ac) → Prop
 | none => v = .tuple #[.slice none 0 0, .int .i64 (3 : Nat)]
 | some M => ∃ lv L, v = .tuple #[lv, .int .i64 (0 : Nat)] ∧ AcsM m lv L ∧ L.map (·.1) = M
section
open OS
variable {m0 m : Mem} {w0 w : World} {Es : List Ent}
theorem c_readB {bv : Value} {b : List UInt8} (st : St m0 m [] w0 w Es) (hb : SlM m bv 1 b.length (bs b)) (hl : b.length ≤ 1099511627776) :
  Ret Try.prog 26 #[bv] w fun v w' => ∃ m', (∀ k o, m k = some o → m' k = some o) ∧ BatOut m' v (batR b) ∧ St m0 m' [] w0 w' Es := by
 refine ret_of Try.call26 Try.func26 rfl Try.ntmps26 Try.results26 rfl ?_
 refine wc_seq ?_
 refine wc_region ?_
 refine wl_val (v_assign' (by conv => (lhs; whnf))) rfl ?_
 refine wl_val (v_assign' (by conv => (lhs; whnf))) rfl ?_
 refine wl_nil ?_
 refine then_go ?_
 refine wc_seq ?_
 refine wc_region ?_
 refine wl_alloc TF.z22 st rfl ?_
 intro b4 w st
 refine wl_nil ?_
 refine then_go ?_
 refine wc_seq ?_
 refine wc_region ?_
 refine wl_val (v_move' (by conv => (lhs; whnf))) rfl ?_
 refine wl_val (v_mkfunc rfl rfl) rfl ?_
 have st : St m0 m [] w0 w (gaE b4 (.slice none 0 0) :: Es) := st
 refine wl_call rfl (c_cread (cap := [.pointer (some ⟨b4, 0, none⟩)]) st hb fun rb eb w1 st1 => c_readB1 st1 hb hl) rfl ?_
 intro v8 w h8
 refine wl_val (v_assign' (by conv => (lhs; whnf))) rfl ?_
 refine wl_nil ?_
 refine then_go ?_
 refine wc_seq ?_
 refine wc_seq ?_
 rcases h8 with ⟨m2, j, Es2, ⟨lv, L, n, r, hmm, rfl, hj, hLo, hc, ha, hok⟩, rfl, st⟩ | ⟨m2, Es2, ⟨hn, hmm, rfl⟩, rfl, st⟩
 ·have hbat : batR b = if j = b.length then some (L.map (·.1)) else none := by
   unfold batR
   rw [hc]
   simp only [ha]
   by_cases hjl : j = b.length
   ·rw [if_pos hjl, if_pos ⟨by rw [hjl]; simp, hok⟩]
   ·rw [if_neg hjl, if_neg (fun h => by have := congrArg List.length h.1; rw [List.length_drop, List.length_nil] at this; omega)]
  refine wc_region ?_
  refine wl_val (v_move' (by conv => (lhs; whnf))) rfl ?_
  refine wl_val (wl_valD (v_neq rfl rfl) (q := decide (¬ j = b.length)) (by by_cases h : j = b.length <;> simp [h])) rfl ?_
  refine wl_nil ?_
  refine then_go ?_
  refine wc_cond rfl (fun h10 => ?_) (fun h10 => ?_)
  ·refine wc_seq ?_
   refine wc_region ?_
   refine wl_val (v_move' (by conv => (lhs; whnf))) rfl ?_
   refine wl_val (v_assign' (by conv => (lhs; whnf))) rfl ?_
   refine wl_val (v_assign' (by conv => (lhs; whnf))) rfl ?_
   refine wl_nil ?_
   refine then_go ?_
   refine wc_ret (then_ret ?_)
   have hjl : ¬ j = b.length := of_decide_eq_true h10
   rw [hbat, if_neg hjl]
   rw [if_neg hjl]
   exact ret2 rfl rfl ⟨m2, hmm, rfl, (st.drop 0).drop 0⟩
  ·refine wc_skip ?_
   refine then_go ?_
   refine wc_seq ?_
   refine wc_region ?_
   refine wl_val (v_load rfl (st.reads (v := lv) 0 rfl TF.t22 rfl)) rfl ?_
   refine wl_val (v_assign' (by conv => (lhs; whnf))) rfl ?_
   refine wl_val (v_assign' (by conv => (lhs; whnf))) rfl ?_
   refine wl_nil ?_
   refine then_go ?_
   refine wc_ret ?_
   have hjl : j = b.length := Decidable.not_not.1 (of_decide_eq_false h10)
   rw [hbat, if_pos hjl]
   obtain ⟨m3, hg3, hls, st⟩ := st.keepLs (i := 1) rfl (fun x _ => rfl)
   exact ret2 rfl rfl ⟨m3, fun k o h => hg3.le k o (hmm k o h), ⟨lv, L, rfl, ⟨hls, fun p hp => (hLo p hp).mono hg3.le⟩, rfl⟩, st.drop 0⟩
 ·refine wc_region ?_
  refine wl_val (v_move' (by conv => (lhs; whnf))) rfl ?_
  refine wl_val (wl_valD (v_neq rfl rfl) (q := true) rfl) rfl ?_
  refine wl_nil ?_
  refine then_go ?_
  refine wc_true rfl ?_
  refine wc_seq ?_
  refine wc_region ?_
  refine wl_val (v_move' (by conv => (lhs; whnf))) rfl ?_
  refine wl_val (v_assign' (by conv => (lhs; whnf))) rfl ?_
  refine wl_val (v_assign' (by conv => (lhs; whnf))) rfl ?_
  refine wl_nil ?_
  refine then_go ?_
  refine wc_ret (then_ret ?_)
  rw [hn]
  exact ret2 rfl rfl ⟨m2, hmm, rfl, st⟩
end
end Go.Proofs.Ytladpaehbolghaa

namespace Go.Proofs.Ytladpaehbolghaa
open Go Go.RowKit K SH GC JR OS
open DK hiding By
namespace OS
def ofR : Kys → List By → Option Kys
 | M, [] => some M
 | M, x :: R => match batR x with
  | none => none
  | some A => ofR (doneS M A) R
end OS
section
variable {m0 m : Mem} {w0 w : World} {Es : List Ent}
abbrev lgD (g b s n : Nat) (sl : LG) (lv wv : Value) (d : DS) (N : List (By × Value)) (Es : List Ent) : List Ent := logB g b sl lv :: lrE lv N :: diskO b s n wv d :: Es
def SoOutD (m0 m : Mem) (w0 w' : World) (Es : List Ent) (b s n : Nat) (d' : DS) (sl' : LG) (R : List By) (v : Value) : Option Kys → Prop
 | none => v = .tuple #[.pointer none, .int .i64 3] ∧ ∃ m' wv', (∀ k o, m k = some o → m' k = some o) ∧ St m0 m' [] w0 w' (diskO b s n wv' d' :: Es)
 | some M => ∃ g sb mb m' wv' lv' N' L', v = .tuple #[.pointer (some ⟨sb, 0, none⟩), .int .i64 0] ∧ (∀ k o, m k = some o → m' k = some o) ∧ Pcs m' N' ∧ N'.map (·.1) = R ∧ Risen M ∧ KvOk m' L' ∧ M.Perm (kvs L') ∧ St m0 m' [] w0 w' (lgD g b s n sl' lv' wv' d' N' (stE sb g mb L' Es))
theorem c_sopenD {b s n : Nat} {wv : Value} {S : By} {d' : DS} {sl' : LG} {R : List By} (st : St m0 m [] w0 w (diskO b s n wv (calm S) :: Es)) (hl : S.length = 64 * n) (hn : 8 ≤ n) (hn2 : n ≤ 16384) (hO : openD n S = (d', sl', R, 0)) (hRl : ∀ x ∈ R, x.length ≤ 1048576) (hRn : R.length ≤ 1048576) :
  Ret Try.prog 14 #[.pointer (some ⟨b, 0, none⟩)] w fun v w' => SoOutD m0 m w0 w' Es b s n d' sl' R v (ofR [] R) := by
 refine ret_of Try.call14 Try.func14 rfl Try.ntmps14 Try.results14 rfl ?_
 refine wc_seq ?_
 refine wc_region ?_
 refine wl_val (v_assign' (by conv => (lhs; whnf))) rfl ?_
 refine wl_val (v_assign' (by conv => (lhs; whnf))) rfl ?_
 refine wl_nil ?_
 refine then_go ?_
 refine wc_seq ?_
 refine wc_region ?_
 refine wl_val (v_move' (by conv => (lhs; whnf))) rfl ?_
 refine wl_call rfl (c_open st hl hn hn2 (by rw [hO])) rfl ?_
 rintro v13 w ⟨m1, wv1, g, lv1, N1, hmm1, rfl, hP1, hN1, st⟩
 rw [hO] at st hN1 ⊢
 have hN1 : N1.map (·.1) = R := hN1
 have st : St m0 m1 [] w0 w (logB g b sl' lv1 :: lrE lv1 N1 :: diskO b s n wv1 d' :: Es) := st
 have hNl : ∀ x ∈ N1, x.1.length ≤ 1048576 := fun x hx => hRl x.1 (by rw [← hN1]; exact List.mem_map.2 ⟨x, hx, rfl⟩)
 have hNn : N1.length ≤ 1048576 := by
  have h3 : R.length = N1.length := by rw [← hN1, List.length_map]
  omega
 refine wl_val (v_move' (by conv => (lhs; whnf))) rfl ?_
 refine wl_val (v_extract rfl rfl) rfl ?_
 refine wl_val (v_extract rfl rfl) rfl ?_
 refine wl_val (v_assign' (by conv => (lhs; whnf))) rfl ?_
 refine wl_val (v_assign' (by conv => (lhs; whnf))) rfl ?_
 refine wl_nil ?_
 refine then_go ?_
 refine wc_seq ?_
 refine wc_seq ?_
 refine wc_region ?_
 refine wl_val (v_move' (by conv => (lhs; whnf))) rfl ?_
 refine wl_val (v_neq rfl rfl) rfl ?_
 refine wl_nil ?_
 refine then_go ?_
 refine wc_false rfl ?_
 refine wc_skip ?_
 refine then_go ?_
 refine wc_seq ?_
 refine wc_region ?_
 refine wl_val (v_move' (by conv => (lhs; whnf))) rfl ?_
 refine wl_makeMap strV (fun x : DV => x.2) st rfl ?_
 intro mb w _ st
 refine wl_val (v_build (c' := #[.pointer (some ⟨g, 0, none⟩), .map (some mb)]) [(0, .pointer (some ⟨g, 0, none⟩)), (1, .map (some mb))] TF.z54 TF.p54 rfl (fill_one [] [.pointer none] [.map none] rfl rfl rfl (fill_one [.pointer (some ⟨g, 0, none⟩)] [.map none] [] rfl rfl rfl rfl))) rfl ?_
 refine wl_box (v := .agg #[.pointer (some ⟨g, 0, none⟩), .map (some mb)]) rfl st rfl ?_
 intro sb w st
 have st : St m0 m1 [] w0 w (K.blk sb #[.pointer (some ⟨g, 0, none⟩), .map (some mb)] 54 :: kmE mb [] :: logB g b sl' lv1 :: lrE lv1 N1 :: diskO b s n wv1 d' :: Es) := st
 have st : St m0 m1 [] w0 w (lgD g b s n sl' lv1 wv1 d' N1 (stE sb g mb [] Es)) := st.perm ((List.perm_append_comm (l₁ := [_, _]) (l₂ := [_, _, _])).append_right Es)
 refine wl_val (v_assign' (by conv => (lhs; whnf))) rfl ?_
 refine wl_nil ?_
 refine then_go ?_
 refine wc_seq ?_
 refine wc_seq ?_
 refine wc_region ?_
 refine wl_val (v_move' (by conv => (lhs; whnf))) rfl ?_
 refine wl_call rfl (c_logAll st hP1 hNl hNn) rfl ?_
 rintro v24 w ⟨A, hA, st1⟩
 obtain ⟨m2, hg2, hm2, st2⟩ := st1.freezeR (i := 0) rfl (by simp)
 have hs2 : SlM m2 v24 1 A.length (A.map (·.2)) := row_SlM (m := m2) (st1.at (i := 0) rfl) hm2
 obtain ⟨m3, hmm23, hP3, st⟩ := rows_freeze (A := A) st2
 have st : St m0 m3 [] w0 w (lgD g b s n sl' lv1 wv1 d' N1 (stE sb g mb [] Es)) := st
 have hmm3 : ∀ k o, m1 k = some o → m3 k = some o := fun k o h => hmm23 k o (hg2.le k o h)
 have hPM : PcsM m3 v24 A := ⟨hs2.mono hmm23, hP3⟩
 have hAR : A.map (·.1) = R := hA.trans hN1
 have hAl : A.length = N1.length := by have := congrArg List.length hA; simpa using this
 obtain ⟨va, vc, rfl⟩ : ∃ a c, v24 = .slice a A.length c := by obtain ⟨⟨_, a, c, h, _⟩, _⟩ := hPM; exact ⟨a, c, h⟩
 refine wl_val (v_len_s Try.underlying35 rfl) rfl ?_
 refine wl_val (v_move' (by conv => (lhs; whnf))) rfl ?_
 refine wl_nil ?_
 refine then_go ?_
 refine wc_block ?_
 refine wc_loop (S := Nat) (fun q r w' => ∃ (i : Nat) (m' : Mem) (M : Kys) (L : List (By × DV)), q + i = A.length ∧ r 4 = .pointer (some ⟨g, 0, none⟩) ∧ r 6 = .pointer (some ⟨sb, 0, none⟩) ∧ r 24 = .slice va A.length vc ∧ r 25 = .int .i64 A.length ∧ r 26 = .int .i64 i ∧ (∀ k o, m3 k = some o → m' k = some o) ∧ ofR [] R = ofR M (R.drop i) ∧ Risen M ∧ KvOk m' L ∧ M.Perm (kvs L) ∧ St m0 m' [] w0 w' (lgD g b s n sl' lv1 wv1 d' N1 (stE sb g mb L Es))) id A.length ⟨0, m3, [], [], by omega, rfl, rfl, rfl, rfl, rfl, fun _ _ h => h, rfl, by simp [Risen], (by intro x hx; cases hx), List.Perm.refl _, st⟩ ?_
 clear st
 rintro q r w2 ⟨i, m', M, L, hqi, g4, g6, g24, g25, g26, hmm, hof, hM, hL, hp, st⟩
 refine wc_o 4 g4 (wc_o 6 g6 (wc_o 24 g24 (wc_o 25 g25 (wc_o 26 g26 ?_))))
 refine wc_seq ?_
 refine wc_region ?_
 refine wl_val (v_lss rfl rfl) rfl ?_
 refine wl_nil ?_
 refine then_go ?_
 refine wc_seq ?_
 refine wc_if rfl (fun h27 => ?_) (fun h27 => ?_)
 ·refine wc_skip ?_
  refine then_go ?_
  refine wc_seq ?_
  refine wc_block ?_
  refine wc_seq ?_
  have hi : i < A.length := by omega
  obtain ⟨nb, no, _, hnv, hsk, hrk⟩ := hPM.elem hi
  cases hnv
  have hsk := hsk.mono hmm
  have hdr : R.drop i = A[i].1 :: R.drop (i + 1) := by
   have hlt : i < R.length := by rw [← hAR, List.length_map]; exact hi
   rw [List.drop_eq_getElem_cons hlt]
   congr 1
   simp [← hAR]
  have hxl : A[i].1.length ≤ 1048576 := hRl A[i].1 (by rw [← hAR]; exact List.mem_map.2 ⟨_, List.getElem_mem hi, rfl⟩)
  refine wc_region ?_
  refine wl_val (v_ias i Try.underlying35 TF.t31 rfl rfl (by first | rfl | omega) (by first | omega | (dsimp only at *; omega))) rfl ?_
  refine wl_val (v_load rfl (hrk (fun k o h => st.im k o (hmm k o h)))) rfl ?_
  refine wl_val (v_assign' (by conv => (lhs; whnf))) rfl ?_
  refine wl_nil ?_
  refine then_go ?_
  refine wc_seq ?_
  refine wc_region ?_
  refine wl_val (v_move' (by conv => (lhs; whnf))) rfl ?_
  refine wl_call rfl (c_readB st hsk (by omega)) rfl ?_
  rintro v32 w ⟨m4, hmm4, hro, st⟩
  obtain ⟨lv, e, rfl, he⟩ : ∃ lv e, v32 = .tuple #[lv, .int .i64 (e : Nat)] ∧ ((batR A[i].1 = none ∧ e = 3) ∨ (∃ X, batR A[i].1 = some (X.map (·.1)) ∧ e = 0 ∧ AcsM m4 lv X)) := by
   rcases hbr : batR A[i].1 with _ | X
   ·rw [hbr] at hro
    exact ⟨_, 3, hro, .inl ⟨rfl, rfl⟩⟩
   ·rw [hbr] at hro
    obtain ⟨lv, X', h1, h2, h3⟩ := hro
    exact ⟨lv, 0, h1, .inr ⟨X', by rw [h3], rfl, h2⟩⟩
  refine wl_val (v_move' (by conv => (lhs; whnf))) rfl ?_
  refine wl_val (v_extract rfl rfl) rfl ?_
  refine wl_val (v_extract rfl rfl) rfl ?_
  refine wl_val (v_assign' (by conv => (lhs; whnf))) rfl ?_
  refine wl_val (v_assign' (by conv => (lhs; whnf))) rfl ?_
  refine wl_nil ?_
  refine then_go ?_
  refine wc_seq ?_
  refine wc_seq ?_
  rcases he with ⟨hbr, rfl⟩ | ⟨X, hbr, rfl, hX⟩
  ·refine wc_region ?_
   refine wl_val (v_move' (by conv => (lhs; whnf))) rfl ?_
   refine wl_val (v_neq rfl rfl) rfl ?_
   refine wl_nil ?_
   refine then_go ?_
   refine wc_true rfl ?_
   refine wc_seq ?_
   refine wc_region ?_
   refine wl_val (v_move' (by conv => (lhs; whnf))) rfl ?_
   refine wl_val (v_assign' (by conv => (lhs; whnf))) rfl ?_
   refine wl_val (v_assign' (by conv => (lhs; whnf))) rfl ?_
   refine wl_nil ?_
   refine then_go ?_
   refine wc_ret (then_ret (block_ret (then_ret (then_ret (block_ret (then_ret ?_))))))
   have hR0 : ofR [] R = none := by rw [hof, hdr, ofR, hbr]
   rw [hR0]
   exact ret2 rfl rfl ⟨rfl, m4, wv1, fun k o h => hmm4 k o (hmm k o (hmm3 k o (hmm1 k o h))), ((((st.drop 0).drop 0).drop 1).drop 1)⟩
  ·refine wc_region ?_
   refine wl_val (v_move' (by conv => (lhs; whnf))) rfl ?_
   refine wl_val (v_neq rfl rfl) rfl ?_
   refine wl_nil ?_
   refine then_go ?_
   refine wc_false rfl ?_
   refine wc_skip ?_
   refine then_go ?_
   refine wc_region ?_
   refine wl_val (v_move' (by conv => (lhs; whnf))) rfl ?_
   refine wl_val (v_nil rfl) rfl ?_
   refine wl_val (v_fa TF.f54_1 rfl) rfl ?_
   refine wl_val (v_load rfl (st.reads (v := .map (some mb)) 3 rfl TF.t52 rfl)) rfl ?_
   refine wl_val (v_move' (by conv => (lhs; whnf))) rfl ?_
   have hokX : okL (X.map (·.1)) := (batR_eq hbr).2
   have hXl : X.length ≤ 4096 := by have := hokX.1; simpa using this
   have hnd : ((kvs L).map (·.1)).Nodup := (hp.map (·.1)).nodup hM.nodup
   have st := st.perm (List.perm_middle (l₁ := [_, _, _, _]))
   refine wl_call rfl (c_done st hX (fun a ha => hokX.2.1 _ (List.mem_map.2 ⟨a, ha, rfl⟩)) (hL.mono hmm4) (by omega)) rfl ?_
   rintro v43 w ⟨m5, L5, hmm5, hL5, _, hK5, st⟩
   have st : St m0 m5 [] w0 w (lgD g b s n sl' lv1 wv1 d' N1 (stE sb g mb L5 Es)) := st.perm (List.perm_middle (l₁ := [_, _, _, _])).symm
   refine wl_nil ?_
   refine block_go (then_go ?_)
   refine wc_region ?_
   refine wl_val (v_add' (c := ((i + 1 : Nat) : Int)) rfl rfl (by omega) (by omega) (by omega)) rfl ?_
   refine wl_val (v_move' (by conv => (lhs; whnf))) rfl ?_
   refine wl_nil ?_
   refine then_go ?_
   refine ⟨q - 1, by simp; omega, i + 1, m5, doneS M (X.map (·.1)), L5, by omega, rfl, rfl, rfl, rfl, rfl, fun k o h => hmm5 k o (hmm4 k o (hmm k o h)), ?_, doneS_rise hM, hL5, ?_, st⟩
   ·rw [hof, hdr, ofR, hbr]
   ·rw [hK5]
    exact doneS_perm hp hnd
 ·refine wc_exit (then_exit (then_exit (block_hit ?_)))
  refine then_go ?_
  refine wc_seq ?_
  refine wc_region ?_
  refine wl_val (v_move' (by conv => (lhs; whnf))) rfl ?_
  refine wl_val (v_assign' (by conv => (lhs; whnf))) rfl ?_
  refine wl_val (v_assign' (by conv => (lhs; whnf))) rfl ?_
  refine wl_nil ?_
  refine then_go ?_
  refine wc_ret ?_
  have hiA : i = A.length := by omega
  subst hiA
  have hR0 : ofR [] R = some M := by rw [hof, List.drop_eq_nil_of_le (by rw [← hAR, List.length_map]; exact Nat.le_refl _)]; rfl
  rw [hR0]
  have hmm4 : ∀ k o, m1 k = some o → m' k = some o := fun k o h => hmm k o (hmm3 k o h)
  exact ret2 rfl rfl ⟨g, sb, mb, m', wv1, lv1, N1, L, rfl, fun k o h => hmm4 k o (hmm1 k o h), hP1.mono hmm4, hN1, hM, hL, hp, st⟩
abbrev SoOut (m0 m : Mem) (w0 w' : World) (Es : List Ent) (b s n : Nat) (S' : By) (sl' : LG) (R : List By) (v : Value) (o : Option Kys) : Prop := SoOutD m0 m w0 w' Es b s n (calm S') sl' R v o
theorem c_sopen {b s n : Nat} {wv : Value} {S S' : By} {sl' : LG} {R : List By} (st : St m0 m [] w0 w (diskO b s n wv (calm S) :: Es)) (hl : S.length = 64 * n) (hn : 8 ≤ n) (hn2 : n ≤ 16384) (hO : openD n S = (calm S', sl', R, 0)) (ok : LogOk n S' sl' R) :
  Ret Try.prog 14 #[.pointer (some ⟨b, 0, none⟩)] w fun v w' => SoOut m0 m w0 w' Es b s n S' sl' R v (ofR [] R) :=
 c_sopenD st hl hn hn2 hO (fun x hx => (ok.okr x hx).2) (by
  have h1 := sizeL_ge (l := R)
  have h2 := ok.fit
  omega)
end
end Go.Proofs.Ytladpaehbolghaa

namespace Go.Proofs.Ytladpaehbolghaa
open Go Go.RowKit K SH GC JR OS
open DK hiding By
section
variable {m : Mem} {wI : World}
theorem c_rwhole {kv vv : Value} {E : List (By × DV)} (him : Im m wI) (hE : KyM m kv vv E) (hl : E.length ≤ 1000000) :
  Ret Try.prog 23 #[.agg #[kv, vv]] wI fun v w' => Out m wI w' fun m' => ∃ A, AcsM m' v A ∧ A.map (·.1) = actsOf (kvs E) := by
 have st := St.start him
 obtain ⟨ka, kc, va, vc, rfl, rfl, hkc, hvc⟩ := hE.sl
 refine ret_of Try.call23 Try.func23 rfl Try.ntmps23 Try.results23 rfl ?_
 refine wc_seq ?_
 refine wc_region ?_
 refine wl_box (v := .agg #[.slice ka E.length kc, .slice va E.length vc]) rfl st rfl ?_
 intro b1 w st
 refine wl_val (v_assign' (by conv => (lhs; whnf))) rfl ?_
 refine wl_nil ?_
 refine then_go ?_
 refine wc_seq ?_
 refine wc_region ?_
 refine wl_val (v_assign' (by conv => (lhs; whnf))) rfl ?_
 refine wl_nil ?_
 refine then_go ?_
 refine wc_seq ?_
 refine wc_seq ?_
 refine wc_region ?_
 refine wl_val (v_assign' (by conv => (lhs; whnf))) rfl ?_
 refine wl_nil ?_
 refine then_go ?_
 refine wc_block ?_
 have st : St m m [] wI w [acE (.slice none 0 0) [], K.blk b1 #[.slice ka E.length kc, .slice va E.length vc] 37] := nilRow st 33 3
 refine wc_loop (S := Nat) (fun q r w' => ∃ (i : Nat) (v : Value), q + i = E.length ∧ r 1 = .pointer (some ⟨b1, 0, none⟩) ∧ r 3 = v ∧ r 4 = .int .i64 i ∧ St m m [] wI w' [acE v ((E.take i).map toAct), K.blk b1 #[.slice ka E.length kc, .slice va E.length vc] 37]) id E.length ⟨0, _, by omega, rfl, rfl, rfl, st⟩ ?_
 clear st
 rintro q r w2 ⟨i, v, hqi, g1, g3, g4, st⟩
 refine wc_o 1 g1 (wc_o 3 g3 (wc_o 4 g4 ?_))
 refine wc_seq ?_
 refine wc_seq ?_
 refine wc_region ?_
 refine wl_val (v_move' (by conv => (lhs; whnf))) rfl ?_
 refine wl_val (v_fa TF.f37_0 rfl) rfl ?_
 refine wl_val (v_load rfl (st.reads (v := .slice ka E.length kc) 1 rfl TF.t34 rfl)) rfl ?_
 refine wl_val (v_len_s Try.underlying34 rfl) rfl ?_
 refine wl_val (v_lss rfl rfl) rfl ?_
 refine wl_nil ?_
 refine then_go ?_
 refine wc_if rfl (fun h9 => ?_) (fun h9 => ?_)
 ·refine wc_skip ?_
  refine then_go ?_
  refine wc_seq ?_
  refine wc_block ?_
  have hi : i < E.length := by omega
  obtain ⟨lb, lo, _, hla, hrk⟩ := hE.str hi
  cases hla
  obtain ⟨ub, uo, _, hua, hrv⟩ := hE.val hi
  cases hua
  obtain ⟨hk64, hd20, hsl⟩ := hE.2.2 _ (List.getElem_mem hi)
  have hone := cells_one (SlM.one1 hsl)
  have hao : AcOk m (toAct E[i]).1 (toAct E[i]).2 := ⟨by show E[i].1.length ≤ _; omega, hsl⟩
  have htk : (E.take (i + 1)).map toAct = (E.take i).map toAct ++ [toAct E[i]] := by rw [List.take_succ_eq_append_getElem hi, List.map_append]; rfl
  have hln : ((E.take i).map toAct).length = i := by rw [List.length_map, List.length_take]; omega
  refine wc_draw TF.mixed ?_
  have st := st.pure (touch_drew _)
  refine fl_val 0 rfl (fun _ => (v_move' (by conv => (lhs; whnf)))) rfl (by kernel_rfl) ?_
  refine fl_val 1 rfl (fun _ => (v_fa TF.f37_0 rfl)) rfl (by kernel_rfl) ?_
  refine fl_ld 2 rfl (v_load rfl (by first | exact st.reads (v := .slice (some ⟨lb, lo, none⟩) E.length kc) 1 rfl TF.t34 rfl | exact st.reads (v := .slice (some ⟨lb, lo, none⟩) E.length kc) 2 rfl TF.t34 rfl)) (by kernel_rfl) ?_
  refine fl_val 3 rfl (fun _ => (v_move' (by conv => (lhs; whnf)))) rfl (by kernel_rfl) ?_
  refine fl_val 4 rfl (fun _ => (v_ias i Try.underlying34 TF.t9 rfl rfl (by first | rfl | omega) (by first | omega | (dsimp only at *; omega)))) rfl (by kernel_rfl) ?_
  refine fl_ld 5 rfl (v_load rfl (hrk st.im)) (by kernel_rfl) ?_
  refine fl_val 6 rfl (fun _ => (v_fa TF.f37_1 rfl)) rfl (by kernel_rfl) ?_
  refine fl_ld 7 rfl (v_load rfl (by first | exact st.reads (v := .slice (some ⟨ub, uo, none⟩) E.length vc) 1 rfl TF.t35 rfl | exact st.reads (v := .slice (some ⟨ub, uo, none⟩) E.length vc) 2 rfl TF.t35 rfl)) (by kernel_rfl) ?_
  refine fl_val 8 rfl (fun _ => (v_move' (by conv => (lhs; whnf)))) rfl (by kernel_rfl) ?_
  refine fl_val 9 rfl (fun _ => (v_ias i Try.underlying35 TF.t31 rfl rfl (by first | rfl | omega) (by first | omega | (dsimp only at *; omega)))) rfl (by kernel_rfl) ?_
  refine fl_ld 10 rfl (v_load rfl (hrv st.im)) (by kernel_rfl) ?_
  refine fl_val 11 rfl (fun _ => (v_build (c' := (acC ⟨E[i].1, true, E[i].2.1⟩ E[i].2.2).toArray) [(0, .string (strB E[i].1)), (1, .bool true), (2, E[i].2.2)] TF.z33 TF.p33 rfl (fill_one [] [.string ⟨#[]⟩] [.bool false, .slice none 0 0] rfl rfl rfl (fill_one [.string (strB E[i].1)] [.bool false] [.slice none 0 0] rfl rfl rfl (fill_one [.string (strB E[i].1), .bool true] [.slice none 0 0] [] rfl rfl (by rw [hone]; rfl) (by rw [hone]; rfl)))))) rfl (by kernel_rfl) ?_
  refine fl_eff1 12 [9, 8, 6, 4, 3, 1, 0] [10, 7, 5, 2] (by kernel_rfl) ⟨obl_ld rfl rfl rfl (v_load rfl (hrv st.im)), obl_ld rfl rfl rfl (v_load rfl (by first | exact st.reads (v := .slice (some ⟨ub, uo, none⟩) E.length vc) 1 rfl TF.t35 rfl | exact st.reads (v := .slice (some ⟨ub, uo, none⟩) E.length vc) 2 rfl TF.t35 rfl)), obl_ld rfl rfl rfl (v_load rfl (hrk st.im)), obl_ld rfl rfl rfl (v_load rfl (by first | exact st.reads (v := .slice (some ⟨lb, lo, none⟩) E.length kc) 1 rfl TF.t34 rfl | exact st.reads (v := .slice (some ⟨lb, lo, none⟩) E.length kc) 2 rfl TF.t34 rfl)), trivial⟩ rfl ?_
  refine wl_lsOne (acC ⟨E[i].1, true, E[i].2.1⟩ E[i].2.2) Try.underlying22 TF.t33 TF.z33 (by decide) (by decide) (Ac.len hao) rfl st rfl ?_
  intro b24 w st
  refine wl_nil ⟨rfl, ?_⟩
  refine fl_eff1 13 [9, 8, 6, 4, 3, 1] [10, 7, 5, 2] (by kernel_rfl) ⟨obl_ld rfl rfl rfl (v_load rfl (hrv st.im)), obl_ld rfl rfl rfl (v_load rfl (by first | exact st.reads (v := .slice (some ⟨ub, uo, none⟩) E.length vc) 1 rfl TF.t35 rfl | exact st.reads (v := .slice (some ⟨ub, uo, none⟩) E.length vc) 2 rfl TF.t35 rfl)), obl_ld rfl rfl rfl (v_load rfl (hrk st.im)), obl_ld rfl rfl rfl (v_load rfl (by first | exact st.reads (v := .slice (some ⟨lb, lo, none⟩) E.length kc) 1 rfl TF.t34 rfl | exact st.reads (v := .slice (some ⟨lb, lo, none⟩) E.length kc) 2 rfl TF.t34 rfl)), trivial⟩ rfl ?_
  refine wl_lsApp (c := acP) (e := toAct E[i]) 0 st rfl Try.underlying22 TF.t33 TF.z33 rfl rfl (Ac.one hao) rfl rfl (by omega) (by omega) rfl ?_
  intro v25 w st hv25
  refine wl_nil ⟨rfl, ?_⟩
  refine fl_eff1 14 [] [] (by kernel_rfl) ⟨obl_ld rfl rfl rfl (v_load rfl (hrv st.im)), obl_ld rfl rfl rfl (v_load rfl (by first | exact st.reads (v := .slice (some ⟨ub, uo, none⟩) E.length vc) 1 rfl TF.t35 rfl | exact st.reads (v := .slice (some ⟨ub, uo, none⟩) E.length vc) 2 rfl TF.t35 rfl)), obl_ld rfl rfl rfl (v_load rfl (hrk st.im)), obl_ld rfl rfl rfl (v_load rfl (by first | exact st.reads (v := .slice (some ⟨lb, lo, none⟩) E.length kc) 1 rfl TF.t34 rfl | exact st.reads (v := .slice (some ⟨lb, lo, none⟩) E.length kc) 2 rfl TF.t34 rfl)), trivial⟩ rfl ?_
  refine wl_val (v_assign' (by conv => (lhs; whnf))) rfl ?_
  refine wl_nil ⟨rfl, ?_⟩
  refine fl_nil (by kernel_rfl) trivial ?_
  refine block_go (then_go ?_)
  refine wc_region ?_
  refine wl_val (v_move' (by conv => (lhs; whnf))) rfl ?_
  refine wl_val (v_add' (c := ((i + 1 : Nat) : Int)) rfl rfl (by omega) (by omega) (by omega)) rfl ?_
  refine wl_val (v_assign' (by conv => (lhs; whnf))) rfl ?_
  refine wl_nil ?_
  refine then_go ?_
  refine ⟨q - 1, by simp; omega, i + 1, v25, by omega, rfl, rfl, rfl, ?_⟩
  rw [htk]
  exact st
 ·refine wc_exit (then_exit (then_exit (block_hit ?_)))
  refine then_go ?_
  refine wc_seq ?_
  refine wc_region ?_
  refine wl_val (v_move' (by conv => (lhs; whnf))) rfl ?_
  refine wl_val (v_assign' (by conv => (lhs; whnf))) rfl ?_
  refine wl_nil ?_
  refine then_go ?_
  refine wc_ret ?_
  have hiE : i = E.length := by omega
  subst hiE
  rw [List.take_length] at st
  obtain ⟨m1, hg1, hls, st⟩ := st.keepLs (i := 0) rfl (fun _ _ => rfl)
  have hA : AcsM m1 v (E.map toAct) := ⟨hls, fun a ha => by
   obtain ⟨z, hz, rfl⟩ := List.mem_map.1 ha
   obtain ⟨h1, h2, h3⟩ := hE.2.2 z hz
   exact ⟨by show z.1.length ≤ _; omega, h3.mono hg1.le⟩⟩
  exact ret1 rfl ((st.keepOnly (l := []) (List.nil_sublist _)).out ⟨_, hA, by unfold actsOf kvs; rw [List.map_map, List.map_map]; rfl⟩)
end
end Go.Proofs.Ytladpaehbolghaa

namespace Go.Proofs.Ytladpaehbolghaa
open Go Go.RowKit K SH GC JR OS
open DK hiding By
end Go.Proofs.Ytladpaehbolghaa

namespace Go.Proofs.Ytladpaehbolghaa
open Go Go.RowKit K SH GC JR OS
end Go.Proofs.Ytladpaehbolghaa

namespace Go.Proofs.Ytladpaehbolghaa
open Go Go.RowKit K SH GC JR OS
open DK hiding By
end Go.Proofs.Ytladpaehbolghaa

namespace Go.Proofs.Ytladpaehbolghaa
open Go Go.RowKit K SH GC JR OS
open DK hiding By
section
variable {m : Mem} {wI : World}
theorem c_sameacts {av bv : Value} {A B : List AcT} (him : Im m wI) (hA : AcsM m av A) (hB : AcsM m bv B) (h : A.map (·.1) = B.map (·.1)) (hl : A.length ≤ 1000000000) :
  Ret Try.prog 22 #[av, bv] wI fun v w' => Tch wI w' [] [] ∧ v = .bool true := by
 have st := St.start him
 have hlen : A.length = B.length := by have := congrArg List.length h; simpa using this
 obtain ⟨la, lc, rfl⟩ := hA.1.sl
 obtain ⟨ka, kc, rfl⟩ := hB.1.sl
 refine ret_of Try.call22 Try.func22 rfl Try.ntmps22 Try.results22 rfl ?_
 refine wc_seq ?_
 refine wc_region ?_
 refine wl_val (v_assign' (by conv => (lhs; whnf))) rfl ?_
 refine wl_nil ?_
 refine then_go ?_
 refine wc_seq ?_
 refine wc_seq ?_
 refine wc_region ?_
 refine wl_val (v_move' (by conv => (lhs; whnf))) rfl ?_
 refine wl_val (v_len_s Try.underlying22 rfl) rfl ?_
 refine wl_val (v_move' (by conv => (lhs; whnf))) rfl ?_
 refine wl_val (v_len_s Try.underlying22 rfl) rfl ?_
 refine wl_val (v_neqF (a := (A.length : Int)) (b := (B.length : Int)) (by omega) rfl rfl) rfl ?_
 refine wl_nil ?_
 refine then_go ?_
 refine wc_false rfl ?_
 refine wc_skip ?_
 refine then_go ?_
 refine wc_seq ?_
 refine wc_seq ?_
 refine wc_region ?_
 refine wl_val (v_assign' (by conv => (lhs; whnf))) rfl ?_
 refine wl_nil ?_
 refine then_go ?_
 refine wc_block ?_
 refine wc_loop (S := Nat) (fun q r w' => ∃ (i : Nat), q + i = A.length ∧ r 0 = .slice la A.length lc ∧ r 1 = .slice ka B.length kc ∧ r 5 = .int .i64 i ∧ St m m [] wI w' []) id A.length ⟨0, by omega, rfl, rfl, rfl, st⟩ ?_
 clear st
 rintro q r w2 ⟨i, hqi, g0, g1, g5, st⟩
 refine wc_o 0 g0 (wc_o 1 g1 (wc_o 5 g5 ?_))
 refine wc_seq ?_
 refine wc_seq ?_
 refine wc_region ?_
 refine wl_val (v_move' (by conv => (lhs; whnf))) rfl ?_
 refine wl_val (v_move' (by conv => (lhs; whnf))) rfl ?_
 refine wl_val (v_len_s Try.underlying22 rfl) rfl ?_
 refine wl_val (v_lss rfl rfl) rfl ?_
 refine wl_nil ?_
 refine then_go ?_
 refine wc_if rfl (fun h14 => ?_) (fun h14 => ?_)
 ·refine wc_skip ?_
  refine then_go ?_
  refine wc_seq ?_
  refine wc_block ?_
  refine wc_seq ?_
  have hi : i < A.length := by omega
  have hj : i < B.length := by omega
  obtain ⟨lb, lo, da, dc, hla, hd, _, hrk, hrs, hrd⟩ := hA.at hi
  obtain ⟨ub, uo, ea, ec, hua, he, _, hsk, hss, hsd⟩ := hB.at hj
  subst hla hua
  have hokA := (hA.2 _ (List.getElem_mem hi)).data
  have hokB := (hB.2 _ (List.getElem_mem hj)).data
  have heq : A[i].1 = B[i].1 := by
   have h1 : (A.map (·.1))[i]'(by simpa using hi) = (B.map (·.1))[i]'(by simpa using hj) := by simp [h]
   simpa using h1
  refine wc_draw TF.mixed ?_
  have st := st.pure (touch_drew _)
  refine fl_val 0 rfl (fun _ => (v_move' (by conv => (lhs; whnf)))) rfl (by kernel_rfl) ?_
  refine fl_val 1 rfl (fun _ => (v_move' (by conv => (lhs; whnf)))) rfl (by kernel_rfl) ?_
  refine fl_val 2 rfl (fun _ => (v_ias i Try.underlying22 TF.t33 rfl rfl (by first | rfl | omega) (by first | omega | (dsimp only at *; omega)))) rfl (by kernel_rfl) ?_
  refine fl_val 3 rfl (fun _ => (v_fa TF.f33_0 rfl)) rfl (by kernel_rfl) ?_
  refine fl_ld 4 rfl (v_load rfl (hrk st.im)) (by kernel_rfl) ?_
  refine fl_val 5 rfl (fun _ => (v_move' (by conv => (lhs; whnf)))) rfl (by kernel_rfl) ?_
  refine fl_val 6 rfl (fun _ => (v_move' (by conv => (lhs; whnf)))) rfl (by kernel_rfl) ?_
  refine fl_val 7 rfl (fun _ => (v_ias i Try.underlying22 TF.t33 rfl rfl (by first | rfl | omega) (by first | omega | (dsimp only at *; omega)))) rfl (by kernel_rfl) ?_
  refine fl_val 8 rfl (fun _ => (v_fa TF.f33_0 rfl)) rfl (by kernel_rfl) ?_
  refine fl_ld 9 rfl (v_load rfl (hsk st.im)) (by kernel_rfl) ?_
  refine fl_val 10 rfl (fun _ => (wl_valD (v_nesJ rfl rfl) (q := false) (by rw [heq]; simp))) rfl (by kernel_rfl) ?_
  refine fl_val 11 rfl (fun _ => (v_move' (by conv => (lhs; whnf)))) rfl (by kernel_rfl) ?_
  refine fl_on 12 rfl rfl rfl rfl (fun _ => (v_move' (by conv => (lhs; whnf)))) rfl (by kernel_rfl) ?_
  refine fl_on 13 rfl rfl rfl rfl (fun _ => (v_move' (by conv => (lhs; whnf)))) rfl (by kernel_rfl) ?_
  refine fl_on 14 rfl rfl rfl rfl (fun _ => (v_ias i Try.underlying22 TF.t33 rfl rfl (by first | rfl | omega) (by first | omega | (dsimp only at *; omega)))) rfl (by kernel_rfl) ?_
  refine fl_on 15 rfl rfl rfl rfl (fun _ => (v_fa TF.f33_1 rfl)) rfl (by kernel_rfl) ?_
  refine fl_ond 16 rfl rfl rfl rfl (v_load rfl (hrs st.im)) rfl (by kernel_rfl) ?_
  refine fl_on 17 rfl rfl rfl rfl (fun _ => (v_move' (by conv => (lhs; whnf)))) rfl (by kernel_rfl) ?_
  refine fl_on 18 rfl rfl rfl rfl (fun _ => (v_move' (by conv => (lhs; whnf)))) rfl (by kernel_rfl) ?_
  refine fl_on 19 rfl rfl rfl rfl (fun _ => (v_ias i Try.underlying22 TF.t33 rfl rfl (by first | rfl | omega) (by first | omega | (dsimp only at *; omega)))) rfl (by kernel_rfl) ?_
  refine fl_on 20 rfl rfl rfl rfl (fun _ => (v_fa TF.f33_1 rfl)) rfl (by kernel_rfl) ?_
  refine fl_ond 21 rfl rfl rfl rfl (v_load rfl (hss st.im)) rfl (by kernel_rfl) ?_
  refine fl_on 22 rfl rfl rfl rfl (fun _ => (wl_valD (v_neb Try.underlying4 rfl rfl) (q := false) (by rw [heq]; simp))) rfl (by kernel_rfl) ?_
  refine fl_val 23 rfl (fun _ => (v_pick rfl)) rfl (by kernel_rfl) ?_
  refine fl_val 24 rfl (fun _ => (v_move' (by conv => (lhs; whnf)))) rfl (by kernel_rfl) ?_
  refine fl_on 25 rfl rfl rfl rfl (fun _ => (v_move' (by conv => (lhs; whnf)))) rfl (by kernel_rfl) ?_
  refine fl_on 26 rfl rfl rfl rfl (fun _ => (v_move' (by conv => (lhs; whnf)))) rfl (by kernel_rfl) ?_
  refine fl_on 27 rfl rfl rfl rfl (fun _ => (v_ias i Try.underlying22 TF.t33 rfl rfl (by first | rfl | omega) (by first | omega | (dsimp only at *; omega)))) rfl (by kernel_rfl) ?_
  refine fl_on 28 rfl rfl rfl rfl (fun _ => (v_fa TF.f33_2 rfl)) rfl (by kernel_rfl) ?_
  refine fl_ond 29 rfl rfl rfl rfl (v_load rfl (hrd st.im)) rfl (by kernel_rfl) ?_
  refine fl_on 30 rfl rfl rfl rfl (fun _ => (v_move' (by conv => (lhs; whnf)))) rfl (by kernel_rfl) ?_
  refine fl_on 31 rfl rfl rfl rfl (fun _ => (v_move' (by conv => (lhs; whnf)))) rfl (by kernel_rfl) ?_
  refine fl_on 32 rfl rfl rfl rfl (fun _ => (v_ias i Try.underlying22 TF.t33 rfl rfl (by first | rfl | omega) (by first | omega | (dsimp only at *; omega)))) rfl (by kernel_rfl) ?_
  refine fl_on 33 rfl rfl rfl rfl (fun _ => (v_fa TF.f33_2 rfl)) rfl (by kernel_rfl) ?_
  refine fl_ond 34 rfl rfl rfl rfl (v_load rfl (hsd st.im)) rfl (by kernel_rfl) ?_
  refine fl_eff1 35 [33, 32, 31, 30, 28, 27, 26, 25, 23, 22, 20, 19, 18, 17, 15, 14, 13, 12, 11, 10, 8, 7, 6, 5, 3, 2, 1, 0] [21, 16, 9, 4] (by kernel_rfl) ⟨obl_on rfl rfl rfl rfl rfl (v_load rfl (hsd st.im)), obl_on rfl rfl rfl rfl rfl (v_load rfl (hrd st.im)), obl_on rfl rfl rfl rfl rfl (v_load rfl (hss st.im)), obl_on rfl rfl rfl rfl rfl (v_load rfl (hrs st.im)), obl_ld rfl rfl rfl (v_load rfl (hsk st.im)), obl_ld rfl rfl rfl (v_load rfl (hrk st.im)), trivial⟩ rfl ?_
  refine wl_on rfl rfl ?_
  refine wl_call rfl (c_same17 st.im hokA hokB) rfl ?_
  rintro v52 w ⟨t52, rfl⟩
  have st := st.pure t52
  rw [decide_eq_true (by rw [heq])]
  refine wl_nil ⟨rfl, ?_⟩
  refine fl_on 36 rfl rfl rfl rfl (fun _ => (v_not rfl)) rfl (by kernel_rfl) ?_
  refine fl_val 37 rfl (fun _ => (v_pick rfl)) rfl (by kernel_rfl) ?_
  refine fl_nil (by kernel_rfl) ⟨obl_on rfl rfl rfl rfl rfl (v_load rfl (hss st.im)), obl_on rfl rfl rfl rfl rfl (v_load rfl (hrs st.im)), obl_ld rfl rfl rfl (v_load rfl (hsk st.im)), obl_ld rfl rfl rfl (v_load rfl (hrk st.im)), trivial⟩ ?_
  refine then_go ?_
  refine wc_false rfl ?_
  refine wc_skip ?_
  refine block_go (then_go ?_)
  refine wc_region ?_
  refine wl_val (v_move' (by conv => (lhs; whnf))) rfl ?_
  refine wl_val (v_add' (c := ((i + 1 : Nat) : Int)) rfl rfl (by omega) (by omega) (by omega)) rfl ?_
  refine wl_val (v_assign' (by conv => (lhs; whnf))) rfl ?_
  refine wl_nil ?_
  refine then_go ?_
  exact ⟨q - 1, by simp; omega, i + 1, by omega, rfl, rfl, rfl, st⟩
 ·refine wc_exit (then_exit (then_exit (block_hit ?_)))
  refine then_go ?_
  refine wc_seq ?_
  refine wc_region ?_
  refine wl_val (v_assign' (by conv => (lhs; whnf))) rfl ?_
  refine wl_nil ?_
  refine then_go ?_
  refine wc_ret ?_
  exact ret1 rfl ⟨st.touch, rfl⟩
theorem c_samekeys {kv vv ku vu : Value} {E G : List (By × DV)} (him : Im m wI) (hE : KyM m kv vv E) (hG : KyM m ku vu G) (h : kvs E = kvs G) (hl : E.length ≤ 1000000) :
  Ret Try.prog 11 #[.agg #[kv, vv], .agg #[ku, vu]] wI fun v w' => Out m wI w' fun _ => v = .bool true := by
 have st := St.start him
 have q1 := SlM.one1 hE.1
 have q2 := SlM.one1 hE.2.1
 have q3 := SlM.one1 hG.1
 have q4 := SlM.one1 hG.2.1
 have hGl : G.length ≤ 1000000 := by have := congrArg List.length h; rw [length_kvs, length_kvs] at this; omega
 refine ret_of Try.call11 Try.func11 rfl Try.ntmps11 Try.results11 rfl ?_
 refine wc_seq ?_
 refine wc_region ?_
 refine wl_box (v := .agg #[kv, vv]) rfl st rfl ?_
 intro b2 w st
 refine wl_box (v := .agg #[ku, vu]) rfl st rfl ?_
 intro b3 w st
 refine wl_val (v_assign' (by conv => (lhs; whnf))) rfl ?_
 refine wl_nil ?_
 refine then_go ?_
 refine wc_seq ?_
 refine wc_draw TF.mixed ?_
 have st := st.pure (touch_drew _)
 refine fl_ld 0 rfl (v_load rfl (st.reads (v := .agg #[kv, vv]) 1 rfl TF.t37 (getV_all rfl))) (by kernel_rfl) ?_
 refine fl_ld 2 rfl (v_load rfl (st.reads (v := .agg #[ku, vu]) 0 rfl TF.t37 (getV_all rfl))) (by kernel_rfl) ?_
 refine fl_eff1 1 [] [2] (by kernel_rfl) ⟨obl_ld rfl rfl rfl (v_load rfl (st.reads (v := .agg #[ku, vu]) 0 rfl TF.t37 (getV_all rfl))), obl_ld rfl rfl rfl (v_load rfl (st.reads (v := .agg #[kv, vv]) 1 rfl TF.t37 (getV_all rfl))), trivial⟩ rfl ?_
 refine wl_call rfl (c_rwhole st.im hE hl) rfl ?_
 rintro v6 w ⟨t6, m1, hg1, hi1, A, hA, hAE⟩
 have st := st.grown hg1 t6 hi1
 refine wl_nil ⟨rfl, ?_⟩
 refine fl_eff1 3 [] [] (by kernel_rfl) ⟨obl_ld rfl rfl rfl (v_load rfl (st.reads (v := .agg #[ku, vu]) 0 rfl TF.t37 (getV_all rfl))), trivial⟩ rfl ?_
 refine wl_call rfl (c_rwhole st.im (hG.mono hg1.le) hGl) rfl ?_
 rintro v8 w ⟨t8, m2, hg2, hi2, B, hB, hBG⟩
 have st := st.grown hg2 t8 hi2
 refine wl_nil ⟨rfl, ?_⟩
 refine fl_eff1 4 [] [] (by kernel_rfl) trivial rfl ?_
 have hAl : A.length = E.length := by have := congrArg List.length hAE; simpa [actsOf] using this
 refine wl_call rfl (c_sameacts st.im (hA.mono hg2.le) hB (by rw [hAE, hBG, h]) (by omega)) rfl ?_
 rintro v9 w ⟨t9, rfl⟩
 have st := st.pure t9
 refine wl_nil ⟨rfl, ?_⟩
 refine fl_eff1 5 [] [] (by kernel_rfl) trivial rfl ?_
 refine wl_val (v_assign' (by conv => (lhs; whnf))) rfl ?_
 refine wl_nil ⟨rfl, ?_⟩
 refine fl_nil (by kernel_rfl) trivial ?_
 refine then_go ?_
 refine wc_ret ?_
 exact ret1 rfl ((st.keepOnly (l := []) (List.nil_sublist _)).out rfl)
def ShortA (A : List AcT) : Prop := A.length ≤ 1048576 ∧ ∀ a ∈ A, a.1.key.length ≤ 1048576 ∧ a.1.data.length ≤ 1048576
theorem c_light {lv : Value} {A : List AcT} (him : Im m wI) (hA : AcsM m lv A) (hs : ShortA A) :
  Ret Try.prog 5 #[lv] wI fun v w' => Tch wI w' [] [] ∧ ∃ c : Bool, v = .bool c ∧ (c = true → A.length ≤ 60 ∧ bulkA (A.map (·.1)) ≤ 20000) := by
 have st := St.start him
 obtain ⟨la, lc, rfl⟩ := hA.1.sl
 refine ret_of Try.call5 Try.func5 rfl Try.ntmps5 Try.results5 rfl ?_
 refine wc_seq ?_
 refine wc_region ?_
 refine wl_val (v_assign' (by conv => (lhs; whnf))) rfl ?_
 refine wl_nil ?_
 refine then_go ?_
 refine wc_seq ?_
 refine wc_seq ?_
 refine wc_region ?_
 refine wl_val (v_move' (by conv => (lhs; whnf))) rfl ?_
 refine wl_val (v_len_s Try.underlying22 rfl) rfl ?_
 refine wl_val (v_gtr rfl rfl) rfl ?_
 refine wl_nil ?_
 refine then_go ?_
 refine wc_if rfl (fun h7 => ?_) (fun h7 => ?_)
 ·refine wc_seq ?_
  refine wc_region ?_
  refine wl_val (v_assign' (by conv => (lhs; whnf))) rfl ?_
  refine wl_nil ?_
  refine then_go ?_
  refine wc_ret (then_ret ?_)
  exact ret1 rfl ⟨st.touch, false, rfl, fun h => by cases h⟩
 ·refine wc_skip ?_
  refine then_go ?_
  refine wc_seq ?_
  refine wc_region ?_
  refine wl_val (v_assign' (by conv => (lhs; whnf))) rfl ?_
  refine wl_nil ?_
  refine then_go ?_
  refine wc_seq ?_
  refine wc_seq ?_
  refine wc_region ?_
  refine wl_val (v_assign' (by conv => (lhs; whnf))) rfl ?_
  refine wl_nil ?_
  refine then_go ?_
  refine wc_block ?_
  refine wc_loop (S := Nat) (fun q r w' => ∃ (i : Nat), q + i = A.length ∧ r 0 = .slice la A.length lc ∧ r 3 = .int .i64 (bulkA ((A.take i).map (·.1)) : Nat) ∧ r 4 = .int .i64 i ∧ bulkA ((A.take i).map (·.1)) ≤ 3000000 ∧ St m m [] wI w' []) id A.length ⟨0, by omega, rfl, rfl, rfl, by simp [bulkA], st⟩ ?_
  clear st
  rintro q r w2 ⟨i, hqi, g0, g3, g4, hbi, st⟩
  refine wc_o 0 g0 (wc_o 3 g3 (wc_o 4 g4 ?_))
  refine wc_seq ?_
  refine wc_seq ?_
  refine wc_region ?_
  refine wl_val (v_move' (by conv => (lhs; whnf))) rfl ?_
  refine wl_val (v_move' (by conv => (lhs; whnf))) rfl ?_
  refine wl_val (v_len_s Try.underlying22 rfl) rfl ?_
  refine wl_val (v_lss rfl rfl) rfl ?_
  refine wl_val (v_move' (by conv => (lhs; whnf))) rfl ?_
  refine wl_valg rfl rfl (fun e => (v_move' (by conv => (lhs; whnf)))) rfl ?_
  refine wl_valg rfl rfl (fun e => (v_leq (by first | rfl | exact gx e rfl) (by first | rfl | exact gx e rfl))) rfl ?_
  refine wl_val (v_pickA rfl rfl rfl) rfl ?_
  refine wl_nil ?_
  refine then_go ?_
  refine wc_cond rfl (fun h15 => ?_) (fun h15 => ?_)
  ·refine wc_skip ?_
   refine then_go ?_
   refine wc_seq ?_
   refine wc_block ?_
   rw [Bool.and_eq_true, decide_eq_true_eq, decide_eq_true_eq] at h15
   have hi : i < A.length := by omega
   obtain ⟨lb, lo, da, dc, hla, hd, _, hrk, hrs, hrd⟩ := hA.at hi
   subst hla
   obtain ⟨hk, hdl⟩ := hs.2 _ (List.getElem_mem hi)
   simp only [hd] at hrd
   have htk : bulkA ((A.take (i + 1)).map (·.1)) = bulkA ((A.take i).map (·.1)) + (A[i].1.key.length + A[i].1.data.length) := by
    rw [List.take_succ_eq_append_getElem hi, List.map_append]
    unfold bulkA
    simp
   refine wc_draw TF.mixed ?_
   have st := st.pure (touch_drew _)
   refine fl_val 0 rfl (fun _ => (v_move' (by conv => (lhs; whnf)))) rfl (by kernel_rfl) ?_
   refine fl_val 1 rfl (fun _ => (v_move' (by conv => (lhs; whnf)))) rfl (by kernel_rfl) ?_
   refine fl_val 2 rfl (fun _ => (v_move' (by conv => (lhs; whnf)))) rfl (by kernel_rfl) ?_
   refine fl_val 3 rfl (fun _ => (v_ias i Try.underlying22 TF.t33 rfl rfl (by first | rfl | omega) (by first | omega | (dsimp only at *; omega)))) rfl (by kernel_rfl) ?_
   refine fl_val 4 rfl (fun _ => (v_fa TF.f33_0 rfl)) rfl (by kernel_rfl) ?_
   refine fl_ld 5 rfl (v_load rfl (hrk st.im)) (by kernel_rfl) ?_
   refine fl_val 6 rfl (fun _ => (v_to (v' := .int .i64 (A[i].1.key.length : Nat)) (v_len_str Try.underlying9 rfl) (by rw [size_strB]))) rfl (by kernel_rfl) ?_
   refine fl_val 7 rfl (fun _ => (v_add' (a := ((bulkA ((A.take i).map (·.1)) : Nat) : Int)) (b := ((A[i].1.key.length : Nat) : Int)) (c := ((bulkA ((A.take i).map (·.1)) + A[i].1.key.length : Nat) : Int)) rfl rfl (by omega) (by omega) (by omega))) rfl (by kernel_rfl) ?_
   refine fl_val 8 rfl (fun _ => (v_move' (by conv => (lhs; whnf)))) rfl (by kernel_rfl) ?_
   refine fl_val 9 rfl (fun _ => (v_move' (by conv => (lhs; whnf)))) rfl (by kernel_rfl) ?_
   refine fl_val 10 rfl (fun _ => (v_ias i Try.underlying22 TF.t33 rfl rfl (by first | rfl | omega) (by first | omega | (dsimp only at *; omega)))) rfl (by kernel_rfl) ?_
   refine fl_val 11 rfl (fun _ => (v_fa TF.f33_2 rfl)) rfl (by kernel_rfl) ?_
   refine fl_ld 12 rfl (v_load rfl (hrd st.im)) (by kernel_rfl) ?_
   refine fl_val 13 rfl (fun _ => (v_len_s Try.underlying31 rfl)) rfl (by kernel_rfl) ?_
   refine fl_val 14 rfl (fun _ => (v_add' (a := ((bulkA ((A.take i).map (·.1)) + A[i].1.key.length : Nat) : Int)) (b := ((A[i].1.data.length : Nat) : Int)) (c := ((bulkA ((A.take (i + 1)).map (·.1)) : Nat) : Int)) rfl rfl (by omega) (by omega) (by omega))) rfl (by kernel_rfl) ?_
   refine fl_eff1 15 [] [] (by kernel_rfl) ⟨obl_ld rfl rfl rfl (v_load rfl (hrd st.im)), obl_ld rfl rfl rfl (v_load rfl (hrk st.im)), trivial⟩ rfl ?_
   refine wl_val (v_assign' (by conv => (lhs; whnf))) rfl ?_
   refine wl_nil ⟨rfl, ?_⟩
   refine fl_nil (by kernel_rfl) trivial ?_
   refine block_go (then_go ?_)
   refine wc_region ?_
   refine wl_val (v_move' (by conv => (lhs; whnf))) rfl ?_
   refine wl_val (v_add' (c := ((i + 1 : Nat) : Int)) rfl rfl (by omega) (by omega) (by omega)) rfl ?_
   refine wl_val (v_assign' (by conv => (lhs; whnf))) rfl ?_
   refine wl_nil ?_
   refine then_go ?_
   exact ⟨q - 1, by simp; omega, i + 1, by omega, rfl, rfl, rfl, by omega, st⟩
  ·refine wc_exit (then_exit (then_exit (block_hit ?_)))
   refine then_go ?_
   refine wc_seq ?_
   refine wc_region ?_
   refine wl_val (v_move' (by conv => (lhs; whnf))) rfl ?_
   refine wl_val (v_leq rfl rfl) rfl ?_
   refine wl_val (v_assign' (by conv => (lhs; whnf))) rfl ?_
   refine wl_nil ?_
   refine then_go ?_
   refine wc_ret ?_
   refine ret1 (v := .bool (decide ((bulkA ((A.take i).map (·.1)) : Int) ≤ 20000))) rfl ⟨st.touch, _, rfl, fun h => ?_⟩
   have h1 := of_decide_eq_true h
   rw [Bool.and_eq_false_iff] at h15
   have hiA : i = A.length := by
    rcases h15 with h | h
    ·have := of_decide_eq_false h; omega
    ·have := of_decide_eq_false h; omega
   subst hiA
   rw [List.take_length] at h1
   exact ⟨by omega, by omega⟩
end
end Go.Proofs.Ytladpaehbolghaa

namespace Go.Proofs.Ytladpaehbolghaa
open Go Go.RowKit K SH GC JR OS
open DK hiding By
namespace OS
def BatsM (m : Mem) (v : Value) (L : List (List AcT × Value)) : Prop := SlM m v 1 L.length (L.map (·.2)) ∧ ∀ x ∈ L, AcsM m x.2 x.1
theorem BatsM.mono {m m' : Mem} {v : Value} {L : List (List AcT × Value)} (h : BatsM m v L) (hm : ∀ k o, m k = some o → m' k = some o) : BatsM m' v L := ⟨h.1.mono hm, fun x hx => (h.2 x hx).mono hm⟩
end OS
section
variable {m0 m : Mem} {wI w0 w : World} {Es : List Ent}
theorem OS.BatsM.at {v : Value} {L : List (List AcT × Value)} (h : BatsM m v L) {i : Nat} (hi : i < L.length) : ∃ b o c, v = .slice (some ⟨b, o, none⟩) L.length c ∧ ∀ {w : World} (_ : Im m w), Reads Try.prog w 22 ⟨b, o + i * 1, none⟩ L[i].2 := by
 obtain ⟨b, o, c, hv, _, hr⟩ := h.1.elem Try.prog (i := i) hi (by omega)
 refine ⟨b, o, c, hv, fun {w} him => ?_⟩
 have := hr him (off := 0) (v' := L[i].2) TF.t22 (by
  have e : cellsAt (L.map (·.2)) 1 i = [L[i].2] := by simp [cellsAt, List.drop_eq_getElem_cons, hi]
  rw [e]
  rfl)
 simpa using this
theorem c_fresh15 {z : Int} (st : St m0 m [] w0 w Es) :
  Ret Try.prog 4 #[.int .i64 z] w fun v w' => ∃ m' b s wv g lv sb mb n S sl, 8 ≤ n ∧ n ≤ 47 ∧ LogOk n S sl [] ∧ sl.gen = 1 ∧ (∀ k o, m k = some o → m' k = some o) ∧ v = .tuple #[.pointer (some ⟨b, 0, none⟩), .pointer (some ⟨sb, 0, none⟩)] ∧ St m0 m' [] w0 w' (lgE g b s n sl lv wv S [] (stE sb g mb [] Es)) := by
 refine ret_of Try.call4 Try.func4 rfl Try.ntmps4 Try.results4 rfl ?_
 refine wc_seq ?_
 refine wc_region ?_
 refine wl_val (v_assign' (by conv => (lhs; whnf))) rfl ?_
 refine wl_val (v_assign' (by conv => (lhs; whnf))) rfl ?_
 refine wl_nil ?_
 refine then_go ?_
 refine wc_seq ?_
 obtain ⟨u, hu⟩ : ∃ u, u = IntKind.u64.wrap z := ⟨_, rfl⟩
 have hu0 : 0 ≤ u := by rw [hu, IntKind.wrap_u64]; omega
 obtain ⟨k, hk⟩ : ∃ k : Nat, u % 40 = k := ⟨(u % 40).toNat, (Int.toNat_of_nonneg (Int.emod_nonneg _ (by omega))).symm⟩
 have hkl : k < 40 := by omega
 refine wc_region ?_
 refine wl_val (v_move' (by conv => (lhs; whnf))) rfl ?_
 refine wl_val (v_to (v' := .int .u64 u) (v_conv Try.underlying3 Try.underlying47 rfl) (by rw [hu])) rfl ?_
 refine wl_val (v_rem' rfl rfl hu0 (by omega) hk) rfl ?_
 refine wl_val (v_to (v' := .int .i64 (k : Nat)) (v_conv Try.underlying47 Try.underlying3 rfl) (by rw [wrap_i64 (by omega) (by omega)])) rfl ?_
 refine wl_val (v_add' (c := ((8 + k : Nat) : Int)) rfl rfl (by omega) (by omega) (by omega)) rfl ?_
 refine wl_call rfl (c_new ((8 + k : Nat) : Int) st.im) rfl ?_
 intro v13 w h13
 rw [if_neg (by omega)] at h13
 obtain ⟨p, ⟨b, s, wv, rfl, t13, hE⟩, rfl⟩ := h13
 have st := st.new t13 hE
 obtain ⟨n, hn⟩ : ∃ n, n = 8 + k := ⟨_, rfl⟩
 have hn8 : 8 ≤ n := by omega
 have hn2 : n ≤ 47 := by omega
 have st : St m0 m [] w0 w (diskO b s n wv (calm (List.replicate (64 * n) 0)) :: Es) := by rw [hn]; exact st
 obtain ⟨S', s', ho, hlog, hgen⟩ := open_new hn8 (by omega : n ≤ 16384)
 refine wl_val (v_move' (by conv => (lhs; whnf))) rfl ?_
 refine wl_val (v_extract rfl rfl) rfl ?_
 refine wl_val (v_extract rfl rfl) rfl ?_
 refine wl_val (v_assign' (by conv => (lhs; whnf))) rfl ?_
 refine wl_val (v_assign' (by conv => (lhs; whnf))) rfl ?_
 refine wl_nil ?_
 refine then_go ?_
 refine wc_seq ?_
 refine wc_seq ?_
 refine wc_region ?_
 refine wl_val (v_move' (by conv => (lhs; whnf))) rfl ?_
 refine wl_val (wl_valD (v_neq rfl rfl) (q := false) rfl) rfl ?_
 refine wl_val (v_move' (by conv => (lhs; whnf))) rfl ?_
 refine wl_on rfl rfl ?_
 refine wl_val (v_move' (by conv => (lhs; whnf))) rfl ?_
 refine wl_on rfl rfl ?_
 refine wl_val (v_eq_nil (p := some ⟨b, 0, none⟩) Try.underlying23 rfl rfl) rfl ?_
 refine wl_val (v_pick rfl) rfl ?_
 refine wl_nil ?_
 refine then_go ?_
 refine wc_false rfl ?_
 refine wc_skip ?_
 refine then_go ?_
 refine wc_seq ?_
 refine wc_region ?_
 refine wl_val (v_move' (by conv => (lhs; whnf))) rfl ?_
 refine wl_call rfl (c_sopen st (by simp) hn8 (by omega) ho hlog) rfl ?_
 rintro v24 w ⟨g, sb, mb, m1, wv1, lv, N', L', rfl, hmm1, _, hN, _, _, hpL, st⟩
 have hN0 : N' = [] := List.map_eq_nil_iff.1 hN
 subst hN0
 have hL0 : L' = [] := List.map_eq_nil_iff.1 (List.nil_perm.1 hpL)
 subst hL0
 refine wl_val (v_move' (by conv => (lhs; whnf))) rfl ?_
 refine wl_val (v_extract rfl rfl) rfl ?_
 refine wl_val (v_extract rfl rfl) rfl ?_
 refine wl_val (v_assign' (by conv => (lhs; whnf))) rfl ?_
 refine wl_val (v_assign' (by conv => (lhs; whnf))) rfl ?_
 refine wl_nil ?_
 refine then_go ?_
 refine wc_seq ?_
 refine wc_seq ?_
 refine wc_region ?_
 refine wl_val (v_move' (by conv => (lhs; whnf))) rfl ?_
 refine wl_val (v_neq rfl rfl) rfl ?_
 refine wl_nil ?_
 refine then_go ?_
 refine wc_false rfl ?_
 refine wc_skip ?_
 refine then_go ?_
 refine wc_seq ?_
 refine wc_region ?_
 refine wl_val (v_move' (by conv => (lhs; whnf))) rfl ?_
 refine wl_val (v_move' (by conv => (lhs; whnf))) rfl ?_
 refine wl_val (v_assign' (by conv => (lhs; whnf))) rfl ?_
 refine wl_val (v_assign' (by conv => (lhs; whnf))) rfl ?_
 refine wl_nil ?_
 refine then_go ?_
 refine wc_ret ?_
 exact ret2 rfl rfl ⟨m1, b, s, wv1, g, lv, sb, mb, n, S', s', hn8, hn2, hlog, hgen, hmm1, rfl, st⟩
end
end Go.Proofs.Ytladpaehbolghaa

namespace Go.Proofs.Ytladpaehbolghaa
open Go Go.RowKit K SH DK JR
def actR (W : List By) (o : OpV) (n : Nat) : Nat := if o.ag = true then resR (o.M.map (·.1)) n else appR W o.B n
section
variable {m0 m : Mem} {w0 w : World} {Es : List Ent}
theorem JR.LogOk.few {n : Nat} {S : By} {s : LG} {L : List By} (h : LogOk n S s L) : L.length ≤ 8192 ∧ ∀ x ∈ L, x.length ≤ 1048576 := by
 have h1 := sizeL_ge (l := L)
 have h2 := h.fit
 have h3 := h.nle
 exact ⟨by omega, fun x hx => (h.okr x hx).2⟩
end
end Go.Proofs.Ytladpaehbolghaa

namespace Go.Proofs.Ytladpaehbolghaa
open Go Go.RowKit K SH GC JR OS
open DK hiding By
section
variable {m0 m : Mem} {w0 w : World} {Es : List Ent}
abbrev wkA (b : Nat) : List AcT := [(⟨[97], true, [120]⟩, .slice (some ⟨b, 0, none⟩) 1 1), (⟨[98], false, []⟩, .slice none 0 0)]
abbrev wkL : List Ac := [⟨[97], true, [120]⟩, ⟨[98], false, []⟩]
theorem wk_chk : chkL wkL = 0 := by
 unfold chkL
 rw [if_pos]
 refine ⟨by decide, ?_, by decide⟩
 intro a ha
 rcases List.mem_cons.1 ha with rfl | ha
 ·exact ⟨by decide, by decide, .inl rfl, by decide⟩
 ·rw [List.mem_singleton.1 ha]; exact ⟨by decide, by decide, .inr rfl, by decide⟩
theorem wk_done : doneS [] wkL = [([97], [120])] := by decide
theorem wk_app : applyR [] [] wkL 8 = ([([97], [120])], [batB wkL], 0) := by
 have h1 : (batB wkL).length ≤ 73 := by
  unfold batB
  rw [List.length_append]
  have h := flat_lenA (L := wkL) (by decide)
  have h2 : bulkA wkL + 30 * wkL.length = 63 := by decide
  have h3 := numB_len10 (n := wkL.length) (by decide)
  omega
 have h0 : 1 ≤ (batB wkL).length := by
  unfold batB
  rw [List.length_append]
  have := numB_pos (n := wkL.length)
  omega
 have h2 : appR [] (batB wkL) 8 = 0 := by
  unfold appR
  have hc : checkE (batB wkL) = 0 := by unfold checkE; rw [if_pos ⟨h0, by omega⟩]
  rw [if_neg (by rw [hc]; decide), if_pos]
  unfold sizeL recL
  simp
  omega
 unfold applyR
 rw [if_neg (by rintro (h | h); exact h wk_chk; cases h), if_pos h2, wk_done]
 rfl
theorem c_works15 (st : St m0 m [] w0 w Es) : Ret Try.prog 7 #[] w fun v w' => (∃ m', (∀ k o, m k = some o → m' k = some o) ∧ St m0 m' [] w0 w' Es) ∧ v = .bool true := by
 refine ret_of Try.call7 Try.func7 rfl Try.ntmps7 Try.results7 rfl ?_
 refine wc_seq ?_
 refine wc_region ?_
 refine wl_val (v_assign' (by conv => (lhs; whnf))) rfl ?_
 refine wl_nil ?_
 refine then_go ?_
 refine wc_seq ?_
 refine wc_region ?_
 refine wl_call rfl (c_new 8 st.im) rfl ?_
 intro v9 w h9
 rw [if_neg (by decide)] at h9
 obtain ⟨p, ⟨b, s, wv, rfl, t9, hE⟩, rfl⟩ := h9
 have st := st.new t9 hE
 obtain ⟨S1, s1, ho, hlog, hgen⟩ := open_new (n := 8) (by decide) (by decide)
 have st : St m0 m [] w0 w (diskO b s 8 wv (calm (List.replicate (64 * 8) 0)) :: Es) := st
 refine wl_val (v_move' (by conv => (lhs; whnf))) rfl ?_
 refine wl_val (v_extract rfl rfl) rfl ?_
 refine wl_val (v_extract rfl rfl) rfl ?_
 refine wl_val (v_assign' (by conv => (lhs; whnf))) rfl ?_
 refine wl_val (v_assign' (by conv => (lhs; whnf))) rfl ?_
 refine wl_nil ?_
 refine then_go ?_
 refine wc_seq ?_
 refine wc_seq ?_
 refine wc_region ?_
 refine wl_val (v_move' (by conv => (lhs; whnf))) rfl ?_
 refine wl_val (wl_valD (v_neq rfl rfl) (q := false) rfl) rfl ?_
 refine wl_val (v_move' (by conv => (lhs; whnf))) rfl ?_
 refine wl_on rfl rfl ?_
 refine wl_val (v_move' (by conv => (lhs; whnf))) rfl ?_
 refine wl_on rfl rfl ?_
 refine wl_val (v_eq_nil (p := some ⟨b, 0, none⟩) Try.underlying23 rfl rfl) rfl ?_
 refine wl_val (v_pick rfl) rfl ?_
 refine wl_nil ?_
 refine then_go ?_
 refine wc_false rfl ?_
 refine wc_skip ?_
 refine then_go ?_
 refine wc_seq ?_
 refine wc_region ?_
 refine wl_val (v_move' (by conv => (lhs; whnf))) rfl ?_
 refine wl_call rfl (c_sopen st List.length_replicate (by decide) (by decide) ho hlog) rfl ?_
 rintro v20 w ⟨g, sb, mb, m1, wv1, lv, N', L', rfl, hmm1, _, hN, _, _, hpL, st⟩
 have hN0 : N' = [] := List.map_eq_nil_iff.1 hN
 subst hN0
 have hL0 : L' = [] := List.map_eq_nil_iff.1 (List.nil_perm.1 hpL)
 subst hL0
 refine wl_val (v_move' (by conv => (lhs; whnf))) rfl ?_
 refine wl_val (v_extract rfl rfl) rfl ?_
 refine wl_val (v_extract rfl rfl) rfl ?_
 refine wl_val (v_assign' (by conv => (lhs; whnf))) rfl ?_
 refine wl_val (v_assign' (by conv => (lhs; whnf))) rfl ?_
 refine wl_nil ?_
 refine then_go ?_
 refine wc_seq ?_
 refine wc_seq ?_
 refine wc_region ?_
 refine wl_val (v_move' (by conv => (lhs; whnf))) rfl ?_
 refine wl_val (wl_valD (v_neq rfl rfl) (q := false) rfl) rfl ?_
 refine wl_val (v_move' (by conv => (lhs; whnf))) rfl ?_
 refine wl_on rfl rfl ?_
 refine wl_val (v_move' (by conv => (lhs; whnf))) rfl ?_
 refine wl_on rfl rfl ?_
 refine wl_val (v_eq_nil (p := some ⟨sb, 0, none⟩) Try.underlying24 rfl rfl) rfl ?_
 refine wl_val (v_pick rfl) rfl ?_
 refine wl_val (v_move' (by conv => (lhs; whnf))) rfl ?_
 refine wl_on rfl rfl ?_
 refine wl_val (v_move' (by conv => (lhs; whnf))) rfl ?_
 refine wl_on rfl rfl ?_
 refine wl_byte1 120 Try.underlying31 TF.t5 TF.z5 rfl st rfl ?_
 intro b31 w st
 refine wl_on rfl rfl ?_
 refine wl_constB Try.underlying31 Try.underlying5 rfl st (by simp) rfl ?_
 intro m2 w hmm2 hm2 st
 have hb31 : SlM m2 (.slice (some ⟨b31, 0, none⟩) 1 1) 1 [(120 : UInt8)].length (bs [120]) := by
  exact SlM.ofBlock (o := 0) (cap := 1) (l := [120]) (pre := []) (post := []) hm2 rfl rfl (Nat.le_refl _)
 refine wl_on rfl rfl ?_
 refine wl_val (v_build (c' := (acC ⟨[97], true, [120]⟩ (.slice (some ⟨b31, 0, none⟩) 1 1)).toArray) [(0, .string (strB [97])), (1, .bool true), (2, .slice (some ⟨b31, 0, none⟩) 1 1)] TF.z33 TF.p33 rfl (fill_one [] [.string ⟨#[]⟩] [.bool false, .slice none 0 0] rfl rfl rfl (fill_one [.string (strB [97])] [.bool false] [.slice none 0 0] rfl rfl rfl (fill_one [.string (strB [97]), .bool true] [.slice none 0 0] [] rfl rfl rfl rfl)))) rfl ?_
 refine wl_on rfl rfl ?_
 refine wl_val (v_build (c' := (acC ⟨[98], false, []⟩ (.slice none 0 0)).toArray) [(0, .string (strB [98]))] TF.z33 TF.p33 rfl (fill_one [] [.string ⟨#[]⟩] [.bool false, .slice none 0 0] rfl rfl rfl rfl)) rfl ?_
 refine wl_on rfl rfl ?_
 refine wl_lsTwo (acC ⟨[97], true, [120]⟩ (.slice (some ⟨b31, 0, none⟩) 1 1)) (acC ⟨[98], false, []⟩ (.slice none 0 0)) Try.underlying22 TF.t33 TF.z33 (by decide) (by decide) rfl rfl rfl rfl st rfl ?_
 intro b35 w st
 have st : St m0 m2 [] w0 w (acE (.slice (some ⟨b35, 0, none⟩) 2 2) (wkA b31) :: lgE g b s 8 s1 lv wv1 S1 [] (stE sb g mb [] Es)) := st.rowShut 0 (b := b35) (k := 2) (cap := 2) (size := 3) rfl (by decide) rfl (by decide) rfl
 obtain ⟨m3, hg3, hls, st⟩ := st.keepLs (i := 0) rfl (fun _ _ => rfl)
 have hA : AcsM m3 (.slice (some ⟨b35, 0, none⟩) 2 2) (wkA b31) := ⟨hls, fun a ha => by
  rcases List.mem_cons.1 ha with rfl | ha
  ·exact ⟨by show 1 ≤ 9223372036854775807; omega, hb31.mono hg3.le⟩
  ·rw [List.mem_singleton.1 ha]; exact ⟨by show 1 ≤ 9223372036854775807; omega, SlM.nil⟩⟩
 have st : St m0 m3 [] w0 w (lgE g b s 8 s1 lv wv1 S1 [] (stE sb g mb [] Es)) := st
 have hmm3 : ∀ k o, m k = some o → m3 k = some o := fun k o h => hg3.le k o (hmm2 k o (hmm1 k o h))
 refine wl_on rfl rfl ?_
 refine wl_call rfl (c_sapply (N := []) (L := []) (M := []) st hlog (by rw [hgen]; decide) (by intro x hx; cases hx) (by intro x hx; cases hx) (by simp [Risen]) (List.Perm.refl _) hA (by simp) (by decide) (by simp [bulkK, bulkA])) rfl ?_
 rintro v36 w ⟨m4, wv4, lv4, N4, S4, sl4, L4, hmm4, rfl, _, _, _, _, _, hL4, _, hp4, st⟩
 have hap : applyR [] (([] : List (By × Value)).map (·.1)) ((wkA b31).map (·.1)) 8 = ([([97], [120])], [batB wkL], 0) := wk_app
 rw [hap] at hp4 ⊢
 refine wl_on rfl rfl ?_
 refine wl_val (wl_valD (v_neq rfl rfl) (q := false) rfl) rfl ?_
 refine wl_val (v_pick rfl) rfl ?_
 refine wl_nil ?_
 refine then_go ?_
 refine wc_false rfl ?_
 refine wc_skip ?_
 refine then_go ?_
 refine wc_seq ?_
 refine wc_region ?_
 refine wl_val (v_move' (by conv => (lhs; whnf))) rfl ?_
 refine wl_call rfl (c_sget (k := [97]) st hL4 (by simp [Risen]) hp4 (by simp)) rfl ?_
 rintro v41 w ⟨u, hv41, st⟩
 have e41 : getKV ([97] : By) ([([97], [120])] : Kys) = some [120] := by decide
 rw [e41] at hv41 st
 subst hv41
 obtain ⟨m5, hg5, hm5, st5⟩ := st.freezeR (i := 0) rfl (by simp)
 have hu : SlM m5 u 1 [(120 : UInt8)].length (bs [120]) := row_SlM (m := m5) (st.at (i := 0) rfl) hm5
 have st : St m0 m5 [] w0 w (lgE g b s 8 sl4 lv4 wv4 S4 N4 (stE sb g mb L4 Es)) := st5
 have hL5 := hL4.mono hg5.le
 refine wl_val (v_move' (by conv => (lhs; whnf))) rfl ?_
 refine wl_val (v_extract rfl rfl) rfl ?_
 refine wl_val (v_extract rfl rfl) rfl ?_
 refine wl_val (v_assign' (by conv => (lhs; whnf))) rfl ?_
 refine wl_val (v_assign' (by conv => (lhs; whnf))) rfl ?_
 refine wl_nil ?_
 refine then_go ?_
 refine wc_seq ?_
 refine wc_region ?_
 refine wl_val (v_move' (by conv => (lhs; whnf))) rfl ?_
 refine wl_call rfl (c_sget (k := [98]) st hL5 (by simp [Risen]) hp4 (by simp)) rfl ?_
 rintro v46 w ⟨u2, hv46, st⟩
 have e46 : getKV ([98] : By) ([([97], [120])] : Kys) = none := by decide
 rw [e46] at hv46 st
 subst hv46
 have st : St m0 m5 [] w0 w (lgE g b s 8 sl4 lv4 wv4 S4 N4 (stE sb g mb L4 Es)) := st.drop 0
 refine wl_val (v_move' (by conv => (lhs; whnf))) rfl ?_
 refine wl_val (v_extract rfl rfl) rfl ?_
 refine wl_val (v_extract rfl rfl) rfl ?_
 refine wl_val (v_assign' (by conv => (lhs; whnf))) rfl ?_
 refine wl_val (v_assign' (by conv => (lhs; whnf))) rfl ?_
 refine wl_nil ?_
 refine then_go ?_
 refine wc_seq ?_
 refine wc_region ?_
 refine wl_val (v_move' (by conv => (lhs; whnf))) rfl ?_
 refine wl_val (v_move' (by conv => (lhs; whnf))) rfl ?_
 refine wl_on rfl rfl ?_
 refine wl_val (v_move' (by conv => (lhs; whnf))) rfl ?_
 refine wl_on rfl rfl ?_
 refine wl_val (v_b2s Try.underlying31 Try.underlying5 Try.underlying9 st.im hu rfl) rfl ?_
 refine wl_on rfl rfl ?_
 refine wl_val (wl_valD (v_eqs (a := [120]) (b := [120]) rfl rfl) (q := true) rfl) rfl ?_
 refine wl_val (v_pick rfl) rfl ?_
 refine wl_val (v_move' (by conv => (lhs; whnf))) rfl ?_
 refine wl_on rfl rfl ?_
 refine wl_val (v_move' (by conv => (lhs; whnf))) rfl ?_
 refine wl_on rfl rfl ?_
 refine wl_val (v_not rfl) rfl ?_
 refine wl_val (v_pick rfl) rfl ?_
 refine wl_val (v_move' (by conv => (lhs; whnf))) rfl ?_
 refine wl_on rfl rfl ?_
 refine wl_val (v_move' (by conv => (lhs; whnf))) rfl ?_
 refine wl_on rfl rfl ?_
 refine wl_call rfl (c_slen st) rfl ?_
 rintro v61 w ⟨t61, rfl⟩
 have st := st.pure t61
 have hl4 : L4.length = 1 := by have := hp4.length_eq; rw [length_kvs] at this; exact this.symm
 refine wl_on rfl rfl ?_
 refine wl_val (v_eqlT (by rw [hl4]; rfl) rfl rfl) rfl ?_
 refine wl_val (v_pick rfl) rfl ?_
 refine wl_val (v_assign' (by conv => (lhs; whnf))) rfl ?_
 refine wl_nil ?_
 refine then_go ?_
 refine wc_ret ?_
 exact ret1 rfl ⟨⟨m5, fun k o h => hg5.le k o (hmm4 k o (hmm3 k o h)), ((((st.drop 0).drop 0).drop 0).drop 0).drop 0⟩, rfl⟩
end
end Go.Proofs.Ytladpaehbolghaa

namespace Go.Proofs.Ytladpaehbolghaa
open Go Go.RowKit K SH GC JR OS
open DK hiding By
end Go.Proofs.Ytladpaehbolghaa

namespace Go.Proofs.Ytladpaehbolghaa
open Go Go.RowKit Go.ChangeShapes Go.WideShapes K SH GC JR OS
open DK hiding By
section
variable {H : Type} {enc : TypeId × Value → H} {w : World} {sp : Nat → Bool} {held : Bool} {fuel : Nat} {x : DataW H × List MemPlace} {v : Value} {cs : List Value}
theorem trod_strB (h : DataW.trod enc Try.prog w 0 sp held fuel 9 cs = some x) : ∃ s : By, cs = [.string (strB s)] ∧ s.length ≤ 9223372036854775807 ∧ s.length ≤ Rows.uptoBulk x.1 := by
 obtain ⟨s, q, hd, hs⟩ := DataW.trod_string Try.underlying9 h
 refine ⟨s.data.toList, by rw [q]; rfl, by unfold maxLen at hs; simpa using hs, ?_⟩
 rw [hd]
 simp [Rows.uptoBulk]
theorem trod_ac (h : DataW.trod enc Try.prog w 0 sp held fuel 33 cs = some x) : ∃ a : AcT, cs = acP a ∧ AcOk (heapM w) a.1 a.2 ∧ a.1.key.length ≤ Rows.uptoBulk x.1 ∧ a.1.data.length ≤ Rows.uptoBulk x.1 := by
 have hl := trod_len Try.underlying33 TF.t33 h
 obtain ⟨_, y0, e0, hy0⟩ := trod_segB TF.f33_0 TF.t9 h
 obtain ⟨_, _, e1⟩ := trod_seg TF.f33_1 TF.t4 h
 obtain ⟨_, y2, e2, hy2⟩ := trod_segB TF.f33_2 TF.t31 h
 match cs, hl with
 | [a, b, c], _ =>
  obtain ⟨k, q0, hk1, hk2⟩ := trod_strB e0
  obtain ⟨s, q1⟩ := trod_bo e1
  obtain ⟨d, hd, hdl⟩ := open_bytesB (v := c) e2
  have q0 : [a] = [.string (strB k)] := q0
  have q1 : [b] = [.bool s] := q1
  rw [List.cons.injEq] at q0 q1
  exact ⟨(⟨k, s, d⟩, c), by rw [q0.1, q1.1]; rfl, ⟨hk1, hd⟩, Nat.le_trans hk2 hy0, Nat.le_trans hdl hy2⟩
theorem open_actsB (h : DataW.trod enc Try.prog w 0 sp held fuel 22 [v] = some x) : ∃ A : List AcT, AcsM (heapM w) v A ∧ A.length ≤ Rows.uptoBulk x.1 ∧ ∀ a ∈ A, a.1.key.length ≤ Rows.uptoBulk x.1 ∧ a.1.data.length ≤ Rows.uptoBulk x.1 := by
 obtain ⟨A, h1, h2, h3⟩ := trod_listB (c := acP) (Q := fun a n => AcOk (heapM w) a.1 a.2 ∧ a.1.key.length ≤ n ∧ a.1.data.length ≤ n) Try.underlying22 TF.t33 (by decide) (fun h => by obtain ⟨o, q1, q2, q3⟩ := trod_ac h; exact ⟨o, q1, q2, q3⟩) (fun h hle => ⟨h.1, Nat.le_trans h.2.1 hle, Nat.le_trans h.2.2 hle⟩) h
 exact ⟨A, ⟨h1, fun a ha => (h2 a ha).1⟩, h3, fun a ha => (h2 a ha).2⟩
set_option maxRecDepth 100000 in
theorem open_str {W : World} {r : Reach} {base : Nat} {d : DataW H} {p : List MemPlace} (hv : Value.okWide Try.prog W r base 9 v) (h : DataW.Trod enc Try.prog w 0 sp held 9 v d p) : ∃ s : By, v = .string (strB s) ∧ s.length ≤ 9223372036854775807 := by
 obtain ⟨s, rfl⟩ := okWide_string Try.underlying9 hv
 obtain ⟨fu, hf⟩ := h
 obtain ⟨l, q, hl, _⟩ := trod_strB hf
 exact ⟨l, by simpa [Value.cells] using q, hl⟩
theorem shortA {A : List AcT} {n : Nat} (h1 : A.length ≤ n) (h2 : ∀ a ∈ A, a.1.key.length ≤ n ∧ a.1.data.length ≤ n) (hn : n ≤ 1048576) : ShortA A := ⟨Nat.le_trans h1 hn, fun a ha => ⟨Nat.le_trans (h2 a ha).1 hn, Nat.le_trans (h2 a ha).2 hn⟩⟩
end
end Go.Proofs.Ytladpaehbolghaa

namespace Go.Proofs.Ytladpaehbolghaa
open Go Go.RowKit K SH GC JR OS
namespace OS
theorem oneS_mem {M : Kys} {a : Ac} {x : By × By} : x ∈ oneS M a ↔ (x ∈ M ∧ x.1 ≠ a.key) ∨ (a.set = true ∧ x = (a.key, a.data)) := by
 unfold oneS
 rw [List.mem_append, List.mem_append, List.mem_filter, List.mem_filter, decide_eq_true_eq, decide_eq_true_eq]
 constructor
 ·rintro (⟨h1, h2⟩ | h | ⟨h1, h2⟩)
  ·exact .inl ⟨h1, fun e => by rw [e] at h2; exact List.lt_irrefl _ h2⟩
  ·by_cases hs : a.set = true
   ·rw [if_pos hs, List.mem_singleton] at h
    exact .inr ⟨hs, h⟩
   ·rw [if_neg hs] at h
    cases h
  ·exact .inl ⟨h1, fun e => by rw [e] at h2; exact List.lt_irrefl _ h2⟩
 ·rintro (⟨h1, h2⟩ | ⟨hs, h⟩)
  ·by_cases hl : x.1 < a.key
   ·exact .inl ⟨h1, hl⟩
   ·exact .inr (.inr ⟨h1, (List.le_iff_lt_or_eq.1 (List.not_lt.1 hl)).resolve_right fun e => h2 e.symm⟩)
  ·exact .inr (.inl (by rw [if_pos hs, List.mem_singleton]; exact h))
theorem rise_ext {M X : Kys} (hM : Risen M) (hX : Risen X) (h : ∀ x, x ∈ M ↔ x ∈ X) : M = X := by
 have nd : ∀ {M : Kys}, Risen M → M.Nodup := fun {M} h => (List.pairwise_map.1 h).imp fun h => by rintro rfl; exact List.lt_irrefl _ h
 have hp : M.Perm X := (List.perm_ext_iff_of_nodup (nd hM) (nd hX)).2 h
 exact hp.eq_of_pairwise (le := fun x y => x.1 < y.1) (fun a b _ _ h1 h2 => (List.lt_irrefl _ (List.lt_trans h1 h2)).elim) (List.pairwise_map.1 hM) (List.pairwise_map.1 hX)
theorem oneS_comm {M : Kys} {a b : Ac} (h : Risen M) (hk : a.key ≠ b.key) : oneS (oneS M a) b = oneS (oneS M b) a := by
 refine rise_ext (oneS_rise (oneS_rise h)) (oneS_rise (oneS_rise h)) fun x => ?_
 rw [oneS_mem, oneS_mem, oneS_mem, oneS_mem]
 constructor
 ·rintro (⟨⟨h1, h2⟩ | ⟨h1, h2⟩, h3⟩ | ⟨h1, h2⟩)
  ·exact .inl ⟨.inl ⟨h1, h3⟩, h2⟩
  ·exact .inr ⟨h1, h2⟩
  ·exact .inl ⟨.inr ⟨h1, h2⟩, by rw [h2]; exact hk.symm⟩
 ·rintro (⟨⟨h1, h2⟩ | ⟨h1, h2⟩, h3⟩ | ⟨h1, h2⟩)
  ·exact .inl ⟨.inl ⟨h1, h3⟩, h2⟩
  ·exact .inr ⟨h1, h2⟩
  ·exact .inl ⟨.inr ⟨h1, h2⟩, by rw [h2]; exact hk⟩
theorem doneS_one {B : List Ac} : ∀ {M : Kys} {a : Ac}, Risen M → (∀ b ∈ B, a.key ≠ b.key) → doneS (oneS M a) B = oneS (doneS M B) a := by
 induction B with
 | nil => intro M a _ _; rfl
 | cons b B ih =>
  intro M a h hk
  have e : doneS (oneS M a) (b :: B) = doneS (oneS (oneS M a) b) B := rfl
  rw [e, oneS_comm h (hk b List.mem_cons_self), ih (oneS_rise h) fun c hc => hk c (List.mem_cons_of_mem _ hc)]
  rfl
theorem doneS_comm {A B : List Ac} : ∀ {M : Kys}, Risen M → (∀ a ∈ A, ∀ b ∈ B, a.key ≠ b.key) → doneS (doneS M A) B = doneS (doneS M B) A := by
 induction A with
 | nil => intro M _ _; rfl
 | cons a A ih =>
  intro M h hk
  have e : doneS M (a :: A) = doneS (oneS M a) A := rfl
  rw [e, ih (oneS_rise h) fun x hx => hk x (List.mem_cons_of_mem _ hx), doneS_one h fun b hb => hk a List.mem_cons_self b hb]
  rfl
theorem apply_ok {M : Kys} {R : List By} {A : List Ac} {n : Nat} (hc : chkL A = 0) : ((applyR M R A n).2.2 = 0 ∧ (applyR M R A n).1 = doneS M A) ∨ (applyR M R A n).2.2 = 13 := by
 unfold applyR
 split
 ·rename_i h
  have h : A = [] := h.resolve_left fun h => h hc
  subst h
  exact .inl ⟨hc, rfl⟩
 ·split
  ·exact .inl ⟨rfl, rfl⟩
  ·split
   ·exact .inr rfl
   ·exact .inl ⟨rfl, rfl⟩
theorem any13 {a b c d : Nat} (ha : a = 0 ∨ a = 13) (hb : b = 0 ∨ b = 13) (hc : c = 0 ∨ c = 13) (hd : d = 0 ∨ d = 13)
  (h : (((decide (¬ (a : Int) = 0) || decide (¬ (b : Int) = 0)) || decide (¬ (c : Int) = 0)) || decide (¬ (d : Int) = 0)) = true) :
  (((decide ((a : Int) = 13) || decide ((b : Int) = 13)) || decide ((c : Int) = 13)) || decide ((d : Int) = 13)) = true := by
 simp only [Bool.or_eq_true, decide_eq_true_eq] at h ⊢
 omega
theorem none13 {a b c d : Nat} (h : (((decide (¬ (a : Int) = 0) || decide (¬ (b : Int) = 0)) || decide (¬ (c : Int) = 0)) || decide (¬ (d : Int) = 0)) = false) : a = 0 ∧ b = 0 ∧ c = 0 ∧ d = 0 := by
 simp only [Bool.or_eq_false_iff, decide_eq_false_iff_not] at h
 omega
end OS
end Go.Proofs.Ytladpaehbolghaa

namespace Go.Proofs.Ytladpaehbolghaa
open Go Go.RowKit K SH GC JR OS
open DK hiding By
theorem v_eq_nilfunc {P : Program} {r : Fr} {w : World} {ty : TypeId} {T U : TypeId} {x y : Operand} {ps rs : Array TypeId} {vd : Bool} {f : Fn} {a b : Array Value} (hT : P.underlying T = some (.func ps rs vd)) (hx : ev r x = .func f a b) (hy : ev r y = .nilFunc) : Val P (.binOp .eql T x y U) ty r w (.bool false) w := by
 intro _ _ _ _
 have h : (Op.equal T (.func f a b) .nilFunc).run P w = .ok false w := by
  unfold Op.equal
  rw [show Op.maxDepth = 9999 + 1 from rfl, Op.equalIn]
  simp only [Sem.run_bind, run_underlying hT, Result.andThen_ok]
  rfl
 simp [execOp, eqGuard, binOp, hx, hy, h]
section
variable {m0 m : Mem} {F : List Nat} {w0 w : World} {Es Xs : List Ent}
theorem c_slenX {sb mb g : Nat} {L : List (By × DV)} (i : Nat) (st : St m0 m F w0 w Xs) (hi : Xs[i]? = some (K.blk sb #[.pointer (some ⟨g, 0, none⟩), .map (some mb)] 54)) (hj : Xs[i + 1]? = some (kmE mb L)) :
  Ret Try.prog 15 #[.pointer (some ⟨sb, 0, none⟩)] w fun v w' => Tch w w' [] [] ∧ v = .int .i64 L.length := by
 refine ret_of Try.call15 Try.func15 rfl Try.ntmps15 Try.results15 rfl ?_
 refine wc_seq ?_
 refine wc_region ?_
 refine wl_val (v_assign' (by conv => (lhs; whnf))) rfl ?_
 refine wl_nil ?_
 refine then_go ?_
 refine wc_seq ?_
 refine wc_region ?_
 refine wl_val (v_move' (by conv => (lhs; whnf))) rfl ?_
 refine wl_val (v_nil rfl) rfl ?_
 refine wl_val (v_fa TF.f54_1 rfl) rfl ?_
 refine wl_val (v_load rfl (st.reads (v := .map (some mb)) i hi TF.t52 rfl)) rfl ?_
 refine wl_val (v_mapLen (i + 1) st hj Try.underlying52 rfl) rfl ?_
 refine wl_val (v_assign' (by conv => (lhs; whnf))) rfl ?_
 refine wl_nil ?_
 refine then_go ?_
 refine wc_ret ?_
 exact ret1 rfl ⟨Tch.refl _ _, rfl⟩
abbrev alE (kv vv : Value) (E : List (By × DV)) (T : List Ent → List Ent) (Es : List Ent) : List Ent := ksE kv E :: vsE vv E :: T (rowsE (E.map (·.2)) ++ Es)
theorem kvs_app {A B : List (By × DV)} : kvs (A ++ B) = kvs A ++ kvs B := List.map_append ..
theorem c_sallK {sb mb g b s n : Nat} {sl : LG} {lv wv : Value} {S : By} {N : List (By × Value)} {L : List (By × DV)} {M : Kys}
  (st : St m0 m [] w0 w (lgE g b s n sl lv wv S N (stE sb g mb L Es))) (hL : KvOk m L) (hM : Risen M) (hp : M.Perm (kvs L)) (hl : L.length ≤ 1000000) :
  Ret Try.prog 9 #[.pointer (some ⟨sb, 0, none⟩)] w fun v w' => ∃ kv vv E m', v = .tuple #[.agg #[kv, vv], .bool true] ∧ kvs E = M ∧ (∀ k o, m k = some o → m' k = some o) ∧ St m0 m' [] w0 w' (alE kv vv E (fun X => lgE g b s n sl lv wv S N (stE sb g mb L X)) Es) := by
 have hMl : M.length = L.length := by have := hp.length_eq; rw [length_kvs] at this; exact this
 refine ret_ofX Try.call9 Try.func9 rfl Try.ntmps9 Try.results9 rfl ?_
 refine wx_seqc ?_
 refine wc_region ?_
 refine wl_box (v := .pointer (some ⟨sb, 0, none⟩)) rfl st rfl ?_
 intro b1 w st
 refine wl_alloc TF.z37 st rfl ?_
 intro b2 w st
 refine wl_alloc TF.z4 st rfl ?_
 intro b3 w st
 refine wl_nil ?_
 refine then_go ?_
 refine wx_seqc ?_
 refine wc_region ?_
 refine wl_val (v_build (c' := #[.slice none 0 0, .slice none 0 0]) [] TF.z37 TF.p37 rfl rfl) rfl ?_
 refine wl_alloc TF.z37 st rfl ?_
 intro b4 w st
 refine wl_storeW (cs := #[.slice none 0 0, .slice none 0 0]) 0 st rfl TF.t37 rfl rfl rfl rfl (by simp [Value.oneCell']) ?_
 intro w st
 refine wl_nil ?_
 refine then_go ?_
 refine wx_seqc ?_
 refine wc_region ?_
 refine wl_val (v_load rfl (st.reads (v := .pointer (some ⟨sb, 0, none⟩)) 3 rfl TF.t24 rfl)) rfl ?_
 have st : St m0 m [] w0 w ([K.blk b4 #[.slice none 0 0, .slice none 0 0] 37, K.blk b3 #[.bool false] 4, K.blk b2 #[.slice none 0 0, .slice none 0 0] 37, K.blk b1 #[.pointer (some ⟨sb, 0, none⟩)] 24] ++ (lgE g b s n sl lv wv S N (stE sb g mb L []) ++ Es)) := st
 have st := st.perm (show List.Perm _ (lgE g b s n sl lv wv S N (stE sb g mb L []) ++ ([K.blk b4 #[.slice none 0 0, .slice none 0 0] 37, K.blk b3 #[.bool false] 4, K.blk b2 #[.slice none 0 0, .slice none 0 0] 37, K.blk b1 #[.pointer (some ⟨sb, 0, none⟩)] 24] ++ Es)) by rw [← List.append_assoc, ← List.append_assoc]; exact List.perm_append_comm.append_right _)
 refine wl_call rfl (c_sall st hL hM hp (by omega)) rfl ?_
 rintro v10 w ⟨ba, m1, av, A, rfl, hmm1, hA, hAM, hba, st⟩
 have st : St m0 m1 [] w0 w (lgE g b s n sl lv wv S N (stE sb g mb L []) ++ ([K.blk b4 #[.slice none 0 0, .slice none 0 0] 37, K.blk b3 #[.bool false] 4, K.blk b2 #[.slice none 0 0, .slice none 0 0] 37, K.blk b1 #[.pointer (some ⟨sb, 0, none⟩)] 24] ++ Es)) := st
 have st := st.perm (show List.Perm _ ([K.blk b4 #[.slice none 0 0, .slice none 0 0] 37, K.blk b3 #[.bool false] 4, K.blk b2 #[.slice none 0 0, .slice none 0 0] 37, K.blk b1 #[.pointer (some ⟨sb, 0, none⟩)] 24] ++ (lgE g b s n sl lv wv S N (stE sb g mb L []) ++ Es)) by rw [← List.append_assoc, ← List.append_assoc]; exact List.perm_append_comm.append_right _)
 have st := nilRow st 31 1
 have st := nilRow st 9 1
 have hAl : A.length = M.length := by have := congrArg List.length hAM; simpa [actsOf] using this
 have hAe : ∀ i (h : i < A.length), A[i].1 = ⟨(M[i]'(by omega)).1, true, (M[i]'(by omega)).2⟩ := fun i h => by
  have h1 : (A.map (·.1))[i]'(by simpa using h) = (actsOf M)[i]'(by simp [actsOf]; omega) := by simp [hAM]
  simpa [actsOf] using h1
 have hAd : ∀ a ∈ A, a.1.data.length ≤ 1048576 := fun a ha => by
  have h1 : a.1 ∈ actsOf M := by rw [← hAM]; exact List.mem_map.2 ⟨a, ha, rfl⟩
  obtain ⟨z, hz, e⟩ := List.mem_map.1 h1
  obtain ⟨y, hy, e2⟩ := List.mem_map.1 (hp.mem_iff.1 hz)
  rw [← e, ← e2]
  exact (hL y hy).2.1
 obtain ⟨T, hT⟩ : ∃ T : List Ent → List Ent, T = fun X => lgE g b s n sl lv wv S N (stE sb g mb L X) := ⟨_, rfl⟩
 have st : St m0 m1 [] w0 w (ksE (.slice none 0 0) [] :: vsE (.slice none 0 0) [] :: K.blk b4 #[.slice none 0 0, .slice none 0 0] 37 :: K.blk b3 #[.bool false] 4 :: K.blk b2 #[.slice none 0 0, .slice none 0 0] 37 :: K.blk b1 #[.pointer (some ⟨sb, 0, none⟩)] 24 :: lgE g b s n sl lv wv S N (stE sb g mb L (rowsE (([] : List (By × DV)).map (·.2)) ++ Es))) := st
 refine wl_val (v_assign' (by conv => (lhs; whnf))) rfl ?_
 refine wl_nil ?_
 refine then_go ?_
 refine wx_seqc ?_
 refine wc_seq ?_
 refine wc_region ?_
 refine wl_val (v_move' (by conv => (lhs; whnf))) rfl ?_
 refine wl_val (v_eq_nilfunc Try.underlying59 rfl rfl) rfl ?_
 refine wl_nil ?_
 refine then_go ?_
 refine wc_false rfl ?_
 refine wc_skip ?_
 refine then_go ?_
 refine wx_cut (fun ds r w' => ∃ (D l : Nat) (o : Obj) (kv vv : Value) (E : List (By × DV)), ds = [K.mark D] ∧ r 2 = .pointer (some ⟨b2, 0, none⟩) ∧ r 3 = .pointer (some ⟨b3, 0, none⟩) ∧ r 4 = .pointer (some ⟨b4, 0, none⟩) ∧ kvs E = M ∧ kv.oneCell' = true ∧ vv.oneCell' = true ∧ St m0 m1 [] w0 w' (objE l o :: objE D (.deferred (some [])) :: ksE kv E :: vsE vv E :: K.blk b4 #[kv, vv] 37 :: K.blk b3 #[.bool false] 4 :: K.blk b2 #[.slice none 0 0, .slice none 0 0] 37 :: K.blk b1 #[.pointer (some ⟨sb, 0, none⟩)] 24 :: lgE g b s n sl lv wv S N (stE sb g mb L (rowsE (E.map (·.2)) ++ Es)))) ?_ ?_
 ·refine wx_seqc ?_
  refine wc_region ?_
  refine wl_val (v_move' (by conv => (lhs; whnf))) rfl ?_
  refine wl_nil ?_
  refine then_go ?_
  refine wx_block ?_
  refine wx_range (lb := [.pointer (some ⟨ba, 0, none⟩)]) rfl Try.call36 st ?_
  intro l D fn tmps rec w1 hrec htm hval st
  refine Calls.mono (c_sall1 (l := l) (mA := m1)
   (J := fun i W => ∃ (kv vv : Value) (E : List (By × DV)), kvs E = M.take i ∧ kv.oneCell' = true ∧ vv.oneCell' = true ∧ St m0 m1 [] w0 W (objE l (.loop (rec .ready none)) :: objE D (.deferred (some [])) :: ksE kv E :: vsE vv E :: K.blk b4 #[kv, vv] 37 :: K.blk b3 #[.bool false] 4 :: K.blk b2 #[.slice none 0 0, .slice none 0 0] 37 :: K.blk b1 #[.pointer (some ⟨sb, 0, none⟩)] 24 :: lgE g b s n sl lv wv S N (stE sb g mb L (rowsE (E.map (·.2)) ++ Es))))
   (Jx := fun _ => False) (fun _ _ ⟨_, _, _, _, _, _, h⟩ => h.im) ?_ hA (by omega) hAd ⟨_, _, [], rfl, rfl, rfl, st⟩ (st.readm hba TF.t22 (by first | rfl | exact getV_all rfl))).2 ?_
  rintro i W W2 u hi ⟨kv, vv, E, hE, o1, o2, st⟩ sN
  have hiM : i < M.length := by omega
  rw [hAe i hi] at sN ⊢
  have st := st.newOf sN
  have st := st.perm (List.perm_middle (l₁ := [_, _, _, _, _, _, _, _, _, _, _, _, _])).symm
  have hE' : kvs (E ++ [(M[i].1, M[i].2, u)]) = M.take (i + 1) := by rw [kvs_app, hE, List.take_succ_eq_append_getElem hiM]; rfl
  have hEl : E.length = i := by have := congrArg List.length hE; rw [length_kvs, List.length_take] at this; omega
  have hrows : byE u M[i].2 :: (rowsE (E.map (·.2)) ++ Es) = rowsE ((E ++ [(M[i].1, M[i].2, u)]).map (·.2)) ++ Es := by simp [rowsE]
  have st : St m0 m1 [] w0 W2 (objE l (.loop (rec .ready none)) :: objE D (.deferred (some [])) :: ksE kv E :: vsE vv E :: K.blk b4 #[kv, vv] 37 :: K.blk b3 #[.bool false] 4 :: K.blk b2 #[.slice none 0 0, .slice none 0 0] 37 :: K.blk b1 #[.pointer (some ⟨sb, 0, none⟩)] 24 :: lgE g b s n sl lv wv S N (stE sb g mb L (rowsE ((E ++ [(M[i].1, M[i].2, u)]).map (·.2)) ++ Es))) := by rw [← hrows]; exact st
  have hu1 : u.oneCell' = true := byE_one sN 0 rfl
  obtain ⟨ka, kc, hkv⟩ := row_sl (st.at (i := 2) rfl)
  subst hkv
  refine yield_round hrec (st.at (i := 0) rfl) rfl htm hval rfl ?_
  ·refine wi_seq ?_
   refine wi_region (by kernel_rfl) (fun _ _ h => h) ?_
   refine wl_val (v_assign' (by conv => (lhs; whnf))) rfl ?_
   refine wl_nil ?_
   refine then_go ?_
   refine wi_region (by kernel_rfl) (fun _ _ h => h) ?_
   refine wl_val (v_assign' (by conv => (lhs; whnf))) rfl ?_
   refine wl_nil ?_
   refine then_go ⟨st.at (i := 0) rfl, ?_⟩
   have st := st.putObj 0 (.loop (rec .busy none)) rfl
   refine wi_block ?_
   refine wi_seq ?_
   refine wi_seq ?_
   refine wi_draw TF.mixed (by kernel_rfl) (fun _ _ h => h) ?_
   have st := st.pure (touch_drew _)
   refine fl_val 0 rfl (fun _ => (v_fa TF.f37_0 rfl)) rfl (by kernel_rfl) ?_
   refine fl_ld 1 rfl (v_load rfl (st.reads (v := .slice ka E.length kc) 4 rfl TF.t34 rfl)) (by kernel_rfl) ?_
   refine fl_val 2 rfl (fun _ => (v_len_s Try.underlying34 rfl)) rfl (by kernel_rfl) ?_
   refine fl_ld 3 rfl (v_load rfl (st.reads (v := .pointer (some ⟨sb, 0, none⟩)) 7 rfl TF.t24 rfl)) (by kernel_rfl) ?_
   refine fl_eff1 4 [2, 0] [1] (by kernel_rfl) ⟨obl_ld rfl rfl rfl (v_load rfl (st.reads (v := .pointer (some ⟨sb, 0, none⟩)) 7 rfl TF.t24 rfl)), obl_ld rfl rfl rfl (v_load rfl (st.reads (v := .slice ka E.length kc) 4 rfl TF.t34 rfl)), trivial⟩ rfl ?_
   refine wl_call rfl (c_slenX 11 st rfl rfl) rfl ?_
   rintro v21 w ⟨t21, rfl⟩
   have st := st.pure t21
   refine wl_nil ⟨rfl, ?_⟩
   refine fl_val 5 rfl (fun _ => (wl_valD (v_gtr (a := (E.length : Int)) (b := (L.length : Int)) rfl rfl) (q := false) (decide_eq_false (by omega)))) rfl (by kernel_rfl) ?_
   refine fl_nil (by kernel_rfl) ⟨obl_ld rfl rfl rfl (v_load rfl (st.reads (v := .slice ka E.length kc) 4 rfl TF.t34 rfl)), trivial⟩ ?_
   refine then_go ?_
   refine wi_false rfl ?_
   refine wi_skip ?_
   refine then_go ?_
   refine wi_seq ?_
   refine wi_region (by kernel_rfl) (fun _ _ h => h) ?_
   refine wl_val (v_fa TF.f37_0 rfl) rfl ?_
   refine wl_val (v_load rfl (st.reads (v := .slice ka E.length kc) 4 rfl TF.t34 rfl)) rfl ?_
   refine wl_val (v_move' (by conv => (lhs; whnf))) rfl ?_
   refine wl_rwOne (v := .string (strB M[i].1)) Try.underlying34 TF.t9 TF.z9 rfl rfl rfl st rfl ?_
   intro b27 w st
   refine wl_rwPut (fun x : By × DV => .string (strB x.1)) 2 (e := (M[i].1, M[i].2, u)) st rfl Try.underlying34 TF.t9 TF.z9 rfl rfl rfl rfl (by omega) (by omega) rfl ?_
   intro v28 w st o28
   refine wl_val (v_fa TF.f37_0 rfl) rfl ?_
   refine wl_store1 (v := v28) 4 st rfl TF.t34 rfl rfl o28 (lt_ok rfl) ?_
   intro w st
   refine wl_nil ?_
   refine then_go ?_
   refine wi_region (by kernel_rfl) (fun _ _ h => h) ?_
   refine wl_val (v_fa TF.f37_1 rfl) rfl ?_
   refine wl_val (v_load rfl (st.reads (v := vv) 4 rfl TF.t35 rfl)) rfl ?_
   refine wl_val (v_move' (by conv => (lhs; whnf))) rfl ?_
   refine wl_rwOne (v := u) Try.underlying35 TF.t31 TF.z31 rfl hu1 rfl st rfl ?_
   intro b33 w st
   refine wl_rwPut (fun x : By × DV => x.2.2) 3 (e := (M[i].1, M[i].2, u)) st rfl Try.underlying35 TF.t31 TF.z31 rfl hu1 rfl rfl (by omega) (by omega) rfl ?_
   intro v34 w st o34
   refine wl_val (v_fa TF.f37_1 rfl) rfl ?_
   refine wl_store1 (v := v34) 4 st rfl TF.t35 rfl rfl o34 (lt_ok rfl) ?_
   intro w st
   refine wl_nil ?_
   refine block_go ?_
   exact ⟨st.at (i := 0) rfl, .inl ⟨rfl, v28, v34, _, hE', o28, o34, st.putObj 0 _ rfl⟩⟩
  rintro e W ⟨v, rfl, ⟨kv, vv, E, hE, o1, o2, st⟩ | hF⟩
  ·have st2 := st.putObj 0 (.loop (rec .exhausted none)) rfl
   rw [List.take_of_length_le (by omega)] at hE
   exact ⟨v, rfl, .ready, none, by simp, st.at (i := 0) rfl, D, l, _, kv, vv, E, rfl, rfl, rfl, rfl, hE, o1, o2, st2⟩
  ·exact hF.elim
 ·clear st
  rintro ds r w ⟨D, l, o, kv, vv, E, rfl, h2, h3, h4, hE, o1, o2, st⟩
  refine wx_of_wc (wc_o 2 h2 (wc_o 3 h3 (wc_o 4 h4 ?_)))
  refine wc_seq ?_
  refine wc_region ?_
  refine wl_val (v_load rfl (st.reads (v := .agg #[kv, vv]) 4 rfl TF.t37 (getV_all rfl))) rfl ?_
  refine wl_storeW (cs := #[kv, vv]) 6 st rfl TF.t37 rfl rfl rfl rfl (by intro u hu; simp at hu; rcases hu with rfl | rfl <;> assumption) ?_
  intro w st
  refine wl_store1 (v := .bool true) 5 st rfl TF.t4 rfl rfl rfl (lt_ok rfl) ?_
  intro w st
  refine wl_nil ?_
  refine then_go ?_
  refine wc_ret ?_
  have hD' := st.at (i := 1) rfl
  have st7 := st.putObj 1 (.deferred none) rfl
  exact retX1 hD' (ret2cc (v := .agg #[kv, vv]) (v' := .bool true) rfl (st7.reads 6 rfl TF.t37 (getV_all rfl)) rfl (st7.reads 5 rfl TF.t4 rfl) ⟨kv, vv, E, m1, rfl, hE, hmm1, ((((((st7.drop 0).drop 0).drop 2).drop 2).drop 2).drop 2)⟩)
end
end Go.Proofs.Ytladpaehbolghaa

namespace Go.Proofs.Ytladpaehbolghaa
open Go Go.RowKit K SH GC JR OS
open DK hiding By
section
variable {m0 m : Mem} {w0 w : World} {Es : List Ent}
theorem all_keep {kv vv : Value} {E : List (By × DV)} {T : List Ent} (st : St m0 m [] w0 w (ksE kv E :: vsE vv E :: (T ++ (rowsE (E.map (·.2)) ++ Es)))) (h : ∀ x ∈ E, x.1.length ≤ 64 ∧ x.2.1.length ≤ 1048576) :
  ∃ m', (∀ k o, m k = some o → m' k = some o) ∧ KyM m' kv vv E ∧ St m0 m' [] w0 w (T ++ Es) := by
 obtain ⟨m1, hg1, hm1, st1⟩ := st.freezeR (i := 0) rfl (by simp)
 have hk := row_SlM (m := m1) (st.at (i := 0) rfl) hm1
 obtain ⟨m2, hg2, hm2, st2⟩ := st1.freezeR (i := 0) rfl (by simp)
 have hv := row_SlM (m := m2) (st1.at (i := 0) rfl) hm2
 have st3 : St m0 m2 [] w0 w (T ++ (rowsE (E.map (·.2)) ++ Es)) := st2
 have st4 := st3.perm (show List.Perm _ (rowsE (E.map (·.2)) ++ (T ++ Es)) by rw [← List.append_assoc, ← List.append_assoc]; exact List.perm_append_comm.append_right _)
 obtain ⟨m3, hmm3, hP, st5⟩ := rows_freeze (A := E.map (·.2)) st4
 exact ⟨m3, fun k o h => hmm3 k o (hg2.le k o (hg1.le k o h)), ⟨hk.mono fun k o h => hmm3 k o (hg2.le k o h), hv.mono hmm3, fun x hx => ⟨(h x hx).1, (h x hx).2, hP _ (List.mem_map.2 ⟨x, hx, rfl⟩)⟩⟩, st5⟩
theorem kvok_len {L E : List (By × DV)} {M : Kys} (hL : KvOk m L) (hp : M.Perm (kvs L)) (hE : kvs E = M) : ∀ x ∈ E, x.1.length ≤ 64 ∧ x.2.1.length ≤ 1048576 := fun x hx => by
 have h1 : (x.1, x.2.1) ∈ M := by rw [← hE]; exact List.mem_map.2 ⟨x, hx, rfl⟩
 obtain ⟨y, hy, e⟩ := List.mem_map.1 (hp.mem_iff.1 h1)
 have h2 := hL y hy
 have e : (y.1, y.2.1) = (x.1, x.2.1) := e
 rw [Prod.mk.injEq] at e
 rw [← e.1, ← e.2]
 exact ⟨h2.1, h2.2.1⟩
end
end Go.Proofs.Ytladpaehbolghaa

namespace Go.Proofs.Ytladpaehbolghaa
open Go Go.RowKit K SH DK JR
end Go.Proofs.Ytladpaehbolghaa

namespace Go.Proofs.Ytladpaehbolghaa
open Go Go.RowKit K SH GC JR OS
open DK hiding By
theorem apply_facts {M : Kys} {R : List By} {A : List Ac} {n : Nat} (h : Risen M) : Risen (applyR M R A n).1 ∧ bulkK (applyR M R A n).1 ≤ bulkK M + bulkA A ∧ (applyR M R A n).1.length ≤ M.length + A.length := by
 have h1 := bulk_done (M := M) (A := A)
 have h2 := doneS_rise (A := A) h
 unfold applyR
 split
 ·exact ⟨h, by show bulkK M ≤ _; omega, by show M.length ≤ _; omega⟩
 ·split
  ·exact ⟨h2, h1.1, h1.2⟩
  ·split
   ·exact ⟨h, by show bulkK M ≤ _; omega, by show M.length ≤ _; omega⟩
   ·exact ⟨h2, h1.1, h1.2⟩
theorem ofR_app : ∀ {R : List By} {M M' : Kys} {x : By} {A : List Ac}, ofR M R = some M' → batR x = some A → ofR M (R ++ [x]) = some (doneS M' A)
 | [], M, M', x, A, h, hx => by cases h; simp only [List.nil_append, ofR, hx]
 | y :: R, M, M', x, A, h, hx => by
  rw [ofR] at h
  split at h
  ·cases h
  ·rename_i B hB
   simp only [List.cons_append, ofR, hB]
   exact ofR_app h hx
theorem done_acts : ∀ {M P : Kys}, Risen (P ++ M) → doneS P (actsOf M) = P ++ M
 | [], P, _ => by simp [doneS, actsOf]
 | x :: M, P, h => by
  have e : oneS P ⟨x.1, true, x.2⟩ = P ++ [x] := by
   have h1 : ∀ y ∈ P, y.1 < x.1 := fun y hy => by
    unfold Risen at h
    rw [List.map_append, List.pairwise_append] at h
    exact h.2.2 y.1 (List.mem_map.2 ⟨y, hy, rfl⟩) x.1 (by simp)
   unfold oneS
   rw [if_pos rfl, List.filter_eq_self.2 (fun y hy => decide_eq_true (h1 y hy)), List.filter_eq_nil_iff.2 (fun y hy h => List.lt_irrefl _ (List.lt_trans (h1 y hy) (of_decide_eq_true h)))]
   rfl
  have h2 : doneS P (actsOf (x :: M)) = doneS (oneS P ⟨x.1, true, x.2⟩) (actsOf M) := rfl
  rw [h2, e, done_acts (by rw [List.append_assoc]; exact h), List.append_assoc]
  rfl
theorem okL_of {A : List Ac} (h : chkL A = 0) : okL A := by
 unfold chkL at h
 split at h
 ·assumption
 ·cases h
theorem apply_of {M : Kys} {R : List By} {A : List Ac} {n : Nat} (h : Risen M) (ho : ofR [] R = some M) : ofR [] (applyR M R A n).2.1 = some (applyR M R A n).1 := by
 unfold applyR
 split
 ·exact ho
 ·rename_i hc
  have hok : okL A := okL_of (Decidable.not_not.1 fun h => hc (.inl h))
  split
  ·exact ofR_app ho (batR_batB hok)
  ·split
   ·exact ho
   ·rename_i hc2
    have hok2 := okL_of (Decidable.not_not.1 fun h => hc2 (.inl h))
    show ofR [] (anewOf (doneS M A)) = some (doneS M A)
    unfold anewOf
    split
    ·rename_i h0; rw [h0]; rfl
    ·have := ofR_app (R := []) (M := []) (x := batB (actsOf (doneS M A))) rfl (batR_batB hok2)
     rw [done_acts (P := []) (M := doneS M A) (doneS_rise h)] at this
     exact this
structure Sh (m : Mem) (i n : Nat) (S : By) (sl : LG) (kv vv nv : Value) (G : List (By × DV)) (NR N : List (By × Value)) (L : List (By × DV)) : Prop where
 ky : KyM m kv vv G
 ri : Risen (kvs G)
 pn : PcsM m nv NR
 eq : NR.map (·.1) = N.map (·.1)
 nl : ∀ y ∈ NR, y.1.length ≤ 1048576
 pc : Pcs m N
 kv : KvOk m L
 pe : (kvs G).Perm (kvs L)
 lg : LogOk n S sl (N.map (·.1))
 gn : sl.gen.toNat ≤ 1 + 2 * i
 bk : bulkK (kvs G) ≤ i * 20000
 ln : G.length ≤ i * 60
 rc : ofR [] (N.map (·.1)) = some (kvs G)
theorem Sh.mono {m m' : Mem} {i n : Nat} {S : By} {sl : LG} {kv vv nv : Value} {G L : List (By × DV)} {NR N : List (By × Value)} (h : Sh m i n S sl kv vv nv G NR N L) (hm : ∀ k o, m k = some o → m' k = some o) : Sh m' i n S sl kv vv nv G NR N L :=
 ⟨h.ky.mono hm, h.ri, PcsM.mono h.pn hm, h.eq, h.nl, h.pc.mono hm, h.kv.mono hm, h.pe, h.lg, h.gn, h.bk, h.ln, h.rc⟩
theorem Sh.few {m : Mem} {i n : Nat} {S : By} {sl : LG} {kv vv nv : Value} {G L : List (By × DV)} {NR N : List (By × Value)} (h : Sh m i n S sl kv vv nv G NR N L) : NR.length ≤ 100000 ∧ L.length = G.length := by
 have h1 := sizeL_ge (l := N.map (·.1))
 have h2 := h.lg.fit
 have h3 := h.lg.nle
 have h4 := congrArg List.length h.eq
 rw [List.length_map, List.length_map] at h4
 rw [List.length_map] at h1
 have h5 := h.pe.length_eq
 rw [length_kvs, length_kvs] at h5
 exact ⟨by omega, h5.symm⟩
theorem Sh.first {m : Mem} {n : Nat} {S : By} {sl : LG} (hl : LogOk n S sl []) (hg : sl.gen = 1) : Sh m 0 n S sl (.slice none 0 0) (.slice none 0 0) (.slice none 0 0) [] [] [] [] :=
 ⟨KyM.nil, by simp [Risen], ⟨SlM.nil, by simp⟩, rfl, by simp, (fun _ h => by cases h), (fun _ h => by cases h), List.Perm.refl _, hl, by rw [hg]; decide, by simp [bulkK], by simp, rfl⟩
theorem Sh.next {m m3 : Mem} {i n a : Nat} {S S2 : By} {sl sl2 : LG} {kv vv nv kv2 vv2 nv2 : Value} {G L G2 L2 : List (By × DV)} {NR N NR2 N2 : List (By × Value)} {A : List Ac} (h : Sh m i n S sl kv vv nv G NR N L)
  (hE2 : KyM m3 kv2 vv2 G2) (hN2 : PcsM m3 nv2 NR2) (hap : applyR (kvs G) (NR.map (·.1)) A n = (kvs G2, NR2.map (·.1), a)) (hnl : ∀ y ∈ NR2, y.1.length ≤ 1048576)
  (hNe : N2.map (·.1) = (applyR (kvs G) (N.map (·.1)) A n).2.1) (hlg : LogOk n S2 sl2 (N2.map (·.1))) (hgn : sl2.gen.toNat ≤ sl.gen.toNat + 2) (hkv : KvOk m3 L2) (hpe : (applyR (kvs G) (N.map (·.1)) A n).1.Perm (kvs L2)) (hpc : Pcs m3 N2) (hb : bulkA A ≤ 20000) (hl : A.length ≤ 60) :
  Sh m3 (i + 1) n S2 sl2 kv2 vv2 nv2 G2 NR2 N2 L2 := by
 have hf := apply_facts (R := NR.map (·.1)) (A := A) (n := n) h.ri
 rw [hap] at hf
 rw [← h.eq, hap] at hNe hpe
 obtain ⟨f1, f2, f3⟩ := hf
 have h1 := h.bk
 have h2 := h.ln
 have h3 := h.gn
 have f2 : bulkK (kvs G2) ≤ bulkK (kvs G) + bulkA A := f2
 have f3 : (kvs G2).length ≤ (kvs G).length + A.length := f3
 rw [length_kvs, length_kvs] at f3
 refine ⟨hE2, f1, hN2, hNe.symm, hnl, hpc, hkv, hpe, hlg, by omega, by omega, by omega, ?_⟩
 have hr := apply_of (A := A) (n := n) h.ri (h.eq ▸ h.rc)
 rw [hap] at hr
 rw [hNe]
 exact hr
end Go.Proofs.Ytladpaehbolghaa
