/-
  A region whose operations may be carried out in more than one order, in which yield is called.
-/
import Derived.Test.YtkbmhhbclbgdpaaZ
import Derived.OrdersIn
namespace Go.Proofs.Ytkbmhhbclbgdpaa
open Go Go.RowKit
namespace K

section
variable {P : Program} {n : Nat} {ops : Array Oper} {Q : Po} {r : Fr} {w : World}

def FLI (P : Program) (n : Nat) (ops : Array Oper) (Q : Po) (done pure lds : List Nat) (r : Fr) (w : World) : Prop :=
  (∀ i ∈ pure, ∀ w', obl P n ops r w' i) → ∀ kk ds X listed fuel a, RS n ops done (pure ++ lds) r X listed fuel ds a → wpAnyIn (FR none) kk P .any ops (lift n ds Q) fuel listed a w

/-- The heart: what waits may be carried out at any time; the rest is handed in. -/
theorem fli_core {done pure lds : List Nat} {kk : Nat} {ds : List Deferred} (hns : noSel ops = true)
    (hpair : okAll ops (pure ++ lds) = true)
    (hpure : ∀ i ∈ pure, ∀ w', obl P n ops r w' i) (hlds : ∀ i ∈ lds, obl P n ops r w i)
    (hnil : ∀ X listed fuel a, RS n ops done (pure ++ lds) r X listed fuel ds a → Region.ready .any ops listed = [] → lift n ds Q .normal a w)
    (hrest : ∀ X listed fuel a, RS n ops done (pure ++ lds) r X listed (fuel + 1) ds a → ∀ i ∈ Region.ready .any ops listed, i ∉ X → wpOpIn (FR none) kk P ops (lift n ds Q) i (wpAnyIn (FR none) kk P .any ops (lift n ds Q) fuel (listed.setIfInBounds i true)) a w) :
    ∀ fuel X listed a, RS n ops done (pure ++ lds) r X listed fuel ds a → wpAnyIn (FR none) kk P .any ops (lift n ds Q) fuel listed a w := by
  have hob : ∀ i ∈ pure ++ lds, obl P n ops r w i := fun i hi => by
    rcases List.mem_append.1 hi with h | h
    · exact hpure i h w
    · exact hlds i h
  intro fuel
  induction fuel with
  | zero =>
    intro X listed a s
    have hr : Region.ready .any ops listed = [] := by
      cases hr : Region.ready .any ops listed with
      | nil => rfl
      | cons i l =>
        have hi : i ∈ Region.ready .any ops listed := by rw [hr]; exact List.mem_cons_self
        obtain ⟨h1, h2, _⟩ := mem_ready.1 hi
        have h3 := unl_pos h1 h2
        have h4 := s.fuel
        omega
    exact ⟨hr, hnil X listed 0 a s hr⟩
  | succ fuel ih =>
    intro X listed a s
    refine ⟨hnil X listed _ a s, fun i hi => ?_⟩
    by_cases hX : i ∈ X
    · obtain ⟨o, d, ho, hd, hdn, hv⟩ := hob i (s.sub i hX)
      have hil := lt_of_some ho
      have hother : ∀ y ∈ X, y ≠ i → ∀ d', dstOf ops y = some d' → d' ∉ o.looksAt ops ∧ o.dst ≠ some d' := by
        intro y hy hne
        have hp := (List.all_eq_true.1 (Bool.and_eq_true_iff.1 ((List.all_eq_true.1 hpair) i (s.sub i hX))).2) y (s.sub y hy)
        have hne' : (i == y) = false := by simpa using fun e => hne (e.symm)
        rw [hne', Bool.false_or] at hp
        by_cases hyl : y < ops.size
        · exact okPair_spec hp hi (s.pending hy hyl).2 ho
        · intro d' hd'
          unfold dstOf at hd'
          rw [Array.getElem?_eq_none (by omega)] at hd'
          cases hd'
      have hself : d ∉ o.looksAt ops := by
        have hp := (Bool.and_eq_true_iff.1 ((List.all_eq_true.1 hpair) i (s.sub i hX))).1
        unfold selfOk at hp
        rw [ho] at hp
        simp only [hd] at hp
        simpa using hp
      have heval : ∀ t ∈ o.looksAt ops, a.tmps.getD t undef = r t := by
        intro t ht
        refine s.agree t fun x hx hxd => ?_
        by_cases hxi : x = i
        · subst hxi
          have : dstOf ops x = some d := by unfold dstOf; rw [ho]; exact hd
          rw [this] at hxd
          exact hself ((Option.some.inj hxd).symm ▸ ht)
        · exact (hother x hx hxi t hxd).1 ht
      have hexec : execOp a.eval o = execOp (ev r) o :=
        exec_congr (f := fun t => a.tmps.getD t undef) (g := r) (noSel_spec hns ho) (fun x hx => by cases x <;> first | rfl | exact absurd rfl (hx _)) (fun _ => rfl) (fun _ => rfl) heval
      have hwant : Region.wanted o (yielded ops a.tmps) = Region.wanted o (yl ops r) := by
        refine wanted_congr fun g want hg => ?_
        rw [yielded_yl (f := fun t => a.tmps.getD t undef) (fun _ => rfl)]
        exact yl_congr fun d' hd' => heval d' (looks_guard hg hd')
      have hnext : wpAnyIn (FR none) kk P .any ops (lift n ds Q) fuel (listed.setIfInBounds i true) (a.put o.dst (r d)) w := by
        have hni := s.pending hX hil
        refine ih (X.filter (· != i)) _ _ ⟨?_, ?_, ?_, ?_, ?_, ?_, ?_, ?_⟩
        · exact fun x hx => s.sub x (List.mem_filter.1 hx).1
        · exact fun x hx => s.subd x (List.mem_filter.1 hx).1
        · simp [s.size]
        · intro j hj
          by_cases hji : j = i
          · subst hji
            have hc : done.contains j = true := s.subd j hX
            have h1 : (listed.setIfInBounds j true).getD j true = true := by simp [Array.getD_eq_getD_getElem?]
            rw [h1, hc]
            simp
          · have hne : i ≠ j := fun e => hji e.symm
            have h1 : (listed.setIfInBounds i true).getD j true = listed.getD j true := by simp only [Array.getD_eq_getD_getElem?, Array.getElem?_setIfInBounds_ne hne]
            rw [h1, s.told j hj]
            congr 2
            by_cases hjX : j ∈ X
            · have : j ∈ X.filter (· != i) := List.mem_filter.2 ⟨hjX, by simpa using hji⟩
              simp [hjX, hji]
            · simp [hjX]
        · have := unl_set s.size hil hni.1
          have := s.fuel
          omega
        · simp [Act.put, hd, s.asize]
        · simp [Act.put, hd, s.defers]
        · intro t ht
          rw [hd]
          simp only [Act.put]
          by_cases htd : t = d
          · subst htd
            by_cases hts : t < a.tmps.size
            · simp [Array.getD, hts]
            · have h1 : t < n := Nat.blt_eq.mp hdn
              have h2 := s.asize
              exact absurd (show t < a.tmps.size by rw [h2]; exact h1) hts
          · have hne : d ≠ t := fun e => htd e.symm
            rw [Array.getD_eq_getD_getElem?, Array.getElem?_setIfInBounds_ne hne, ← Array.getD_eq_getD_getElem?]
            refine s.agree t fun x hx hxd => ?_
            by_cases hxi : x = i
            · subst hxi
              have : dstOf ops x = some d := by unfold dstOf; rw [ho]; exact hd
              rw [this] at hxd
              exact htd (Option.some.inj hxd).symm
            · exact ht x (List.mem_filter.2 ⟨hx, by simpa using hxi⟩) hxd
      unfold wpOpIn
      rw [ho]
      simp only
      by_cases hw : Region.wanted o (yl ops r) = true
      · rw [if_pos (by rw [hwant]; exact hw)]
        rw [if_pos hw] at hv
        refine ⟨fun _ _ => trivial, ?_⟩
        have hsem : o.semAt (FR none).round a.eval = execOp a.eval o := by simp [Oper.semAt]
        rw [hsem, hexec, hv, Oper.uponIn_value]
        exact hnext
      · rw [if_neg (by rw [hwant]; exact hw)]
        rw [if_neg hw] at hv
        refine ⟨fun _ _ => trivial, ?_⟩
        rw [← hv]
        exact hnext
    · exact hrest X listed fuel a s i hi hX



/-- The step of one effect. -/
def StepEI (P : Program) (n : Nat) (ops : Array Oper) (Q : Po) (done pure lds : List Nat) (r : Fr) (w : World) (k : Nat) : Prop :=
  ∃ o, ops[k]? = some o ∧ WLI P n ops (fun e r' w' => e = .normal ∧ FLI P n ops Q (k :: done) (leave ops k pure) (leave ops k lds) r' w') [o] r w

theorem fli_eff {done pure lds : List Nat} (ks : List Nat) (hks : readyOf ops done = ks) (hne : ks ≠ []) (hb : backward ops = true) (hns : noSel ops = true) (hpair : okAll ops (pure ++ lds) = true)
    (heff : (ks.all fun k => effOk ops (pure ++ lds) k) = true)
    (hlds : ∀ i ∈ lds, obl P n ops r w i) (hk : ∀ k ∈ ks, StepEI P n ops Q done pure lds r w k) : FLI P n ops Q done pure lds r w := by
  intro hpure kk ds X listed fuel a s
  refine fli_core hns hpair hpure hlds ?_ ?_ fuel X listed a s
  · intro X listed fuel a s hr
    exfalso
    obtain ⟨k, hk⟩ := List.exists_mem_of_ne_nil ks hne
    rw [← hks] at hk
    obtain ⟨h1, h2⟩ := List.mem_filter.1 hk
    have hl := List.mem_range.1 h1
    have h3 := ready_nil hb s.size hr k hl
    rw [s.told k hl] at h3
    simp only [Bool.and_eq_true, Bool.not_eq_true'] at h2 h3
    rw [h2.1] at h3
    exact Bool.noConfusion h3.1
  · intro X listed fuel a s i hi hX
    obtain ⟨hil, hni, o, ho, hdeps⟩ := mem_ready.1 hi
    have hnd : done.contains i = false := by
      have h3 := s.told i hil
      have h5 : X.contains i = false := by simpa using hX
      rw [hni, h5] at h3
      simpa using h3.symm
    have hik : i ∈ ks := by
      rw [← hks]
      refine List.mem_filter.2 ⟨List.mem_range.2 hil, ?_⟩
      rw [hnd]
      simp only [Bool.not_false, Bool.true_and]
      unfold depsIn
      rw [ho]
      refine Array.all_eq_true'.2 fun e he => ?_
      cases hbe : Region.binds .any e with
      | false => rfl
      | true =>
        have h1 := hdeps e he hbe
        have hel : e.on < ops.size := by
          have h2 := (List.all_eq_true.1 hb) i (List.mem_range.2 hil)
          rw [ho] at h2
          have h3 := Array.all_eq_true'.1 h2 e he
          simp only [hbe, Bool.not_true, Bool.false_or] at h3
          have : e.on < i := Nat.blt_eq.mp h3
          omega
        have h2 := s.told e.on hel
        have hlt : e.on < listed.size := by have := s.size; omega
        have h3 : listed.getD e.on true = true := by
          simp only [Array.getD, hlt, dite_true] at h1 ⊢
          exact h1
        rw [h3] at h2
        have h4 := h2.symm
        rw [Bool.and_eq_true] at h4
        rw [h4.1]
        rfl
    obtain ⟨o', ho', hwl⟩ := hk i hik
    rw [ho] at ho'
    obtain rfl := Option.some.inj ho'
    have heffi := (List.all_eq_true.1 heff) i hik
    have hnotX : ∀ y ∈ X, behind ops y i = false := by
      intro y hy
      cases hby : behind ops y i with
      | false => rfl
      | true =>
        have h1 := behind_listed hi hby
        have hyl : y < ops.size := by
          rcases Nat.lt_or_ge y ops.size with h' | h'
          · exact h'
          · have : y < listed.size := by
              rcases Nat.lt_or_ge y listed.size with h'' | h''
              · exact h''
              · simp [Array.getD, Nat.not_lt.mpr h''] at h1
            have := s.size
            omega
        rw [(s.pending hy hyl).2] at h1
        cases h1
    have hpairE : ∀ y ∈ X, ∀ d, dstOf ops y = some d → d ∉ o.looksAt ops ∧ o.dst ≠ some d := by
      intro y hy d hd
      have h1 := (List.all_eq_true.1 heffi) y (s.sub y hy)
      rw [Bool.and_eq_true] at h1
      have h2 := h1.2
      rw [hnotX y hy, Bool.false_or, Bool.and_eq_true] at h2
      have hyl : y < ops.size := by
        unfold dstOf at hd
        cases hoy : ops[y]? with
        | none => rw [hoy] at hd; cases hd
        | some oy => exact lt_of_some hoy
      exact okPair_spec h2.1 hi (s.pending hy hyl).2 ho d hd
    have heval : ∀ t ∈ o.looksAt ops, a.tmps.getD t undef = r t := fun t ht => s.agree t fun x hx hxd => (hpairE x hx t hxd).1 ht
    -- the frame in which all that is taken is done
    obtain ⟨g, hg⟩ : ∃ g : Act, Has n ds g r := by
      refine ⟨⟨((List.range n).map r).toArray, ds⟩, by simp, fun t => ?_, rfl⟩
      by_cases htn : t < n
      · simp [Array.getD, htn]
      · have h0 : r t = undef := by
          have h1 := s.agree t (fun x hx hxd => by
            have hob : obl P n ops r w x := by
              rcases List.mem_append.1 (s.sub x hx) with h | h
              · exact hpure x h w
              · exact hlds x h
            obtain ⟨ox, dx, hox, hdx, hdn, _⟩ := hob
            have e1 : dx = t := by
              unfold dstOf at hxd
              rw [hox] at hxd
              simp only [Option.bind_some, hdx] at hxd
              exact Option.some.inj hxd
            have e2 : dx < n := Nat.blt_eq.mp hdn
            exact htn (e1 ▸ e2))
          rw [← h1]
          have := s.asize
          simp [Array.getD, show ¬ t < a.tmps.size by omega]
        simp [Array.getD, htn, h0]
    have hexec : execOp a.eval o = execOp g.eval o := by
      rw [hg.eval]
      exact exec_congr (f := fun t => a.tmps.getD t undef) (g := r) (noSel_spec hns ho) (fun x hx => by cases x <;> first | rfl | exact absurd rfl (hx _)) (fun _ => rfl) (fun _ => rfl) heval
    have hwant : Region.wanted o (yielded ops a.tmps) = Region.wanted o (yielded ops g.tmps) := by
      refine wanted_congr fun g' want hg' => ?_
      rw [yielded_yl (f := fun t => a.tmps.getD t undef) (fun _ => rfl), yielded_yl hg.val]
      exact yl_congr fun d' hd' => heval d' (looks_guard hg' hd')
    -- behind the effect
    have hnext : ∀ v w', (∃ r', Has n ds (g.put o.dst v) r' ∧ FLI P n ops Q (i :: done) (leave ops i pure) (leave ops i lds) r' w') →
        wpAnyIn (FR none) kk P .any ops (lift n ds Q) fuel (listed.setIfInBounds i true) (a.put o.dst v) w' := by
      rintro v w' ⟨r', hr', hfl⟩
      have hval : ∀ t, o.dst ≠ some t → r' t = r t := by
        intro t ht
        rw [← hr'.val, ← hg.val]
        cases hod : o.dst with
        | none => rfl
        | some d =>
          have hne : d ≠ t := fun e => ht (by rw [hod, e])
          simp only [Act.put]
          rw [Array.getD_eq_getD_getElem?, Array.getElem?_setIfInBounds_ne hne, ← Array.getD_eq_getD_getElem?]
      refine hfl (fun j hj w'' => ?_) kk ds X _ _ _ ⟨?_, ?_, ?_, ?_, ?_, ?_, ?_, ?_⟩
      · obtain ⟨hj1, hj2⟩ := List.mem_filter.1 hj
        obtain ⟨oj, dj, hoj, hdj, hdn, hv⟩ := hpure j hj1 w''
        have h1 := (List.all_eq_true.1 heffi) j (List.mem_append.2 (.inl hj1))
        rw [Bool.and_eq_true] at h1
        have h2 := h1.2
        simp only [Bool.not_eq_true'] at hj2
        rw [hj2, Bool.false_or, Bool.and_eq_true, ho, hoj] at h2
        have h3 := h2.2
        have hap : ∀ d, o.dst = some d → d ∉ oj.looksAt ops ∧ oj.dst ≠ some d := by
          intro d hd
          simp only [hd, Bool.and_eq_true, Bool.not_eq_true', bne_iff_ne, ne_eq] at h3
          exact ⟨by simpa using h3.1, h3.2⟩
        have hl : ∀ t ∈ oj.looksAt ops, r' t = r t := fun t ht => hval t fun e => (hap t e).1 ht
        have hexec' : execOp (ev r') oj = execOp (ev r) oj :=
          exec_congr (f := r') (g := r) (noSel_spec hns hoj) (fun x hx => by cases x <;> first | rfl | exact absurd rfl (hx _)) (fun _ => rfl) (fun _ => rfl) hl
        have hw' : Region.wanted oj (yl ops r') = Region.wanted oj (yl ops r) := wanted_congr fun g' want hg' => yl_congr fun d' hd' => hl d' (looks_guard hg' hd')
        refine ⟨oj, dj, hoj, hdj, hdn, ?_⟩
        rw [hw', hexec', hval dj fun e => (hap dj e).2 hdj]
        exact hv
      · intro x hx
        have hb' := hnotX x hx
        have hkeep : ∀ l : List Nat, x ∈ l → x ∈ leave ops i l := fun l hxl => List.mem_filter.2 ⟨hxl, by rw [hb']; rfl⟩
        rcases List.mem_append.1 (s.sub x hx) with h | h
        · exact List.mem_append.2 (.inl (hkeep _ h))
        · exact List.mem_append.2 (.inr (hkeep _ h))
      · intro x hx
        have := s.subd x hx
        simp only [List.contains_cons, this, Bool.or_true]
      · simp [s.size]
      · intro j hj
        by_cases hji : j = i
        · subst hji
          have h1 : (listed.setIfInBounds j true).getD j true = true := by simp [Array.getD_eq_getD_getElem?]
          have h5 : X.contains j = false := by simpa using hX
          rw [h1, h5]
          simp
        · have hne : i ≠ j := fun e => hji e.symm
          have h1 : (listed.setIfInBounds i true).getD j true = listed.getD j true := by simp only [Array.getD_eq_getD_getElem?, Array.getElem?_setIfInBounds_ne hne]
          have hf : (j == i) = false := by simpa using hji
          rw [h1, s.told j hj]
          simp only [List.contains_cons, hf, Bool.false_or]
      · have := unl_set s.size hil hni
        have := s.fuel
        omega
      · cases hod : o.dst with
        | none => simp [Act.put, s.asize]
        | some d => simp [Act.put, s.asize]
      · cases hod : o.dst with
        | none => simp [Act.put, s.defers]
        | some d => simp [Act.put, s.defers]
      · intro t ht
        cases hod : o.dst with
        | none =>
          simp only [Act.put]
          rw [s.agree t ht, hval t (by rw [hod]; intro h; cases h)]
        | some d =>
          by_cases htd : t = d
          · subst htd
            rw [← hr'.val, hod]
            simp only [Act.put, Array.getD_eq_getD_getElem?, Array.getElem?_setIfInBounds_self]
            have h1 := s.asize
            have h2 := hg.size
            rw [h1, h2]
          · have hne : d ≠ t := fun e => htd e.symm
            rw [hval t (by rw [hod]; exact fun e => hne (Option.some.inj e))]
            simp only [Act.put]
            rw [Array.getD_eq_getD_getElem?, Array.getElem?_setIfInBounds_ne hne, ← Array.getD_eq_getD_getElem?]
            exact s.agree t ht
    have hd0 : a.defers = g.defers := by rw [s.defers, hg.defers]
    have h := hwl kk ds g hg
    unfold wpListIn at h
    unfold wpOpIn
    rw [ho]
    simp only
    rw [hwant]
    by_cases hw : Region.wanted o (yielded ops g.tmps) = true
    · rw [if_pos hw] at h ⊢
      obtain ⟨_, h⟩ := h
      refine ⟨fun _ _ => trivial, ?_⟩
      have hsem : ∀ e : Operand → Value, o.semAt (FR none).round e = execOp e o := fun e => by simp [Oper.semAt]
      rw [hsem] at h ⊢
      rw [hexec]
      generalize (execOp g.eval o).run P w = x at *
      cases x with
      | ok v w' =>
        cases v <;> simp only [Oper.uponIn] at h ⊢
        case value v =>
          obtain ⟨r', h1, _, h2⟩ := h
          exact hnext v w' ⟨r', h1, h2⟩
        case skip =>
          obtain ⟨r', h1, _, h2⟩ := h
          exact hnext _ w' ⟨r', h1, h2⟩
        case enter f args =>
          refine ⟨h.1, CallsIn.mono h.2 ?_⟩
          intro e w'' he
          cases e with
          | returned v =>
            obtain ⟨r', h1, _, h2⟩ := he
            exact hnext v w'' ⟨r', h1, h2⟩
          | panicked c =>
            obtain ⟨_, _, hx, _⟩ := he
            cases hx
          | outgrown =>
            obtain ⟨_, _, _, _, hx, _⟩ := he
            cases hx
        case row row args =>
          refine ⟨h.1, RowsIn.mono h.2 ?_⟩
          rintro v w'' ⟨r', h1, _, h2⟩
          exact hnext v w'' ⟨r', h1, h2⟩
        case round l f tmps assign body =>
          refine ⟨h.1, RoundIn.mono h.2 ?_⟩
          intro e w'' he
          cases e with
          | returned v =>
            obtain ⟨r', h1, _, h2⟩ := he
            exact hnext v w'' ⟨r', h1, h2⟩
          | panicked c =>
            obtain ⟨_, _, hx, _⟩ := he
            cases hx
          | outgrown =>
            obtain ⟨_, _, _, _, hx, _⟩ := he
            cases hx
        case defer d =>
          obtain ⟨r', h1, _, h2⟩ := h
          have := h1.defers
          cases hod : o.dst <;> simp [Act.put, hod, hg.defers] at this
      | halt x w' =>
        cases x <;> simp only [Oper.uponIn] at h ⊢
        obtain ⟨_, _, hx, _⟩ := h
        cases hx
    · rw [if_neg hw] at h ⊢
      obtain ⟨_, r', h1, _, h2⟩ := h
      exact ⟨fun _ _ => trivial, hnext _ w ⟨r', h1, h2⟩⟩

theorem fli_end {done pure lds : List Nat} (hall : ((List.range ops.size).all done.contains) = true) (hb : backward ops = true) (hns : noSel ops = true) (hpair : okAll ops (pure ++ lds) = true)
    (hlds : ∀ i ∈ lds, obl P n ops r w i) (h : Q .normal r w) : FLI P n ops Q done pure lds r w := by
  intro hpure kk ds X listed fuel a s
  have hin : ∀ X listed fuel a, RS n ops done (pure ++ lds) r X listed fuel ds a → Region.ready .any ops listed = [] → lift n ds Q .normal a w := by
    intro X listed fuel a s hr
    refine ⟨r, ⟨s.asize, fun t => s.agree t fun x hx hxd => ?_, s.defers⟩, h⟩
    unfold dstOf at hxd
    cases ho : ops[x]? with
    | none => rw [ho] at hxd; cases hxd
    | some o =>
      have hl := lt_of_some ho
      have h1 := ready_nil hb s.size hr x hl
      have h2 := (s.pending hx hl).1
      rw [h1] at h2
      cases h2
  refine fli_core hns hpair hpure hlds hin ?_ fuel X listed a s
  intro X listed fuel a s i hi hX
  obtain ⟨h1, h2, _⟩ := mem_ready.1 hi
  have h3 := s.told i h1
  have h4 := (List.all_eq_true.1 hall) i (List.mem_range.2 h1)
  have h5 : X.contains i = false := by simpa using hX
  rw [h4, h5, h2] at h3
  cases h3


/-- A reckoning that leans on no memory is taken. -/
theorem fli_pure {done pure lds : List Nat} {d : Nat} {v : Value} (i : Nat) (hd : dstOf ops i = some d) (hns : noSel ops = true) (hnd : done.contains i = false) (hf : freshB ops pure i d = true)
    (hob : ∀ w', obl P n ops (upd d v r) w' i) (k : FLI P n ops Q (i :: done) (i :: pure) lds (upd d v r) w) : FLI P n ops Q done pure lds r w := by
  intro hpure kk ds X listed fuel a s
  refine k (fun j hj w' => ?_) kk ds (i :: X) listed fuel a (s.taken hd hnd fun x hx => ?_)
  · rcases List.mem_cons.1 hj with h | h
    · subst h; exact hob w'
    · have := freshB_spec hf h
      exact obl_upd (hpure j h w') hns this.1 this.2
  · rcases hx with h | h
    · subst h; simp
    · rcases List.mem_append.1 h with h | h
      · exact List.mem_append.2 (.inl (List.mem_cons_of_mem _ h))
      · exact List.mem_append.2 (.inr h)

/-- A read is taken; that it reads this is asked ahead of each effect that it may come behind. -/
theorem fli_load {done pure lds : List Nat} {d : Nat} {v : Value} (i : Nat) (hd : dstOf ops i = some d) (hns : noSel ops = true) (hnd : done.contains i = false) (hf : freshB ops pure i d = true)
    (k : FLI P n ops Q (i :: done) pure (i :: lds) (upd d v r) w) : FLI P n ops Q done pure lds r w := by
  intro hpure kk ds X listed fuel a s
  refine k (fun j hj w' => ?_) kk ds (i :: X) listed fuel a (s.taken hd hnd fun x hx => ?_)
  · have := freshB_spec hf hj
    exact obl_upd (hpure j hj w') hns this.1 this.2
  · rcases hx with h | h
    · subst h; simp
    · rcases List.mem_append.1 h with h | h
      · exact List.mem_append.2 (.inl h)
      · exact List.mem_append.2 (.inr (List.mem_cons_of_mem _ h))

end
section
variable {P : Program} {n : Nat} {ops : Array Oper} {Q : Po} {r : Fr} {w : World} {done pure lds : List Nat} {d : Nat} {op : Op} {ty : TypeId} {pos : String} {after : Array Edge} {v : Value}

/-- A reckoning. -/
theorem fli_val (i : Nat) (ho : ops[i]? = some ⟨some d, op, ty, pos, after, none⟩) (hv : ∀ w', Val P op ty r w' v w') (hd : Nat.blt d n = true) (hc : chkV ops done pure i d = true)
    (k : FLI P n ops Q (i :: done) (i :: pure) lds (upd d v r) w) : FLI P n ops Q done pure lds r w := by
  simp only [chkV, Bool.and_eq_true, Bool.not_eq_true'] at hc
  obtain ⟨⟨⟨h1, h2⟩, h3⟩, h4⟩ := hc
  exact fli_pure i (by unfold dstOf; rw [ho]; rfl) h1 h2 h3 (fun w' => obl_of h4 h1 ho hd (hv w')) k

/-- A read. -/
theorem fli_ld (i : Nat) (ho : ops[i]? = some ⟨some d, op, ty, pos, after, none⟩) (_hv : Val P op ty r w v w) (hc : chkV ops done pure i d = true)
    (k : FLI P n ops Q (i :: done) pure (i :: lds) (upd d v r) w) : FLI P n ops Q done pure lds r w := by
  simp only [chkV, Bool.and_eq_true, Bool.not_eq_true'] at hc
  obtain ⟨⟨⟨h1, h2⟩, h3⟩, _⟩ := hc
  exact fli_load i (by unfold dstOf; rw [ho]; rfl) h1 h2 h3 k

/-- The one effect that comes up. -/
theorem fli_eff1 (k : Nat) (pure' lds' : List Nat) (hc : chkE1 ops done pure lds k pure' lds' = true) (hl : Obls P n ops r w lds) {o : Oper} (ho : ops[k]? = some o)
    (h : WLI P n ops (fun e r' w' => e = .normal ∧ FLI P n ops Q (k :: done) pure' lds' r' w') [o] r w) : FLI P n ops Q done pure lds r w := by
  simp only [chkE1, chkE, Bool.and_eq_true, beq_iff_eq] at hc
  obtain ⟨⟨⟨⟨⟨⟨⟨h1, h2⟩, h3⟩, h4⟩, h5⟩, h6⟩, h7⟩, h8⟩ := hc
  refine fli_eff [k] h1 (by simp) h3 h4 h5 h6 hl.all fun j hj => ?_
  have : j = k := by simpa using hj
  subst this
  refine ⟨o, ho, ?_⟩
  rw [h7, h8]
  exact h

theorem fli_nil (hc : chkN ops done pure lds = true) (hl : Obls P n ops r w lds) (h : Q .normal r w) : FLI P n ops Q done pure lds r w := by
  simp only [chkN, Bool.and_eq_true] at hc
  obtain ⟨⟨⟨h1, h2⟩, h3⟩, h4⟩ := hc
  exact fli_end h1 h2 h3 h4 hl.all h

/-- The region: none is done yet. -/
theorem wc_drawI {id : Nat} {l : List Oper} (hm : P.follows .mixedOrders = true) (h : FLI P n l.toArray Q [] [] [] r w.drew) : WC P n Q (.region id l.toArray true) r w := by
  intro ds a ha
  refine wpIn_wide (n := 9).1 (wpIn_region_draw fun t => ?_)
  simp only [Region.schedule, hm, Bool.true_or, if_true]
  refine wpAnyIn_sound l.toArray.size t _ a _ ?_
  refine h (by simp) 9 ds [] _ _ a ⟨by simp, by simp, by simp, fun i hi => ?_, ?_, ha.size, ha.defers, fun t _ => ha.val t⟩
  · rw [getD_replicate_false _ _ hi]; rfl
  · unfold unl
    exact Nat.le_trans (List.countP_le_length) (by simp)
end
end K
end Go.Proofs.Ytkbmhhbclbgdpaa
