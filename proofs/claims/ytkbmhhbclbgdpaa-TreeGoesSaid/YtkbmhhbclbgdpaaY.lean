/-
  A range over a function: bodies of rounds, and the statement.
-/
import Derived.Test.YtkbmhhbclbgdpaaU
import Derived.RangeFuncRecord
import Derived.RangeFuncCalls
import Derived.OwnWalkIn
import Derived.LoopIn
import Derived.Scope
namespace Go.Proofs.Ytkbmhhbclbgdpaa
open Go Go.RowKit
namespace K

/-- The widest fence, within a round or not. -/
abbrev FR (ρ : Option Nat) : Fence := { Fence.wide with round := ρ }

section
variable {P : Program} {ops : Array Oper} {Q : Exit → Act → World → Prop}

theorem callsIn_of {ρ : Option Nat} {n : Nat} {f : FuncId} {args : Array Value} {w : World} {R : Ending → World → Prop} (h : Calls P f args w R) : CallsIn (FR ρ) n P f args w R :=
  callsIn_wide (n := n).2 h

theorem rowsIn_of {ρ : Option Nat} {n : Nat} {row : String} {args : Array Value} {w : World} {R : Value → World → Prop} (h : Rows P row args w R) : RowsIn (FR ρ) n P row args w R :=
  fun c cs _ => let ⟨v, w', r, s⟩ := h c cs; ⟨v, w', r, stepsIn_wide.2 s⟩

theorem upon_in {ρ : Option Nat} {n : Nat} {o : Oper} {a : Act} {next : Act → World → Prop} : ∀ {x : Result Next}, o.upon P a next Q x → o.uponIn (FR ρ) n P a next Q x := by
  intro x h
  cases x with
  | ok v w' =>
    cases v with
    | value v => exact h
    | skip => exact h
    | defer d => exact h
    | enter f args => exact ⟨by simp [Fence.wide], callsIn_of h⟩
    | row row args => exact ⟨by simp [Fence.wide], rowsIn_of h⟩
    | _ => exact h.elim
  | halt e w' =>
    cases e <;> first | exact h | exact h.elim

def noDefer (ops : Array Oper) : Bool := ops.all fun o => match o.op with | .defer _ => false | _ => true

theorem noDefer_at {i : Nat} {o : Oper} (h : noDefer ops = true) (ho : ops[i]? = some o) : ∀ c, o.op ≠ .defer c := by
  intro c hc
  obtain ⟨hi, rfl⟩ := Array.getElem?_eq_some_iff.1 ho
  have := Array.all_eq_true.1 h i hi
  rw [hc] at this
  cases this

/-- What holds of a region's operations holds of them within a round. -/
theorem ops_in {ρ : Option Nat} {n : Nat} (hnd : noDefer ops = true) (hout : ¬ LetsOut Q) : ∀ (l : List Nat) (a : Act) (w : World), wpOps P ops Q l a w → wpOpsIn (FR ρ) n P ops Q l a w
  | [], _, _, h => h
  | i :: l, a, w, h => by
    simp only [wpOps, wpOpsIn] at h ⊢
    cases ho : ops[i]? with
    | none =>
      rw [ho] at h
      exact ops_in hnd hout l a w h
    | some o =>
      rw [ho] at h
      simp only at h ⊢
      split
      · rename_i hw
        rw [if_pos hw] at h
        rcases h with h | h
        · refine ⟨fun _ _ => trivial, ?_⟩
          rw [Oper.semAt_plain (FR ρ) a.eval o (noDefer_at hnd ho)]
          have h2 : o.upon P a (wpOps P ops Q l) Q ((execOp a.eval o).run P w) := h
          have h3 : o.upon P a (wpOpsIn (FR ρ) n P ops Q l) Q ((execOp a.eval o).run P w) := Oper.wp_mono (Q := Q) (ops_in hnd hout l) h2
          exact upon_in h3
        · exact absurd h.2 hout
      · rename_i hw
        rw [if_neg hw] at h
        exact ⟨fun _ _ => trivial, ops_in hnd hout l _ w h⟩
end

/-- A piece of code, within a round or not. -/
def WI (ρ : Option Nat) (P : Program) (n : Nat) (Q : Po) (c : Code) (r : Fr) (w : World) : Prop := ∀ k ds a, Has n ds a r → c.wpIn (FR ρ) k P (lift n ds Q) a w

section
variable {ρ : Option Nat} {P : Program} {n : Nat} {Q : Po} {r : Fr} {w : World}

theorem wi_of_wc {c : Code} (h : WC P n Q c r w) : WI none P n Q c r w := fun _ ds a ha => wpIn_wide.2 (h ds a ha)

theorem WI.mono {Q' : Po} {c : Code} (h : WI ρ P n Q c r w) (hq : ∀ e r w, Q e r w → Q' e r w) : WI ρ P n Q' c r w :=
  fun k ds a ha => wpIn_mono (h k ds a ha) fun _ _ _ ⟨r', h1, h2⟩ => ⟨r', h1, hq _ _ _ h2⟩

theorem wi_seq {x y : Code} (h : WI ρ P n (thenQ (fun r w => WI ρ P n Q y r w) Q) x r w) : WI ρ P n Q (x.seq y) r w := by
  intro k ds a ha
  refine wpIn_seq (wpIn_mono (h k ds a ha) ?_)
  rintro e a' w' ⟨r', h1, h2⟩
  cases e with
  | normal => exact h2 k ds a' h1
  | _ => exact ⟨r', h1, h2⟩

theorem wi_skip (h : Q .normal r w) : WI ρ P n Q .skip r w := fun _ _ _ ha => wpIn_skip ⟨r, ha, h⟩
theorem wi_ret (h : Q .ret r w) : WI ρ P n Q .ret r w := fun _ _ _ ha => wpIn_ret ⟨r, ha, h⟩
theorem wi_exit {i : Nat} (h : Q (.exit i) r w) : WI ρ P n Q (.exit i) r w := fun _ _ _ ha => wpIn_exit ⟨r, ha, h⟩
theorem wi_label {i : Nat} (h : Q .normal r w) : WI ρ P n Q (.label i) r w := fun _ _ _ ha => wpIn_label ⟨r, ha, h⟩

theorem wi_block {i : Nat} {c : Code} (h : WI ρ P n (inBlockQ i Q) c r w) : WI ρ P n Q (.block i c) r w := by
  intro k ds a ha
  refine wpIn_block (wpIn_mono (h k ds a ha) ?_)
  rintro e a' w' ⟨r', h1, h2⟩
  cases e with
  | exit j =>
    simp only [inBlockQ] at h2
    simp only [Exit.inBlock]
    split <;> rename_i hj
    · rw [if_pos hj] at h2; exact ⟨r', h1, h2⟩
    · rw [if_neg hj] at h2; exact ⟨r', h1, h2⟩
  | _ => exact ⟨r', h1, h2⟩

theorem wi_cond {c : Operand} {x y : Code} {t : Bool} (hc : ev r c = .bool t) (ht : t = true → WI ρ P n Q x r w) (hf : t = false → WI ρ P n Q y r w) : WI ρ P n Q (.cond c x y) r w :=
  fun k ds a ha => wpIn_cond_split (by rw [ha.eval]; exact hc) (fun h => ht h k ds a ha) (fun h => hf h k ds a ha)
theorem wi_true {c : Operand} {x y : Code} (hc : ev r c = .bool true) (h : WI ρ P n Q x r w) : WI ρ P n Q (.cond c x y) r w := wi_cond hc (fun _ => h) (fun h => by cases h)
theorem wi_false {c : Operand} {x y : Code} (hc : ev r c = .bool false) (h : WI ρ P n Q y r w) : WI ρ P n Q (.cond c x y) r w := wi_cond hc (fun h => by cases h) (fun _ => h)
theorem wi_if {c : Operand} {x y : Code} {p : Prop} {inst : Decidable p} (hc : ev r c = .bool (@decide p inst)) (ht : p → WI ρ P n Q x r w) (hf : ¬ p → WI ρ P n Q y r w) : WI ρ P n Q (.cond c x y) r w :=
  wi_cond hc (fun h => ht (of_decide_eq_true h)) (fun h => hf (of_decide_eq_false h))

theorem no_out {ds : List Deferred} (hQ : ∀ r w, Q .outgrown r w → False) : ¬ LetsOut (lift n ds Q) := by
  rintro ⟨_, w, r, _, h⟩
  exact hQ r w h

theorem wi_region {id : Nat} {l : List Oper} (hnd : noDefer l.toArray = true) (hQ : ∀ r w, Q .outgrown r w → False) (h : WL P n l.toArray Q l r w) : WI ρ P n Q (.region id l.toArray false) r w := by
  intro k ds a ha
  refine wpIn_region (ops_in hnd (no_out hQ) _ a w ?_)
  have h1 := h ds a ha
  rw [List.range_eq_range', ← Array.length_toList, wpOps_eq_wpList l.toArray.toList 0 (by simp)]
  simpa using h1

theorem wi_draw {id : Nat} {l : List Oper} (hm : P.follows .mixedOrders = true) (hnd : noDefer l.toArray = true) (hQ : ∀ r w, Q .outgrown r w → False) (h : FL P n l.toArray Q [] [] [] r w.drew) : WI ρ P n Q (.region id l.toArray true) r w := by
  intro k ds a ha
  refine wpIn_region_draw fun t => ops_in hnd (no_out hQ) _ a _ ?_
  simp only [Region.schedule, hm, Bool.true_or, if_true]
  refine wpAny_sound l.toArray.size t _ a _ ?_
  refine h (by simp) ds [] _ _ a ⟨by simp, by simp, by simp, fun i hi => ?_, ?_, ha.size, ha.defers, fun t _ => ha.val t⟩
  · rw [getD_replicate_false _ _ hi]; rfl
  · unfold unl
    exact Nat.le_trans (List.countP_le_length) (by simp)

theorem wi_cut {x y : Code} (M : Fr → World → Prop) (h1 : WI ρ P n (thenQ M Q) x r w) (h2 : ∀ r w, M r w → WI ρ P n Q y r w) : WI ρ P n Q (x.seq y) r w :=
  wi_seq (h1.mono fun e r w h => by cases e <;> first | exact h2 _ _ h | exact h)

theorem wi_mid {c : Code} {K : Fr → World → Prop} (M : Fr → World → Prop) (h1 : WI ρ P n (thenQ M Q) c r w) (h2 : ∀ r w, M r w → K r w) : WI ρ P n (thenQ K Q) c r w :=
  h1.mono fun e r w h => by cases e <;> first | exact h2 _ _ h | exact h

theorem wi_o {c : Code} {v : Value} (t : Nat) (h : r t = v) (k : WI ρ P n Q c (upd t v r) w) : WI ρ P n Q c r w := by
  rw [upd_eq h] at k
  exact k

/-- A loop, by what holds at each round's head. -/
theorem wi_loop {c : Code} {S : Type} (I : S → Fr → World → Prop) (mu : S → Nat) (s : S) (h0 : I s r w)
    (round : ∀ s r w, I s r w → WI ρ P n (thenQ (fun r' w' => ∃ s', mu s' < mu s ∧ I s' r' w') Q) c r w) : WI ρ P n Q (.loop c) r w := by
  intro k ds a ha b kk cs hro hb hr
  have key : ∀ j s a r w, mu s = j → Has n ds a r → I s r w →
      ∃ e a' w', lift n ds Q e a' w' ∧ ArrivesIn (Machine.fenced P (FR ρ)) P (lone (b.atR a (.code c :: .inLoop c :: kk)) cs w) b kk cs e a' w' := by
    intro j
    induction j using Nat.strongRecOn with
    | _ j ih =>
      intro s a r w hn hh hI
      obtain ⟨e, a₁, w₁, ⟨r₁, hr1, hq⟩, harr⟩ := round s r w hI k ds a hh b (.inLoop c :: kk) cs hro hb hr
      cases e with
      | normal =>
        obtain ⟨s', hlt, hI₁⟩ := hq
        obtain ⟨e₂, a₂, w₂, hq₂, harr₂⟩ := ih (mu s') (hn ▸ hlt) s' a₁ r₁ w₁ rfl hr1 hI₁
        exact ⟨e₂, a₂, w₂, hq₂, .of_steps (StepsIn.trans harr (.one (fenced_calm hb hr rfl) stepR_inLoop)) harr₂⟩
      | exit id => exact ⟨_, a₁, w₁, ⟨r₁, hr1, hq⟩, .pass (x := .inLoop c) rfl (fun _ _ => .inl (by simp)) harr⟩
      | goto l => exact ⟨_, a₁, w₁, ⟨r₁, hr1, hq⟩, .pass (x := .inLoop c) rfl (fun _ _ => .inl (by simp)) harr⟩
      | ret => exact ⟨_, a₁, w₁, ⟨r₁, hr1, hq⟩, .pass (x := .inLoop c) rfl (fun _ _ => .inl (by simp)) harr⟩
      | panic ch => exact ⟨_, a₁, w₁, ⟨r₁, hr1, hq⟩, .pass (x := .inLoop c) rfl (fun _ _ => .inl (by simp)) harr⟩
      | outgrown => exact ⟨_, a₁, w₁, ⟨r₁, hr1, hq⟩, .pass (x := .inLoop c) rfl (fun _ _ => .inl (by simp)) harr⟩
  obtain ⟨e, a', w', hq, harr⟩ := key _ s a r w rfl ha h0
  exact ⟨e, a', w', hq, .of_steps (.one (fenced_calm hb hr rfl) stepR_loop) harr⟩
end

/-- A scope in which nothing jumps to a label. -/
theorem wc_scope {P : Program} {n : Nat} {Q : Po} {r : Fr} {w : World} {c : Code} (hQ : ∀ l r w, Q (.goto l) r w → False) (h : WC P n Q c r w) : WC P n Q (.scope c) r w := by
  intro ds a ha
  refine wp_scope_straight (Code.wp_mono ?_ (h ds a ha))
  rintro e a' w' ⟨r', h1, h2⟩
  cases e with
  | goto l => exact (hQ l r' w' h2).elim
  | _ => exact ⟨r', h1, h2⟩

end K
end Go.Proofs.Ytkbmhhbclbgdpaa
