/-
  The rules for regions, in the form in which the walks name them.
-/
import Derived.Test.YtkbmhhbclbgdpaaB
import Derived.Laws.BytesArg
namespace Go.Proofs.Ytkbmhhbclbgdpaa
open Go Go.RowKit
namespace K
section
variable {P : Program} {n : Nat} {ops : Array Oper} {Q : Po} {r : Fr} {w : World} {done pure lds : List Nat} {d : Nat} {op : Op} {ty : TypeId} {pos : String} {after : Array Edge} {v : Value}

def chkV (ops : Array Oper) (done pure : List Nat) (i d : Nat) : Bool := noSel ops && !done.contains i && freshB ops pure i d && selfOk ops i

theorem obl_of {i : Nat} (hself : selfOk ops i = true) (hns : noSel ops = true) (ho : ops[i]? = some ⟨some d, op, ty, pos, after, none⟩) (hd : Nat.blt d n = true) (hv : Val P op ty r w v w) : obl P n ops (upd d v r) w i := by
  refine ⟨_, d, ho, rfl, hd, ?_⟩
  have hw : Region.wanted (⟨some d, op, ty, pos, after, none⟩ : Oper) (yl ops (upd d v r)) = true := rfl
  rw [if_pos hw]
  have hsd : d ∉ (⟨some d, op, ty, pos, after, none⟩ : Oper).looksAt ops := by
    unfold selfOk at hself
    rw [ho] at hself
    simpa using hself
  have hexec : execOp (ev (upd d v r)) (⟨some d, op, ty, pos, after, none⟩ : Oper) = execOp (ev r) ⟨some d, op, ty, pos, after, none⟩ :=
    exec_congr (ops := ops) (f := upd d v r) (g := r) (noSel_spec hns ho) (fun x hx => by cases x <;> first | rfl | exact absurd rfl (hx _)) (fun _ => rfl) (fun _ => rfl) fun t ht => by
      have : t ≠ d := fun e => hsd (e ▸ ht)
      simp [upd, beq_no this]
  have hr : upd d v r d = v := by simp [upd]
  rw [hexec, hr]
  exact hv _ _ _ _

/-- A reckoning. -/
theorem fl_val (i : Nat) (ho : ops[i]? = some ⟨some d, op, ty, pos, after, none⟩) (hv : ∀ w', Val P op ty r w' v w') (hd : Nat.blt d n = true) (hc : chkV ops done pure i d = true)
    (k : FL P n ops Q (i :: done) (i :: pure) lds (upd d v r) w) : FL P n ops Q done pure lds r w := by
  simp only [chkV, Bool.and_eq_true, Bool.not_eq_true'] at hc
  obtain ⟨⟨⟨h1, h2⟩, h3⟩, h4⟩ := hc
  exact fl_pure i (by unfold dstOf; rw [ho]; rfl) h1 h2 h3 (fun w' => obl_of h4 h1 ho hd (hv w')) k

/-- A read. -/
theorem fl_ld (i : Nat) (ho : ops[i]? = some ⟨some d, op, ty, pos, after, none⟩) (_hv : Val P op ty r w v w) (hc : chkV ops done pure i d = true)
    (k : FL P n ops Q (i :: done) pure (i :: lds) (upd d v r) w) : FL P n ops Q done pure lds r w := by
  simp only [chkV, Bool.and_eq_true, Bool.not_eq_true'] at hc
  obtain ⟨⟨⟨h1, h2⟩, h3⟩, _⟩ := hc
  exact fl_load i (by unfold dstOf; rw [ho]; rfl) h1 h2 h3 k

theorem obl_gd {i j t : Nat} {b want : Bool} (hself : selfOk ops i = true) (hns : noSel ops = true) (ho : ops[i]? = some ⟨some d, op, ty, pos, after, some (j, want)⟩) (hj : dstOf ops j = some t) (ht : Nat.beq t d = false) (hb : r t = .bool b) (hd : Nat.blt d n = true) (hv : b = want → Val P op ty r w v w) :
    obl P n ops (upd d (bif b == want then v else undef) r) w i := by
  refine ⟨_, d, ho, rfl, hd, ?_⟩
  have hne : t ≠ d := by intro e; subst e; simp at ht
  have hy : yl ops (upd d (bif b == want then v else undef) r) j = some b := by
    unfold yl
    rw [hj]
    simp [upd, beq_no hne, hb]
  have hsd : d ∉ (⟨some d, op, ty, pos, after, some (j, want)⟩ : Oper).looksAt ops := by
    unfold selfOk at hself
    rw [ho] at hself
    simpa using hself
  have hexec : execOp (ev (upd d (bif b == want then v else undef) r)) (⟨some d, op, ty, pos, after, some (j, want)⟩ : Oper) = execOp (ev r) ⟨some d, op, ty, pos, after, some (j, want)⟩ :=
    exec_congr (ops := ops) (f := upd d (bif b == want then v else undef) r) (g := r) (noSel_spec hns ho) (fun x hx => by cases x <;> first | rfl | exact absurd rfl (hx _)) (fun _ => rfl) (fun _ => rfl) fun t ht => by
      have : t ≠ d := fun e => hsd (e ▸ ht)
      simp [upd, beq_no this]
  have hr : upd d (bif b == want then v else undef) r d = bif b == want then v else undef := by simp [upd]
  by_cases hbw : b = want
  · subst hbw
    have hw : Region.wanted (⟨some d, op, ty, pos, after, some (j, b)⟩ : Oper) (yl ops (upd d (bif b == b then v else undef) r)) = true := by
      show (yl ops (upd d (bif b == b then v else undef) r) j == some b) = true
      rw [hy]
      simp
    rw [if_pos hw, hexec, hr]
    simp only [beq_self_eq_true, cond_true]
    exact hv rfl _ _ _ _
  · have hw : ¬ Region.wanted (⟨some d, op, ty, pos, after, some (j, want)⟩ : Oper) (yl ops (upd d (bif b == want then v else undef) r)) = true := by simp [Region.wanted, hy, hbw]
    rw [if_neg hw, hr]
    have : (b == want) = false := by simpa using hbw
    rw [this]
    rfl

/-- A guarded reckoning. -/
theorem fl_valg (i : Nat) {j t : Nat} {b want : Bool} (ho : ops[i]? = some ⟨some d, op, ty, pos, after, some (j, want)⟩) (hj : dstOf ops j = some t) (ht : Nat.beq t d = false) (hb : r t = .bool b) (hv : b = want → ∀ w', Val P op ty r w' v w') (hd : Nat.blt d n = true) (hc : chkV ops done pure i d = true)
    (k : FL P n ops Q (i :: done) (i :: pure) lds (upd d (bif b == want then v else undef) r) w) : FL P n ops Q done pure lds r w := by
  simp only [chkV, Bool.and_eq_true, Bool.not_eq_true'] at hc
  obtain ⟨⟨⟨h1, h2⟩, h3⟩, h4⟩ := hc
  exact fl_pure i (by unfold dstOf; rw [ho]; rfl) h1 h2 h3 (fun w' => obl_gd h4 h1 ho hj ht hb hd fun e => hv e w') k

/-- A guarded read. -/
theorem fl_ldg (i : Nat) {j t : Nat} {b want : Bool} (ho : ops[i]? = some ⟨some d, op, ty, pos, after, some (j, want)⟩) (_hb : r t = .bool b) (_hj : dstOf ops j = some t) (_hv : b = want → Val P op ty r w v w) (hc : chkV ops done pure i d = true)
    (k : FL P n ops Q (i :: done) pure (i :: lds) (upd d (bif b == want then v else undef) r) w) : FL P n ops Q done pure lds r w := by
  simp only [chkV, Bool.and_eq_true, Bool.not_eq_true'] at hc
  obtain ⟨⟨⟨h1, h2⟩, h3⟩, _⟩ := hc
  exact fl_load i (by unfold dstOf; rw [ho]; rfl) h1 h2 h3 k

/-- What is asked of the reads that are taken. -/
def Obls (P : Program) (n : Nat) (ops : Array Oper) (r : Fr) (w : World) : List Nat → Prop
  | [] => True
  | i :: l => obl P n ops r w i ∧ Obls P n ops r w l

theorem Obls.all : ∀ {l : List Nat}, Obls P n ops r w l → ∀ i ∈ l, obl P n ops r w i
  | [], _ => by simp
  | j :: l, h => by
    intro i hi
    rcases List.mem_cons.1 hi with e | e
    · rw [e]; exact h.1
    · exact Obls.all h.2 i e

/-- A read yields what the frame has. -/
theorem obl_ld {i : Nat} (ho : ops[i]? = some ⟨some d, op, ty, pos, after, none⟩) (hd : Nat.blt d n = true) (hr : r d = v) (hv : Val P op ty r w v w) : obl P n ops r w i := by
  refine ⟨_, d, ho, rfl, hd, ?_⟩
  rw [if_pos (by rfl), hr]
  exact hv _ _ _ _

theorem obl_ldg {i j t : Nat} {b want : Bool} {v' : Value} (ho : ops[i]? = some ⟨some d, op, ty, pos, after, some (j, want)⟩) (hj : dstOf ops j = some t) (hb : r t = .bool b) (hd : Nat.blt d n = true) (hr : r d = bif b == want then v else v') (hv' : v' = undef) (hv : b = want → Val P op ty r w v w) : obl P n ops r w i := by
  subst hv'
  refine ⟨_, d, ho, rfl, hd, ?_⟩
  have hy : yl ops r j = some b := by
    unfold yl
    rw [hj]
    simp [hb]
  by_cases hbw : b = want
  · subst hbw
    have hw : Region.wanted (⟨some d, op, ty, pos, after, some (j, b)⟩ : Oper) (yl ops r) = true := by simp [Region.wanted, hy]
    rw [if_pos hw, hr]
    simp only [beq_self_eq_true, cond_true]
    exact hv rfl _ _ _ _
  · have hw : ¬ Region.wanted (⟨some d, op, ty, pos, after, some (j, want)⟩ : Oper) (yl ops r) = true := by simp [Region.wanted, hy, hbw]
    rw [if_neg hw, hr]
    have : (b == want) = false := by simpa using hbw
    rw [this]
    rfl

def chkE (ops : Array Oper) (done pure lds ks : List Nat) : Bool :=
  readyOf ops done == ks && !ks.isEmpty && backward ops && noSel ops && okAll ops (pure ++ lds) && ks.all (effOk ops (pure ++ lds))

def chkE1 (ops : Array Oper) (done pure lds : List Nat) (k : Nat) (pure' lds' : List Nat) : Bool := chkE ops done pure lds [k] && leave ops k pure == pure' && leave ops k lds == lds'

/-- The one effect that comes up. -/
theorem fl_eff1 (k : Nat) (pure' lds' : List Nat) (hc : chkE1 ops done pure lds k pure' lds' = true) (hl : Obls P n ops r w lds) {o : Oper} (ho : ops[k]? = some o)
    (h : WL P n ops (fun e r' w' => e = .normal ∧ FL P n ops Q (k :: done) pure' lds' r' w') [o] r w) : FL P n ops Q done pure lds r w := by
  simp only [chkE1, chkE, Bool.and_eq_true, beq_iff_eq] at hc
  obtain ⟨⟨⟨⟨⟨⟨⟨h1, h2⟩, h3⟩, h4⟩, h5⟩, h6⟩, h7⟩, h8⟩ := hc
  refine fl_eff [k] h1 (by simp) h3 h4 h5 h6 hl.all fun j hj => ?_
  have : j = k := by simpa using hj
  subst this
  refine ⟨o, ho, ?_⟩
  rw [h7, h8]
  exact h

/-- Several effects that may come up: each is walked. -/
theorem fl_effs (ks : List Nat) (hc : chkE ops done pure lds ks = true) (hl : Obls P n ops r w lds) (h : ∀ k ∈ ks, StepE P n ops Q done pure lds r w k) : FL P n ops Q done pure lds r w := by
  simp only [chkE, Bool.and_eq_true, beq_iff_eq] at hc
  obtain ⟨⟨⟨⟨⟨h1, h2⟩, h3⟩, h4⟩, h5⟩, h6⟩ := hc
  exact fl_eff ks h1 (by intro e; subst e; simp at h2) h3 h4 h5 h6 hl.all h

theorem stepE (k : Nat) {pure' lds' : List Nat} {o : Oper} (ho : ops[k]? = some o) (h1 : leave ops k pure = pure') (h2 : leave ops k lds = lds')
    (h : WL P n ops (fun e r' w' => e = .normal ∧ FL P n ops Q (k :: done) pure' lds' r' w') [o] r w) : StepE P n ops Q done pure lds r w k := by
  subst h1
  subst h2
  exact ⟨o, ho, h⟩

theorem all2 {p : Nat → Prop} {a b : Nat} (ha : p a) (hb : p b) : ∀ k ∈ [a, b], p k := by
  intro k hk
  simp only [List.mem_cons, List.not_mem_nil, or_false] at hk
  rcases hk with rfl | rfl
  · exact ha
  · exact hb

theorem all3 {p : Nat → Prop} {a b c : Nat} (ha : p a) (hb : p b) (hc : p c) : ∀ k ∈ [a, b, c], p k := by
  intro k hk
  simp only [List.mem_cons, List.not_mem_nil, or_false] at hk
  rcases hk with rfl | rfl | rfl
  · exact ha
  · exact hb
  · exact hc

def chkN (ops : Array Oper) (done pure lds : List Nat) : Bool := (List.range ops.size).all done.contains && backward ops && noSel ops && okAll ops (pure ++ lds)

theorem fl_nil (hc : chkN ops done pure lds = true) (hl : Obls P n ops r w lds) (h : Q .normal r w) : FL P n ops Q done pure lds r w := by
  simp only [chkN, Bool.and_eq_true] at hc
  obtain ⟨⟨⟨h1, h2⟩, h3⟩, h4⟩ := hc
  exact fl_end h1 h2 h3 h4 hl.all h

/-- The same done in another order. -/
theorem FL.perm {done' pure1 lds1 : List Nat} (hd : ∀ i, done.contains i = done'.contains i) (hp : ∀ i, i ∈ pure → i ∈ pure1) (hq : ∀ i, i ∈ pure1 → i ∈ pure) (hl : ∀ i, i ∈ lds → i ∈ lds1) (h : FL P n ops Q done' pure1 lds1 r w) : FL P n ops Q done pure lds r w := by
  intro hpure ds X listed fuel a s
  refine h (fun i hi => hpure i (hq i hi)) ds X listed fuel a ⟨fun x hx => ?_, fun x hx => ?_, s.size, fun i hi => ?_, s.fuel, s.asize, s.defers, s.agree⟩
  · rcases List.mem_append.1 (s.sub x hx) with e | e
    · exact List.mem_append.2 (.inl (hp x e))
    · exact List.mem_append.2 (.inr (hl x e))
  · rw [← hd]; exact s.subd x hx
  · rw [s.told i hi, hd]

/-- A slot of which something is known is written out. -/
theorem wc_o {c : Code} (t : Nat) (h : r t = v) (k : WC P n Q c (upd t v r) w) : WC P n Q c r w := by
  rw [upd_eq h] at k
  exact k

theorem lt_ok {a b : Nat} (h : Nat.blt a b = true) : a < b := Nat.blt_eq.mp h
theorem one_int {k : IntKind} {x : Int} : (Value.int k x).oneCell' = true := rfl
theorem one_bool {x : Bool} : (Value.bool x).oneCell' = true := rfl
theorem one_slice {a : Option Addr} {x y : Nat} : (Value.slice a x y).oneCell' = true := rfl
theorem one_ptr {a : Option Addr} : (Value.pointer a).oneCell' = true := rfl
theorem one_string {a : ByteArray} : (Value.string a).oneCell' = true := rfl

/-- Guards that are decided, in a region that draws its order. -/
theorem fl_on (i : Nat) {j t : Nat} {want : Bool} (ho : ops[i]? = some ⟨some d, op, ty, pos, after, some (j, want)⟩) (hj : dstOf ops j = some t) (ht : Nat.beq t d = false) (hb : r t = .bool want) (hv : ∀ w', Val P op ty r w' v w') (hd : Nat.blt d n = true) (hc : chkV ops done pure i d = true)
    (k : FL P n ops Q (i :: done) (i :: pure) lds (upd d v r) w) : FL P n ops Q done pure lds r w := by
  refine fl_valg (v := v) i ho hj ht hb (fun _ => hv) hd hc ?_
  have : (bif want == want then v else undef) = v := by cases want <;> rfl
  rw [this]
  exact k

theorem fl_off (i : Nat) {j t : Nat} {b want : Bool} (ho : ops[i]? = some ⟨some d, op, ty, pos, after, some (j, want)⟩) (hj : dstOf ops j = some t) (ht : Nat.beq t d = false) (hb : r t = .bool b) (hne : (b == want) = false) (hd : Nat.blt d n = true) (hc : chkV ops done pure i d = true)
    (k : FL P n ops Q (i :: done) (i :: pure) lds (upd d undef r) w) : FL P n ops Q done pure lds r w := by
  have hbw : b ≠ want := by intro e; subst e; simp at hne
  refine fl_valg (v := undef) i ho hj ht hb (fun e => absurd e hbw) hd hc ?_
  have : (bif b == want then undef else undef) = undef := by cases b == want <;> rfl
  rw [this]
  exact k

theorem obl_u {i j t : Nat} {want : Bool} (ho : ops[i]? = some ⟨some d, op, ty, pos, after, some (j, want)⟩) (hj : dstOf ops j = some t) (hb : r t = undef) (hd : Nat.blt d n = true) (hr : r d = undef) : obl P n ops r w i := by
  refine ⟨_, d, ho, rfl, hd, ?_⟩
  have hy : yl ops r j = none := by
    unfold yl
    rw [hj]
    simp [hb, undef]
  have hw : ¬ Region.wanted (⟨some d, op, ty, pos, after, some (j, want)⟩ : Oper) (yl ops r) = true := by
    show ¬ (yl ops r j == some want) = true
    rw [hy]; simp
  rw [if_neg hw, hr]

theorem fl_u (i : Nat) {j t : Nat} {want : Bool} (ho : ops[i]? = some ⟨some d, op, ty, pos, after, some (j, want)⟩) (hj : dstOf ops j = some t) (ht : Nat.beq t d = false) (hb : r t = undef) (hd : Nat.blt d n = true) (hc : chkV ops done pure i d = true)
    (k : FL P n ops Q (i :: done) (i :: pure) lds (upd d undef r) w) : FL P n ops Q done pure lds r w := by
  simp only [chkV, Bool.and_eq_true, Bool.not_eq_true'] at hc
  obtain ⟨⟨⟨h1, h2⟩, h3⟩, h4⟩ := hc
  have hne : t ≠ d := by intro e; subst e; simp at ht
  refine fl_pure i (by unfold dstOf; rw [ho]; rfl) h1 h2 h3 (fun w' => obl_u ho hj ?_ hd ?_) k
  · simp [upd, beq_no hne, hb]
  · simp [upd]

theorem fl_ond (i : Nat) {j t : Nat} {want : Bool} (ho : ops[i]? = some ⟨some d, op, ty, pos, after, some (j, want)⟩) (_hj : dstOf ops j = some t) (_ht : Nat.beq t d = false) (_hb : r t = .bool want) (_hv : Val P op ty r w v w) (_hd : Nat.blt d n = true) (hc : chkV ops done pure i d = true)
    (k : FL P n ops Q (i :: done) pure (i :: lds) (upd d v r) w) : FL P n ops Q done pure lds r w := by
  simp only [chkV, Bool.and_eq_true, Bool.not_eq_true'] at hc
  obtain ⟨⟨⟨h1, h2⟩, h3⟩, _⟩ := hc
  exact fl_load i (by unfold dstOf; rw [ho]; rfl) h1 h2 h3 k

theorem fl_offd (i : Nat) {j t : Nat} {b want : Bool} (ho : ops[i]? = some ⟨some d, op, ty, pos, after, some (j, want)⟩) (_hj : dstOf ops j = some t) (_ht : Nat.beq t d = false) (_hb : r t = .bool b) (_hne : (b == want) = false) (_hd : Nat.blt d n = true) (hc : chkV ops done pure i d = true)
    (k : FL P n ops Q (i :: done) pure (i :: lds) (upd d undef r) w) : FL P n ops Q done pure lds r w := by
  simp only [chkV, Bool.and_eq_true, Bool.not_eq_true'] at hc
  obtain ⟨⟨⟨h1, h2⟩, h3⟩, _⟩ := hc
  exact fl_load i (by unfold dstOf; rw [ho]; rfl) h1 h2 h3 k

theorem fl_ud (i : Nat) {j t : Nat} {want : Bool} (ho : ops[i]? = some ⟨some d, op, ty, pos, after, some (j, want)⟩) (_hj : dstOf ops j = some t) (_ht : Nat.beq t d = false) (_hb : r t = undef) (_hd : Nat.blt d n = true) (hc : chkV ops done pure i d = true)
    (k : FL P n ops Q (i :: done) pure (i :: lds) (upd d undef r) w) : FL P n ops Q done pure lds r w := by
  simp only [chkV, Bool.and_eq_true, Bool.not_eq_true'] at hc
  obtain ⟨⟨⟨h1, h2⟩, h3⟩, _⟩ := hc
  exact fl_load i (by unfold dstOf; rw [ho]; rfl) h1 h2 h3 k

theorem obl_on {i j t : Nat} {want : Bool} (ho : ops[i]? = some ⟨some d, op, ty, pos, after, some (j, want)⟩) (hj : dstOf ops j = some t) (hb : r t = .bool want) (hd : Nat.blt d n = true) (hr : r d = v) (hv : Val P op ty r w v w) : obl P n ops r w i :=
  obl_ldg (v := v) (v' := undef) ho hj hb hd (by rw [hr]; cases want <;> rfl) rfl fun _ => hv

theorem obl_off {i j t : Nat} {b want : Bool} (ho : ops[i]? = some ⟨some d, op, ty, pos, after, some (j, want)⟩) (hj : dstOf ops j = some t) (hb : r t = .bool b) (hd : Nat.blt d n = true) (hne : (b == want) = false) (hr : r d = undef) : obl P n ops r w i := by
  have hbw : b ≠ want := by intro e; subst e; simp at hne
  exact obl_ldg (v := undef) (v' := undef) ho hj hb hd (by rw [hr]; cases b == want <;> rfl) rfl fun e => absurd e hbw

/-- Where ways meet again, behind what was begun as a sequence. -/
theorem wc_mid {c : Code} {K : Fr → World → Prop} (M : Fr → World → Prop) (h1 : WC P n (thenQ M Q) c r w) (h2 : ∀ r w, M r w → K r w) : WC P n (thenQ K Q) c r w := by
  refine h1.mono ?_
  intro e r w h
  cases e with
  | normal => exact h2 r w h
  | _ => exact h

/-- Where ways meet again. -/
theorem wc_cut {x y : Code} (M : Fr → World → Prop) (h1 : WC P n (thenQ M Q) x r w) (h2 : ∀ r w, M r w → WC P n Q y r w) : WC P n Q (x.seq y) r w := by
  refine wc_seq (h1.mono ?_)
  intro e r w h
  cases e with
  | normal => exact h2 r w h
  | _ => exact h


/-- A guard that says yes; that says no. -/
theorem wl_on {rest : List Oper} {dst : Option Nat} {j t : Nat} {want : Bool} (hj : (ops[j]?).bind (·.dst) = some t) (hb : r t = .bool want) (h : WL P n ops Q (⟨dst, op, ty, pos, after, none⟩ :: rest) r w) :
    WL P n ops Q (⟨dst, op, ty, pos, after, some (j, want)⟩ :: rest) r w := by
  intro ds a ha
  have hy : yielded ops a.tmps j = some want := by
    rw [yielded_yl ha.val]
    unfold yl dstOf
    rw [hj]
    simp [hb]
  have h1 := h ds a ha
  unfold wpList at h1 ⊢
  have hwn : Region.wanted (⟨dst, op, ty, pos, after, some (j, want)⟩ : Oper) (yielded ops a.tmps) = true := by
    show (yielded ops a.tmps j == some want) = true
    rw [hy]; simp
  rw [if_pos hwn]
  rw [if_pos (by rfl)] at h1
  exact h1

theorem wl_off {rest : List Oper} {j t : Nat} {b want : Bool} (hj : (ops[j]?).bind (·.dst) = some t) (hb : r t = .bool b) (hne : (b == want) = false) (hd : Nat.blt d n = true) (h : WL P n ops Q rest (upd d undef r) w) :
    WL P n ops Q (⟨some d, op, ty, pos, after, some (j, want)⟩ :: rest) r w := by
  intro ds a ha
  have hy : yielded ops a.tmps j = some b := by
    rw [yielded_yl ha.val]
    unfold yl dstOf
    rw [hj]
    simp [hb]
  unfold wpList
  have hwn : ¬ Region.wanted (⟨some d, op, ty, pos, after, some (j, want)⟩ : Oper) (yielded ops a.tmps) = true := by
    intro hw
    have hw' : (yielded ops a.tmps j == some want) = true := hw
    rw [hy] at hw'
    simp at hw' hne
    exact hne hw'
  rw [if_neg hwn]
  exact h ds _ (ha.put hd _)

/-- A guarded operation whose yes or no was not used: it turned its slot into something. -/
theorem offU {rest : List Oper} {j t : Nat} {want : Bool} (hj : (ops[j]?).bind (·.dst) = some t) (hb : r t = undef) (hd : Nat.blt d n = true) (h : WL P n ops Q rest (upd d undef r) w) :
    WL P n ops Q (⟨some d, op, ty, pos, after, some (j, want)⟩ :: rest) r w := by
  intro ds a ha
  have hy : yielded ops a.tmps j = none := by
    rw [yielded_yl ha.val]
    unfold yl dstOf
    rw [hj]
    simp [hb, undef]
  unfold wpList
  have hwn : ¬ Region.wanted (⟨some d, op, ty, pos, after, some (j, want)⟩ : Oper) (yielded ops a.tmps) = true := by
    intro hw
    have hw' : (yielded ops a.tmps j == some want) = true := hw
    rw [hy] at hw'
    simp at hw'
  rw [if_neg hwn]
  exact h ds _ (ha.put hd _)

/-- What a call that makes unchanging memory leaves. -/
def Out (m : Mem) (w w' : World) (R : Mem → Prop) : Prop := Tch w w' [] [] ∧ ∃ m', Grow m m' w.heap.size ∧ Im m' w' ∧ R m'

theorem St.out {m0 m : Mem} {w0 w : World} {Es : List Ent} {R : Mem → Prop} (st : St m0 m [] w0 w Es) (h : R m) : Out m0 w0 w R := ⟨st.touch, m, st.grow, st.im, h⟩

section ret
variable {R : Value → World → Prop}

theorem ret0 (h : R (.tuple #[]) w) : bodyQ P [] R .ret r w := ⟨[], trivial, h⟩
theorem ret1 {t : Nat} (ht : r t = v) (h : R v w) : bodyQ P [.tmp t] R .ret r w := ⟨[v], ⟨ht, trivial⟩, h⟩
theorem ret1c {t T : Nat} {p : Addr} (ht : r t = .pointer (some p)) (hr : Reads P w T p v) (h : R v w) : bodyQ P [.cell t T] R .ret r w := ⟨[v], ⟨⟨p, ht, hr⟩, trivial⟩, h⟩
theorem ret2 {t u : Nat} {v' : Value} (ht : r t = v) (hu : r u = v') (h : R (.tuple #[v, v']) w) : bodyQ P [.tmp t, .tmp u] R .ret r w := ⟨[v, v'], ⟨ht, hu, trivial⟩, h⟩
theorem ret2c {t T u : Nat} {p : Addr} {v' : Value} (ht : r t = .pointer (some p)) (hr : Reads P w T p v) (hu : r u = v') (h : R (.tuple #[v, v']) w) : bodyQ P [.cell t T, .tmp u] R .ret r w := ⟨[v, v'], ⟨⟨p, ht, hr⟩, hu, trivial⟩, h⟩
theorem ret2d {t u U : Nat} {p : Addr} {v' : Value} (ht : r t = v) (hu : r u = .pointer (some p)) (hr : Reads P w U p v') (h : R (.tuple #[v, v']) w) : bodyQ P [.tmp t, .cell u U] R .ret r w := ⟨[v, v'], ⟨ht, ⟨p, hu, hr⟩, trivial⟩, h⟩
theorem end0 (h : R (.tuple #[]) w) : bodyQ P [] R .normal r w := ⟨[], trivial, h⟩
theorem ret2cc {t T u U : Nat} {p p' : Addr} {v' : Value} (ht : r t = .pointer (some p)) (hr : Reads P w T p v) (hu : r u = .pointer (some p')) (hr' : Reads P w U p' v') (h : R (.tuple #[v, v']) w) : bodyQ P [.cell t T, .cell u U] R .ret r w := ⟨[v, v'], ⟨⟨p, ht, hr⟩, ⟨p', hu, hr'⟩, trivial⟩, h⟩
end ret

/-- A text of bytes. -/
def strB (l : List UInt8) : ByteArray := ⟨l.toArray⟩

theorem strB_toList (l : List UInt8) : (strB l).toList = l := by
  rw [ByteArray.toList_eq]
  rfl

theorem nums_strB (l : List UInt8) : strOfNums (l.map fun x => (x.toNat : Int)) = strB l := by
  unfold strOfNums strB
  congr 1
  congr 1
  rw [List.map_map]
  conv => rhs; rw [← List.map_id l]
  refine List.map_congr_left fun x _ => ?_
  simp

theorem v_b2s {T E S : TypeId} {x : Operand} {m : Mem} {b : Value} {l : List UInt8} (hT : P.underlying T = some (.slice E)) (hE : P.underlying E = some (.int .u8)) (hS : P.underlying S = some .string)
    (him : Im m w) (hb : SlM m b 1 l.length (bs l)) (hx : ev r x = b) : Val P (.convert T S x) ty r w (.string (strB l)) w := by
  intro _ _ _ _
  have key : (convert T S b).run P w = .ok (.string (strB l)) w := by
    have hb0 := hb
    obtain ⟨hl, a, c, rfl, hc, hn, h1⟩ := hb
    by_cases h0 : l = []
    · subst h0
      cases a with
      | none => exact run_convert_bytes_nil w T E hT hE _ _ S hS
      | some p =>
        have := run_convert_bytes_arg w T E hT hE p.block p.off 0 c [] rfl (fun i hi => by omega) S hS
        simp only [convert, Sem.run_bind, run_underlying hT, run_underlying hS, Result.andThen_ok, run_underlying hE]
        simp [Conv.bytesToString, loadCells, loadCellsFrom, strB]
        rfl
    · have hpos : 0 < l.length := List.length_pos_iff.2 h0
      obtain ⟨b, o, cap, he, _, _⟩ := hb0.rd P (by simpa [bs] using hpos)
      cases he
      have := run_convert_bytes_arg w T E hT hE b o l.length c (l.map fun x => (x.toNat : Int)) (by simp) (fun i hi => by
        obtain ⟨b', o', cc, t, fr, h2, h3, h4⟩ := h1 i (u8 l[i]) (by simp [bs, hi])
        cases h2
        rw [cell_of_row w b (o + i) cc t fr (him b _ h3), h4]
        simp [u8, List.getD, hi]) S hS
      rw [nums_strB] at this
      exact this
  simp only [execOp, hx, Sem.run_bind, key, Result.andThen_ok, Sem.run_pure]

theorem v_eqs {T U : TypeId} {x y : Operand} {a b : List UInt8} (hx : ev r x = .string (strB a)) (hy : ev r y = .string (strB b)) : Val P (.binOp .eql T x y U) ty r w (.bool (decide (a = b))) w := by
  intro _ _ _ _
  simp only [execOp, eqGuard, hx, hy, binOp, Op.stringOp, strB_toList, Sem.run_bind, Sem.run_pure, Result.andThen_ok]
  by_cases h : a = b
  · subst h; simp
  · simp [h]

end
end K
end Go.Proofs.Ytkbmhhbclbgdpaa
