/-
  A region whose operations may be carried out in more than one order: walked once, its reads and reckonings first, its effects in each order that the edges allow.
-/
import Derived.Test.YtkbmhhbclbgdpaaM
namespace Go.Proofs.Ytkbmhhbclbgdpaa
open Go Go.RowKit
namespace K

def dstOf (ops : Array Oper) (i : Nat) : Option Tmp := (ops[i]?).bind (·.dst)

/-- Which bool an operation has yielded, in a frame. -/
def yl (ops : Array Oper) (r : Fr) (j : Nat) : Option Bool :=
  match (dstOf ops j).map r with
  | some (.bool b) => some b
  | _ => none

/-- Reading i yields in this world what the frame has. -/
def obl (P : Program) (n : Nat) (ops : Array Oper) (r : Fr) (w : World) (i : Nat) : Prop :=
  ∃ o d, ops[i]? = some o ∧ o.dst = some d ∧ Nat.blt d n = true ∧
    if Region.wanted o (yl ops r) then (execOp (ev r) o).run P w = .ok (.value (r d)) w else r d = undef

/-- x may be carried out ahead of o or behind it: neither looks at what the other writes. -/
def apartB (ops : Array Oper) (x y : Nat) : Bool :=
  match ops[x]?, ops[y]? with
  | some o, some o' => Oper.apart ops o o'
  | _, _ => false

def depsIn (ops : Array Oper) (done : List Nat) (i : Nat) : Bool :=
  match ops[i]? with
  | some o => o.after.all fun e => !Region.binds .any e || done.contains e.on
  | none => false

def behind (ops : Array Oper) (x k : Nat) : Bool :=
  match ops[k]? with
  | some o => o.after.any fun e => Region.binds .any e && e.on == x
  | none => false

def backward (ops : Array Oper) : Bool := (List.range ops.size).all fun i => match ops[i]? with | some o => o.after.all fun e => !Region.binds .any e || Nat.blt e.on i | none => true

def noSel (ops : Array Oper) : Bool := (List.range ops.size).all fun i => match ops[i]? with | some o => (match o.op with | .select .. => false | _ => true) | none => true

def unl (size : Nat) (listed : Array Bool) : Nat := (List.range size).countP fun i => !listed.getD i true

section
variable {P : Program} {n : Nat} {ops : Array Oper} {Q : Po} {r : Fr} {w : World}

/-- A state of the region: of what is taken as done X is not done yet. -/
structure RS (n : Nat) (ops : Array Oper) (done pend : List Nat) (r : Fr) (X : List Nat) (listed : Array Bool) (fuel : Nat) (ds : List Deferred) (a : Act) : Prop where
  sub : ∀ x ∈ X, x ∈ pend
  subd : ∀ x ∈ X, done.contains x = true
  size : listed.size = ops.size
  told : ∀ i, i < ops.size → listed.getD i true = (done.contains i && !X.contains i)
  fuel : unl ops.size listed ≤ fuel
  asize : a.tmps.size = n
  defers : a.defers = ds
  agree : ∀ t, (∀ x ∈ X, dstOf ops x ≠ some t) → a.tmps.getD t undef = r t

def FL (P : Program) (n : Nat) (ops : Array Oper) (Q : Po) (done pure lds : List Nat) (r : Fr) (w : World) : Prop :=
  (∀ i ∈ pure, ∀ w', obl P n ops r w' i) → ∀ ds X listed fuel a, RS n ops done (pure ++ lds) r X listed fuel ds a → wpAny P .any ops (lift n ds Q) fuel listed a w

theorem getD_replicate_false (k i : Nat) (h : i < k) : (Array.replicate k false).getD i true = false := by
  simp [Array.getD, h]

theorem wc_draw {id : Nat} {l : List Oper} (hm : P.follows .mixedOrders = true) (h : FL P n l.toArray Q [] [] [] r w.drew) : WC P n Q (.region id l.toArray true) r w := by
  intro ds a ha
  refine wp_region_any hm ?_
  refine h (by simp) ds [] _ _ a ⟨by simp, by simp, by simp, fun i hi => ?_, ?_, ha.size, ha.defers, fun t _ => ha.val t⟩
  · rw [getD_replicate_false _ _ hi]; rfl
  · unfold unl
    exact Nat.le_trans (List.countP_le_length) (by simp)

theorem yl_congr {r r' : Fr} {j : Nat} (h : ∀ d, dstOf ops j = some d → r d = r' d) : yl ops r j = yl ops r' j := by
  unfold yl
  cases hd : dstOf ops j with
  | none => rfl
  | some d => simp only [Option.map_some]; rw [h d hd]

theorem looks_guard {o : Oper} {g : Nat} {want : Bool} {d : Tmp} (hg : o.guard = some (g, want)) (hd : dstOf ops g = some d) : d ∈ o.looksAt ops := by
  unfold Oper.looksAt
  rw [hg]
  refine List.mem_append_right _ ?_
  simp only [dstOf] at hd
  simp [hd]

theorem looks_op {o : Oper} {d : Tmp} (h : (Operand.tmp d) ∈ o.op.operands) : d ∈ o.looksAt ops := by
  unfold Oper.looksAt
  exact List.mem_append_left _ (List.mem_filterMap.2 ⟨.tmp d, by simpa using h, rfl⟩)

theorem exec_congr {o : Oper} {ra rb : Operand → Value} {f g : Fr} (hs : ∀ cs b, o.op ≠ .select cs b) (ha : ∀ x, (∀ t, x ≠ .tmp t) → ra x = rb x) (hf : ∀ t, ra (.tmp t) = f t) (hg : ∀ t, rb (.tmp t) = g t)
    (h : ∀ t ∈ o.looksAt ops, f t = g t) : execOp ra o = execOp rb o := by
  refine execOp_congr o hs fun x hx => ?_
  cases x with
  | tmp t => rw [hf, hg]; exact h t (looks_op hx)
  | const v => exact ha _ (by intro t; exact Operand.noConfusion)
  | global v => exact ha _ (by intro t; exact Operand.noConfusion)
  | func v => exact ha _ (by intro t; exact Operand.noConfusion)

theorem wanted_congr {o : Oper} {y y' : Nat → Option Bool} (h : ∀ g want, o.guard = some (g, want) → y g = y' g) : Region.wanted o y = Region.wanted o y' := by
  unfold Region.wanted
  cases hg : o.guard with
  | none => rfl
  | some gw => obtain ⟨g, want⟩ := gw; simp only; rw [h g want hg]

theorem yielded_yl {a : Act} {f : Fr} (h : ∀ t, a.tmps.getD t undef = f t) (j : Nat) : yielded ops a.tmps j = yl ops f j := by
  unfold yielded yl dstOf
  cases hd : (ops[j]?).bind (·.dst) with
  | none => rfl
  | some d =>
    simp only [Option.bind_some, Option.map_some]
    rw [← h d, Array.getD_eq_getD_getElem?]
    cases a.tmps[d]? with
    | none => rfl
    | some v => rfl

theorem noSel_spec (h : noSel ops = true) {i : Nat} {o : Oper} (ho : ops[i]? = some o) : ∀ cs b, o.op ≠ .select cs b := by
  intro cs b he
  have hi : i < ops.size := by
    rcases Nat.lt_or_ge i ops.size with h' | h'
    · exact h'
    · rw [Array.getElem?_eq_none h'] at ho; cases ho
  have := (List.all_eq_true.1 h) i (List.mem_range.2 hi)
  rw [ho] at this
  simp [he] at this

theorem unl_set {listed : Array Bool} (hs : listed.size = ops.size) {i : Nat} (hi : i < ops.size) (hn : listed.getD i true = false) : unl ops.size (listed.setIfInBounds i true) + 1 = unl ops.size listed := by
  unfold unl
  have key : ∀ l : List Nat, l.Nodup → i ∈ l → (l.countP fun j => !(listed.setIfInBounds i true).getD j true) + 1 = l.countP fun j => !listed.getD j true := by
    intro l
    induction l with
    | nil => intro _ h; cases h
    | cons x l ih =>
      intro hnd hm
      have hnd' := List.nodup_cons.1 hnd
      have hi' : i < listed.size := by omega
      by_cases hx : x = i
      · subst hx
        have hrest : (l.countP fun j => !(listed.setIfInBounds x true).getD j true) = l.countP fun j => !listed.getD j true := by
          refine List.countP_congr fun j hj => ?_
          have hne : x ≠ j := fun e => hnd'.1 (e ▸ hj)
          simp only [Array.getD_eq_getD_getElem?, Array.getElem?_setIfInBounds_ne hne]
        have h1 : (listed.setIfInBounds x true).getD x true = true := by simp [Array.getD_eq_getD_getElem?, hi']
        rw [List.countP_cons, List.countP_cons, h1, hn, hrest]
        simp
      · have hm' : i ∈ l := by rcases List.mem_cons.1 hm with e | e; exact absurd e.symm hx; exact e
        have := ih hnd'.2 hm'
        have hne : i ≠ x := fun e => hx e.symm
        have h1 : (listed.setIfInBounds i true).getD x true = listed.getD x true := by simp only [Array.getD_eq_getD_getElem?, Array.getElem?_setIfInBounds_ne hne]
        rw [List.countP_cons, List.countP_cons, h1]
        omega
  exact key _ List.nodup_range (List.mem_range.2 hi)

theorem unl_pos {listed : Array Bool} {i : Nat} (hi : i < ops.size) (hn : listed.getD i true = false) : 0 < unl ops.size listed := by
  unfold unl
  exact List.countP_pos_iff.2 ⟨i, List.mem_range.2 hi, by simp [hn]⟩

theorem mem_ready {listed : Array Bool} {i : Nat} : i ∈ Region.ready .any ops listed ↔ i < ops.size ∧ listed.getD i true = false ∧ ∃ o, ops[i]? = some o ∧ ∀ e ∈ o.after, Region.binds .any e = true → listed.getD e.on false = true := by
  unfold Region.ready
  rw [List.mem_filter, List.mem_range]
  constructor
  · rintro ⟨h1, h2⟩
    refine ⟨h1, ?_⟩
    cases ho : ops[i]? with
    | none => simp [ho] at h2
    | some o =>
      simp only [ho, Option.map_some, Option.getD_some, Bool.and_eq_true, Bool.not_eq_true'] at h2
      refine ⟨h2.1, o, rfl, fun e he hb => ?_⟩
      have := Array.all_eq_true'.1 h2.2 e he
      simpa [hb] using this
  · rintro ⟨h1, h2, o, ho, h3⟩
    refine ⟨h1, ?_⟩
    rw [ho]
    simp only [h2, Option.map_some, Option.getD_some, Bool.not_false, Bool.true_and]
    refine Array.all_eq_true'.2 fun e he => ?_
    cases hb : Region.binds .any e with
    | false => rfl
    | true => simp [h3 e he hb]

theorem ready_nil {listed : Array Bool} (hb : backward ops = true) (hs : listed.size = ops.size) (h : Region.ready .any ops listed = []) : ∀ i, i < ops.size → listed.getD i true = true := by
  intro i
  induction i using Nat.strongRecOn with
  | _ i ih =>
    intro hi
    cases hl : listed.getD i true with
    | true => rfl
    | false =>
      have hmem : i ∈ Region.ready .any ops listed := by
        refine mem_ready.2 ⟨hi, hl, ops[i], Array.getElem?_eq_getElem hi, fun e he hbe => ?_⟩
        have h1 := (List.all_eq_true.1 hb) i (List.mem_range.2 hi)
        rw [Array.getElem?_eq_getElem hi] at h1
        have h2 := Array.all_eq_true'.1 h1 e he
        simp only [hbe, Bool.not_true, Bool.false_or] at h2
        have hlt : e.on < i := Nat.blt_eq.mp h2
        have h3 := ih e.on hlt (by omega)
        have hlt' : e.on < listed.size := by omega
        simp only [Array.getD, hlt', dite_true] at h3 ⊢
        exact h3
      rw [h] at hmem
      cases hmem

theorem Oper.wp_to {o : Oper} {a : Act} {w : World} {K : Act → World → Prop} {Q Q' : Exit → Act → World → Prop} (h : o.wp P a w K Q) (hp : ∀ c a w, Q (.panic c) a w → Q' (.panic c) a w) (ho : LetsOut Q → LetsOut Q') : o.wp P a w K Q' := by
  unfold Oper.wp at *
  generalize (execOp a.eval o).run P w = x at *
  cases x with
  | ok v w' =>
    cases v <;> simp only [Oper.upon] at h ⊢ <;>
      first
        | exact h
        | exact Calls.mono h (fun e w'' he => by
            cases e with
            | returned v => exact he
            | panicked c => exact hp _ _ _ he
            | outgrown => exact ho he)
  | halt x w' => cases x <;> simp only [Oper.upon] at h ⊢ <;> first | exact h | exact hp _ _ _ h


/-- x may be carried out while y waits. -/
def okPair (ops : Array Oper) (x y : Nat) : Bool :=
  behind ops y x || match ops[x]?, ops[y]? with
    | some o, some o' => (match o'.dst with | some d => !(o.looksAt ops).contains d && o.dst != some d | none => true)
    | _, _ => false

def selfOk (ops : Array Oper) (x : Nat) : Bool :=
  match ops[x]? with
  | some o => (match o.dst with | some d => !(o.looksAt ops).contains d | none => true)
  | none => false

def okAll (ops : Array Oper) (pend : List Nat) : Bool := pend.all fun x => selfOk ops x && pend.all fun y => x == y || okPair ops x y

theorem behind_listed {listed : Array Bool} {x k : Nat} (hk : k ∈ Region.ready .any ops listed) (h : behind ops x k = true) : listed.getD x false = true := by
  obtain ⟨_, _, o, ho, h3⟩ := mem_ready.1 hk
  unfold behind at h
  rw [ho] at h
  obtain ⟨e, he, hb⟩ := Array.any_eq_true'.1 h
  simp only [Bool.and_eq_true, beq_iff_eq] at hb
  rw [← hb.2]
  exact h3 e he hb.1

theorem okPair_spec {x y : Nat} {o : Oper} {listed : Array Bool} (h : okPair ops x y = true) (hx : x ∈ Region.ready .any ops listed) (hy : listed.getD y false = false) (ho : ops[x]? = some o) :
    ∀ d, dstOf ops y = some d → d ∉ o.looksAt ops ∧ o.dst ≠ some d := by
  intro d hd
  unfold okPair at h
  rw [Bool.or_eq_true] at h
  rcases h with h | h
  · rw [behind_listed hx h] at hy; cases hy
  · rw [ho] at h
    unfold dstOf at hd
    cases hoy : ops[y]? with
    | none => rw [hoy] at h; cases h
    | some o' =>
      rw [hoy] at h hd
      simp only [Option.bind_some] at hd
      simp only [hd, Bool.and_eq_true, Bool.not_eq_true', bne_iff_ne, ne_eq] at h
      exact ⟨by simpa using h.1, h.2⟩

theorem lt_of_some {i : Nat} {o : Oper} (ho : ops[i]? = some o) : i < ops.size := by
  rcases Nat.lt_or_ge i ops.size with h' | h'
  · exact h'
  · rw [Array.getElem?_eq_none h'] at ho; cases ho

theorem RS.pending {done pend X : List Nat} {listed : Array Bool} {fuel : Nat} {ds : List Deferred} {a : Act} (s : RS n ops done pend r X listed fuel ds a) {x : Nat} (hx : x ∈ X) (hl : x < ops.size) : listed.getD x true = false ∧ listed.getD x false = false := by
  have h := s.told x hl
  have hc : X.contains x = true := by simpa using hx
  rw [hc] at h
  simp only [Bool.not_true, Bool.and_false] at h
  refine ⟨h, ?_⟩
  have hlt : x < listed.size := by have := s.size; omega
  simp only [Array.getD, hlt, dite_true] at h ⊢
  exact h

/-- The heart: what waits may be carried out at any time; the rest is handed in. -/
theorem fl_core {done pure lds : List Nat} {ds : List Deferred} (hns : noSel ops = true)
    (hpair : okAll ops (pure ++ lds) = true)
    (hpure : ∀ i ∈ pure, ∀ w', obl P n ops r w' i) (hlds : ∀ i ∈ lds, obl P n ops r w i)
    (hnil : ∀ X listed fuel a, RS n ops done (pure ++ lds) r X listed fuel ds a → Region.ready .any ops listed = [] → lift n ds Q .normal a w)
    (hrest : ∀ X listed fuel a, RS n ops done (pure ++ lds) r X listed (fuel + 1) ds a → ∀ i ∈ Region.ready .any ops listed, i ∉ X → wpOp P ops (lift n ds Q) i (wpAny P .any ops (lift n ds Q) fuel (listed.setIfInBounds i true)) a w) :
    ∀ fuel X listed a, RS n ops done (pure ++ lds) r X listed fuel ds a → wpAny P .any ops (lift n ds Q) fuel listed a w := by
  have hob : ∀ i ∈ pure ++ lds, obl P n ops r w i := fun i hi => by
    rcases List.mem_append.1 hi with h | h
    · exact hpure i h w
    · exact hlds i h
  intro fuel
  induction fuel with
  | zero =>
    intro X listed a s
    have hr : Region.ready .any ops listed = [] := by
      cases hr : Region.ready .any ops listed with
      | nil => rfl
      | cons i l =>
        have hi : i ∈ Region.ready .any ops listed := by rw [hr]; exact List.mem_cons_self
        obtain ⟨h1, h2, _⟩ := mem_ready.1 hi
        have h3 := unl_pos h1 h2
        have h4 := s.fuel
        omega
    exact ⟨hr, hnil X listed 0 a s hr⟩
  | succ fuel ih =>
    intro X listed a s
    refine ⟨hnil X listed _ a s, fun i hi => ?_⟩
    by_cases hX : i ∈ X
    · obtain ⟨o, d, ho, hd, hdn, hv⟩ := hob i (s.sub i hX)
      have hil := lt_of_some ho
      have hother : ∀ y ∈ X, y ≠ i → ∀ d', dstOf ops y = some d' → d' ∉ o.looksAt ops ∧ o.dst ≠ some d' := by
        intro y hy hne
        have hp := (List.all_eq_true.1 (Bool.and_eq_true_iff.1 ((List.all_eq_true.1 hpair) i (s.sub i hX))).2) y (s.sub y hy)
        have hne' : (i == y) = false := by simpa using fun e => hne (e.symm)
        rw [hne', Bool.false_or] at hp
        by_cases hyl : y < ops.size
        · exact okPair_spec hp hi (s.pending hy hyl).2 ho
        · intro d' hd'
          unfold dstOf at hd'
          rw [Array.getElem?_eq_none (by omega)] at hd'
          cases hd'
      have hself : d ∉ o.looksAt ops := by
        have hp := (Bool.and_eq_true_iff.1 ((List.all_eq_true.1 hpair) i (s.sub i hX))).1
        unfold selfOk at hp
        rw [ho] at hp
        simp only [hd] at hp
        simpa using hp
      have heval : ∀ t ∈ o.looksAt ops, a.tmps.getD t undef = r t := by
        intro t ht
        refine s.agree t fun x hx hxd => ?_
        by_cases hxi : x = i
        · subst hxi
          have : dstOf ops x = some d := by unfold dstOf; rw [ho]; exact hd
          rw [this] at hxd
          exact hself ((Option.some.inj hxd).symm ▸ ht)
        · exact (hother x hx hxi t hxd).1 ht
      have hexec : execOp a.eval o = execOp (ev r) o :=
        exec_congr (f := fun t => a.tmps.getD t undef) (g := r) (noSel_spec hns ho) (fun x hx => by cases x <;> first | rfl | exact absurd rfl (hx _)) (fun _ => rfl) (fun _ => rfl) heval
      have hwant : Region.wanted o (yielded ops a.tmps) = Region.wanted o (yl ops r) := by
        refine wanted_congr fun g want hg => ?_
        rw [yielded_yl (f := fun t => a.tmps.getD t undef) (fun _ => rfl)]
        exact yl_congr fun d' hd' => heval d' (looks_guard hg hd')
      have hnext : wpAny P .any ops (lift n ds Q) fuel (listed.setIfInBounds i true) (a.put o.dst (r d)) w := by
        have hni := s.pending hX hil
        refine ih (X.filter (· != i)) _ _ ⟨?_, ?_, ?_, ?_, ?_, ?_, ?_, ?_⟩
        · exact fun x hx => s.sub x (List.mem_filter.1 hx).1
        · exact fun x hx => s.subd x (List.mem_filter.1 hx).1
        · simp [s.size]
        · intro j hj
          by_cases hji : j = i
          · subst hji
            have hc : done.contains j = true := s.subd j hX
            have h1 : (listed.setIfInBounds j true).getD j true = true := by simp [Array.getD_eq_getD_getElem?]
            rw [h1, hc]
            simp
          · have hne : i ≠ j := fun e => hji e.symm
            have h1 : (listed.setIfInBounds i true).getD j true = listed.getD j true := by simp only [Array.getD_eq_getD_getElem?, Array.getElem?_setIfInBounds_ne hne]
            rw [h1, s.told j hj]
            congr 2
            by_cases hjX : j ∈ X
            · have : j ∈ X.filter (· != i) := List.mem_filter.2 ⟨hjX, by simpa using hji⟩
              simp [hjX, hji]
            · simp [hjX]
        · have := unl_set s.size hil hni.1
          have := s.fuel
          omega
        · simp [Act.put, hd, s.asize]
        · simp [Act.put, hd, s.defers]
        · intro t ht
          rw [hd]
          simp only [Act.put]
          by_cases htd : t = d
          · subst htd
            by_cases hts : t < a.tmps.size
            · simp [Array.getD, hts]
            · have h1 : t < n := Nat.blt_eq.mp hdn
              have h2 := s.asize
              exact absurd (show t < a.tmps.size by rw [h2]; exact h1) hts
          · have hne : d ≠ t := fun e => htd e.symm
            rw [Array.getD_eq_getD_getElem?, Array.getElem?_setIfInBounds_ne hne, ← Array.getD_eq_getD_getElem?]
            refine s.agree t fun x hx hxd => ?_
            by_cases hxi : x = i
            · subst hxi
              have : dstOf ops x = some d := by unfold dstOf; rw [ho]; exact hd
              rw [this] at hxd
              exact htd (Option.some.inj hxd).symm
            · exact ht x (List.mem_filter.2 ⟨hx, by simpa using hxi⟩) hxd
      unfold wpOp
      rw [ho]
      simp only
      by_cases hw : Region.wanted o (yl ops r) = true
      · rw [if_pos (by rw [hwant]; exact hw)]
        rw [if_pos hw] at hv
        refine .inl ?_
        unfold Oper.wp
        rw [hexec, hv, Oper.upon_value]
        exact hnext
      · rw [if_neg (by rw [hwant]; exact hw)]
        rw [if_neg hw] at hv
        rw [← hv]
        exact hnext
    · exact hrest X listed fuel a s i hi hX


theorem obl_upd {d : Nat} {v : Value} {i : Nat} (h : obl P n ops r w i) (hns : noSel ops = true) (hself : selfOk ops i = true) (hd : ∀ o, ops[i]? = some o → d ∉ o.looksAt ops ∧ o.dst ≠ some d) : obl P n ops (upd d v r) w i := by
  obtain ⟨o, e, ho, he, hen, hv⟩ := h
  have hne : e ≠ d := fun x => (hd o ho).2 (by rw [he, x])
  have hl : ∀ t ∈ o.looksAt ops, upd d v r t = r t := by
    intro t ht
    have : t ≠ d := fun x => (hd o ho).1 (x ▸ ht)
    simp [upd, beq_no this]
  refine ⟨o, e, ho, he, hen, ?_⟩
  have hexec : execOp (ev (upd d v r)) o = execOp (ev r) o :=
    exec_congr (f := upd d v r) (g := r) (noSel_spec hns ho) (fun x hx => by cases x <;> first | rfl | exact absurd rfl (hx _)) (fun _ => rfl) (fun _ => rfl) hl
  have hw : Region.wanted o (yl ops (upd d v r)) = Region.wanted o (yl ops r) := wanted_congr fun g want hg => yl_congr fun d' hd' => hl d' (looks_guard hg hd')
  have hr : upd d v r e = r e := by simp [upd, beq_no hne]
  rw [hw, hexec, hr]
  exact hv

/-- May reading i be taken next: what it writes is looked at by none that is taken. -/
def freshB (ops : Array Oper) (pend : List Nat) (i d : Nat) : Bool :=
  pend.all fun y => selfOk ops y && match ops[y]? with
    | some o => !(o.looksAt ops).contains d && o.dst != some d
    | none => false

theorem freshB_spec {pend : List Nat} {i d y : Nat} (h : freshB ops pend i d = true) (hy : y ∈ pend) : selfOk ops y = true ∧ ∀ o, ops[y]? = some o → d ∉ o.looksAt ops ∧ o.dst ≠ some d := by
  have := (List.all_eq_true.1 h) y hy
  rw [Bool.and_eq_true] at this
  refine ⟨this.1, fun o ho => ?_⟩
  have h2 := this.2
  rw [ho] at h2
  simp only [Bool.and_eq_true, Bool.not_eq_true', bne_iff_ne, ne_eq] at h2
  exact ⟨by simpa using h2.1, h2.2⟩

theorem RS.taken {done pend X : List Nat} {listed : Array Bool} {fuel : Nat} {ds : List Deferred} {a : Act} {i d : Nat} {v : Value} {pend' : List Nat} (s : RS n ops done pend r X listed fuel ds a) (hd : dstOf ops i = some d) (hnd : done.contains i = false) (hp : ∀ x, x = i ∨ x ∈ pend → x ∈ pend') :
    RS n ops (i :: done) pend' (upd d v r) (i :: X) listed fuel ds a := by
  refine ⟨?_, ?_, s.size, ?_, s.fuel, s.asize, s.defers, ?_⟩
  · intro x hx
    rcases List.mem_cons.1 hx with h | h
    · exact hp x (.inl h)
    · exact hp x (.inr (s.sub x h))
  · intro x hx
    rcases List.mem_cons.1 hx with h | h
    · subst h; simp
    · have h1 := s.subd x h
      simp only [List.contains_cons, h1, Bool.or_true]
  · intro j hj
    rw [s.told j hj]
    by_cases hji : j = i
    · subst hji; rw [hnd]; simp
    · have hf : (j == i) = false := by simpa using hji
      simp only [List.contains_cons, hf, Bool.false_or]
  · intro t ht
    have h1 : t ≠ d := fun e => ht i List.mem_cons_self (by rw [hd, e])
    rw [s.agree t fun x hx => ht x (List.mem_cons_of_mem _ hx)]
    simp [upd, beq_no h1]

/-- A reckoning that leans on no memory is taken. -/
theorem fl_pure {done pure lds : List Nat} {d : Nat} {v : Value} (i : Nat) (hd : dstOf ops i = some d) (hns : noSel ops = true) (hnd : done.contains i = false) (hf : freshB ops pure i d = true)
    (hob : ∀ w', obl P n ops (upd d v r) w' i) (k : FL P n ops Q (i :: done) (i :: pure) lds (upd d v r) w) : FL P n ops Q done pure lds r w := by
  intro hpure ds X listed fuel a s
  refine k (fun j hj w' => ?_) ds (i :: X) listed fuel a (s.taken hd hnd fun x hx => ?_)
  · rcases List.mem_cons.1 hj with h | h
    · subst h; exact hob w'
    · have := freshB_spec hf h
      exact obl_upd (hpure j h w') hns this.1 this.2
  · rcases hx with h | h
    · subst h; simp
    · rcases List.mem_append.1 h with h | h
      · exact List.mem_append.2 (.inl (List.mem_cons_of_mem _ h))
      · exact List.mem_append.2 (.inr h)

/-- A read is taken; that it reads this is asked ahead of each effect that it may come behind. -/
theorem fl_load {done pure lds : List Nat} {d : Nat} {v : Value} (i : Nat) (hd : dstOf ops i = some d) (hns : noSel ops = true) (hnd : done.contains i = false) (hf : freshB ops pure i d = true)
    (k : FL P n ops Q (i :: done) pure (i :: lds) (upd d v r) w) : FL P n ops Q done pure lds r w := by
  intro hpure ds X listed fuel a s
  refine k (fun j hj w' => ?_) ds (i :: X) listed fuel a (s.taken hd hnd fun x hx => ?_)
  · have := freshB_spec hf hj
    exact obl_upd (hpure j hj w') hns this.1 this.2
  · rcases hx with h | h
    · subst h; simp
    · rcases List.mem_append.1 h with h | h
      · exact List.mem_append.2 (.inl h)
      · exact List.mem_append.2 (.inr (List.mem_cons_of_mem _ h))

theorem fl_end {done pure lds : List Nat} (hall : ((List.range ops.size).all done.contains) = true) (hb : backward ops = true) (hns : noSel ops = true) (hpair : okAll ops (pure ++ lds) = true)
    (hlds : ∀ i ∈ lds, obl P n ops r w i) (h : Q .normal r w) : FL P n ops Q done pure lds r w := by
  intro hpure ds X listed fuel a s
  have hin : ∀ X listed fuel a, RS n ops done (pure ++ lds) r X listed fuel ds a → Region.ready .any ops listed = [] → lift n ds Q .normal a w := by
    intro X listed fuel a s hr
    refine ⟨r, ⟨s.asize, fun t => s.agree t fun x hx hxd => ?_, s.defers⟩, h⟩
    unfold dstOf at hxd
    cases ho : ops[x]? with
    | none => rw [ho] at hxd; cases hxd
    | some o =>
      have hl := lt_of_some ho
      have h1 := ready_nil hb s.size hr x hl
      have h2 := (s.pending hx hl).1
      rw [h1] at h2
      cases h2
  refine fl_core hns hpair hpure hlds hin ?_ fuel X listed a s
  intro X listed fuel a s i hi hX
  obtain ⟨h1, h2, _⟩ := mem_ready.1 hi
  have h3 := s.told i h1
  have h4 := (List.all_eq_true.1 hall) i (List.mem_range.2 h1)
  have h5 : X.contains i = false := by simpa using hX
  rw [h4, h5, h2] at h3
  cases h3

/-- Which are ready once all of done is. -/
def readyOf (ops : Array Oper) (done : List Nat) : List Nat := (List.range ops.size).filter fun i => !done.contains i && depsIn ops done i

def leave (ops : Array Oper) (k : Nat) (l : List Nat) : List Nat := l.filter fun y => !behind ops y k

/-- An effect that comes up: what is taken and not behind it looks at nothing of it. -/
def effOk (ops : Array Oper) (pend : List Nat) (k : Nat) : Bool := pend.all fun y => selfOk ops y && (behind ops y k || (okPair ops k y && match ops[k]?, ops[y]? with
    | some o, some o' => (match o.dst with | some d => !(o'.looksAt ops).contains d && o'.dst != some d | none => true)
    | _, _ => false))

/-- The step of one effect. -/
def StepE (P : Program) (n : Nat) (ops : Array Oper) (Q : Po) (done pure lds : List Nat) (r : Fr) (w : World) (k : Nat) : Prop :=
  ∃ o, ops[k]? = some o ∧ WL P n ops (fun e r' w' => e = .normal ∧ FL P n ops Q (k :: done) (leave ops k pure) (leave ops k lds) r' w') [o] r w

theorem fl_eff {done pure lds : List Nat} (ks : List Nat) (hks : readyOf ops done = ks) (hne : ks ≠ []) (hb : backward ops = true) (hns : noSel ops = true) (hpair : okAll ops (pure ++ lds) = true)
    (heff : (ks.all fun k => effOk ops (pure ++ lds) k) = true)
    (hlds : ∀ i ∈ lds, obl P n ops r w i) (hk : ∀ k ∈ ks, StepE P n ops Q done pure lds r w k) : FL P n ops Q done pure lds r w := by
  intro hpure ds X listed fuel a s
  refine fl_core hns hpair hpure hlds ?_ ?_ fuel X listed a s
  · intro X listed fuel a s hr
    exfalso
    obtain ⟨k, hk⟩ := List.exists_mem_of_ne_nil ks hne
    rw [← hks] at hk
    obtain ⟨h1, h2⟩ := List.mem_filter.1 hk
    have hl := List.mem_range.1 h1
    have h3 := ready_nil hb s.size hr k hl
    rw [s.told k hl] at h3
    simp only [Bool.and_eq_true, Bool.not_eq_true'] at h2 h3
    rw [h2.1] at h3
    exact Bool.noConfusion h3.1
  · intro X listed fuel a s i hi hX
    obtain ⟨hil, hni, o, ho, hdeps⟩ := mem_ready.1 hi
    have hnd : done.contains i = false := by
      have h3 := s.told i hil
      have h5 : X.contains i = false := by simpa using hX
      rw [hni, h5] at h3
      simpa using h3.symm
    have hik : i ∈ ks := by
      rw [← hks]
      refine List.mem_filter.2 ⟨List.mem_range.2 hil, ?_⟩
      rw [hnd]
      simp only [Bool.not_false, Bool.true_and]
      unfold depsIn
      rw [ho]
      refine Array.all_eq_true'.2 fun e he => ?_
      cases hbe : Region.binds .any e with
      | false => rfl
      | true =>
        have h1 := hdeps e he hbe
        have hel : e.on < ops.size := by
          have h2 := (List.all_eq_true.1 hb) i (List.mem_range.2 hil)
          rw [ho] at h2
          have h3 := Array.all_eq_true'.1 h2 e he
          simp only [hbe, Bool.not_true, Bool.false_or] at h3
          have : e.on < i := Nat.blt_eq.mp h3
          omega
        have h2 := s.told e.on hel
        have hlt : e.on < listed.size := by have := s.size; omega
        have h3 : listed.getD e.on true = true := by
          simp only [Array.getD, hlt, dite_true] at h1 ⊢
          exact h1
        rw [h3] at h2
        have h4 := h2.symm
        rw [Bool.and_eq_true] at h4
        rw [h4.1]
        rfl
    obtain ⟨o', ho', hwl⟩ := hk i hik
    rw [ho] at ho'
    obtain rfl := Option.some.inj ho'
    have heffi := (List.all_eq_true.1 heff) i hik
    have hnotX : ∀ y ∈ X, behind ops y i = false := by
      intro y hy
      cases hby : behind ops y i with
      | false => rfl
      | true =>
        have h1 := behind_listed hi hby
        have hyl : y < ops.size := by
          rcases Nat.lt_or_ge y ops.size with h' | h'
          · exact h'
          · have : y < listed.size := by
              rcases Nat.lt_or_ge y listed.size with h'' | h''
              · exact h''
              · simp [Array.getD, Nat.not_lt.mpr h''] at h1
            have := s.size
            omega
        rw [(s.pending hy hyl).2] at h1
        cases h1
    have hpairE : ∀ y ∈ X, ∀ d, dstOf ops y = some d → d ∉ o.looksAt ops ∧ o.dst ≠ some d := by
      intro y hy d hd
      have h1 := (List.all_eq_true.1 heffi) y (s.sub y hy)
      rw [Bool.and_eq_true] at h1
      have h2 := h1.2
      rw [hnotX y hy, Bool.false_or, Bool.and_eq_true] at h2
      have hyl : y < ops.size := by
        unfold dstOf at hd
        cases hoy : ops[y]? with
        | none => rw [hoy] at hd; cases hd
        | some oy => exact lt_of_some hoy
      exact okPair_spec h2.1 hi (s.pending hy hyl).2 ho d hd
    have heval : ∀ t ∈ o.looksAt ops, a.tmps.getD t undef = r t := fun t ht => s.agree t fun x hx hxd => (hpairE x hx t hxd).1 ht
    -- the frame in which all that is taken is done
    obtain ⟨g, hg⟩ : ∃ g : Act, Has n ds g r := by
      refine ⟨⟨((List.range n).map r).toArray, ds⟩, by simp, fun t => ?_, rfl⟩
      by_cases htn : t < n
      · simp [Array.getD, htn]
      · have h0 : r t = undef := by
          have h1 := s.agree t (fun x hx hxd => by
            have hob : obl P n ops r w x := by
              rcases List.mem_append.1 (s.sub x hx) with h | h
              · exact hpure x h w
              · exact hlds x h
            obtain ⟨ox, dx, hox, hdx, hdn, _⟩ := hob
            have e1 : dx = t := by
              unfold dstOf at hxd
              rw [hox] at hxd
              simp only [Option.bind_some, hdx] at hxd
              exact Option.some.inj hxd
            have e2 : dx < n := Nat.blt_eq.mp hdn
            exact htn (e1 ▸ e2))
          rw [← h1]
          have := s.asize
          simp [Array.getD, show ¬ t < a.tmps.size by omega]
        simp [Array.getD, htn, h0]
    have hexec : execOp a.eval o = execOp g.eval o := by
      rw [hg.eval]
      exact exec_congr (f := fun t => a.tmps.getD t undef) (g := r) (noSel_spec hns ho) (fun x hx => by cases x <;> first | rfl | exact absurd rfl (hx _)) (fun _ => rfl) (fun _ => rfl) heval
    have hwant : Region.wanted o (yielded ops a.tmps) = Region.wanted o (yielded ops g.tmps) := by
      refine wanted_congr fun g' want hg' => ?_
      rw [yielded_yl (f := fun t => a.tmps.getD t undef) (fun _ => rfl), yielded_yl hg.val]
      exact yl_congr fun d' hd' => heval d' (looks_guard hg' hd')
    -- behind the effect
    have hnext : ∀ v w', (∃ r', Has n ds (g.put o.dst v) r' ∧ FL P n ops Q (i :: done) (leave ops i pure) (leave ops i lds) r' w') →
        wpAny P .any ops (lift n ds Q) fuel (listed.setIfInBounds i true) (a.put o.dst v) w' := by
      rintro v w' ⟨r', hr', hfl⟩
      have hval : ∀ t, o.dst ≠ some t → r' t = r t := by
        intro t ht
        rw [← hr'.val, ← hg.val]
        cases hod : o.dst with
        | none => rfl
        | some d =>
          have hne : d ≠ t := fun e => ht (by rw [hod, e])
          simp only [Act.put]
          rw [Array.getD_eq_getD_getElem?, Array.getElem?_setIfInBounds_ne hne, ← Array.getD_eq_getD_getElem?]
      refine hfl (fun j hj w'' => ?_) ds X _ _ _ ⟨?_, ?_, ?_, ?_, ?_, ?_, ?_, ?_⟩
      · obtain ⟨hj1, hj2⟩ := List.mem_filter.1 hj
        obtain ⟨oj, dj, hoj, hdj, hdn, hv⟩ := hpure j hj1 w''
        have h1 := (List.all_eq_true.1 heffi) j (List.mem_append.2 (.inl hj1))
        rw [Bool.and_eq_true] at h1
        have h2 := h1.2
        simp only [Bool.not_eq_true'] at hj2
        rw [hj2, Bool.false_or, Bool.and_eq_true, ho, hoj] at h2
        have h3 := h2.2
        have hap : ∀ d, o.dst = some d → d ∉ oj.looksAt ops ∧ oj.dst ≠ some d := by
          intro d hd
          simp only [hd, Bool.and_eq_true, Bool.not_eq_true', bne_iff_ne, ne_eq] at h3
          exact ⟨by simpa using h3.1, h3.2⟩
        have hl : ∀ t ∈ oj.looksAt ops, r' t = r t := fun t ht => hval t fun e => (hap t e).1 ht
        have hexec' : execOp (ev r') oj = execOp (ev r) oj :=
          exec_congr (f := r') (g := r) (noSel_spec hns hoj) (fun x hx => by cases x <;> first | rfl | exact absurd rfl (hx _)) (fun _ => rfl) (fun _ => rfl) hl
        have hw' : Region.wanted oj (yl ops r') = Region.wanted oj (yl ops r) := wanted_congr fun g' want hg' => yl_congr fun d' hd' => hl d' (looks_guard hg' hd')
        refine ⟨oj, dj, hoj, hdj, hdn, ?_⟩
        rw [hw', hexec', hval dj fun e => (hap dj e).2 hdj]
        exact hv
      · intro x hx
        have hb' := hnotX x hx
        have hkeep : ∀ l : List Nat, x ∈ l → x ∈ leave ops i l := fun l hxl => List.mem_filter.2 ⟨hxl, by rw [hb']; rfl⟩
        rcases List.mem_append.1 (s.sub x hx) with h | h
        · exact List.mem_append.2 (.inl (hkeep _ h))
        · exact List.mem_append.2 (.inr (hkeep _ h))
      · intro x hx
        have := s.subd x hx
        simp only [List.contains_cons, this, Bool.or_true]
      · simp [s.size]
      · intro j hj
        by_cases hji : j = i
        · subst hji
          have h1 : (listed.setIfInBounds j true).getD j true = true := by simp [Array.getD_eq_getD_getElem?]
          have h5 : X.contains j = false := by simpa using hX
          rw [h1, h5]
          simp
        · have hne : i ≠ j := fun e => hji e.symm
          have h1 : (listed.setIfInBounds i true).getD j true = listed.getD j true := by simp only [Array.getD_eq_getD_getElem?, Array.getElem?_setIfInBounds_ne hne]
          have hf : (j == i) = false := by simpa using hji
          rw [h1, s.told j hj]
          simp only [List.contains_cons, hf, Bool.false_or]
      · have := unl_set s.size hil hni
        have := s.fuel
        omega
      · cases hod : o.dst with
        | none => simp [Act.put, s.asize]
        | some d => simp [Act.put, s.asize]
      · cases hod : o.dst with
        | none => simp [Act.put, s.defers]
        | some d => simp [Act.put, s.defers]
      · intro t ht
        cases hod : o.dst with
        | none =>
          simp only [Act.put]
          rw [s.agree t ht, hval t (by rw [hod]; intro h; cases h)]
        | some d =>
          by_cases htd : t = d
          · subst htd
            rw [← hr'.val, hod]
            simp only [Act.put, Array.getD_eq_getD_getElem?, Array.getElem?_setIfInBounds_self]
            have h1 := s.asize
            have h2 := hg.size
            rw [h1, h2]
          · have hne : d ≠ t := fun e => htd e.symm
            rw [hval t (by rw [hod]; exact fun e => hne (Option.some.inj e))]
            simp only [Act.put]
            rw [Array.getD_eq_getD_getElem?, Array.getElem?_setIfInBounds_ne hne, ← Array.getD_eq_getD_getElem?]
            exact s.agree t ht
    have hd0 : a.defers = g.defers := by rw [s.defers, hg.defers]
    have h := hwl ds g hg
    unfold wpList at h
    unfold wpOp
    rw [ho]
    simp only
    rw [hwant]
    by_cases hw : Region.wanted o (yielded ops g.tmps) = true
    · rw [if_pos hw] at h ⊢
      rcases h with h | ⟨_, _, _, ⟨_, _, hx, _⟩⟩
      · refine .inl ?_
        unfold Oper.wp at h ⊢
        rw [hexec]
        generalize (execOp g.eval o).run P w = x at *
        cases x with
        | ok v w' =>
          cases v <;> simp only [Oper.upon] at h ⊢
          case value v =>
            obtain ⟨r', h1, _, h2⟩ := h
            exact hnext v w' ⟨r', h1, h2⟩
          case skip =>
            obtain ⟨r', h1, _, h2⟩ := h
            exact hnext _ w' ⟨r', h1, h2⟩
          case enter f args =>
            refine Calls.mono h ?_
            intro e w'' he
            cases e with
            | returned v =>
              obtain ⟨r', h1, _, h2⟩ := he
              exact hnext v w'' ⟨r', h1, h2⟩
            | panicked c =>
              obtain ⟨_, _, hx, _⟩ := he
              cases hx
            | outgrown =>
              obtain ⟨_, _, _, _, hx, _⟩ := he
              cases hx
          case row row args =>
            refine Rows.mono h ?_
            rintro v w'' ⟨r', h1, _, h2⟩
            exact hnext v w'' ⟨r', h1, h2⟩
          case defer d =>
            obtain ⟨r', h1, _, h2⟩ := h
            have := h1.defers
            cases hod : o.dst <;> simp [Act.put, hod, hg.defers] at this
        | halt x w' =>
          cases x <;> simp only [Oper.upon] at h ⊢
          obtain ⟨_, _, hx, _⟩ := h
          cases hx
      · cases hx
    · rw [if_neg hw] at h ⊢
      obtain ⟨r', h1, _, h2⟩ := h
      exact hnext _ w ⟨r', h1, h2⟩

end
end K
end Go.Proofs.Ytkbmhhbclbgdpaa
