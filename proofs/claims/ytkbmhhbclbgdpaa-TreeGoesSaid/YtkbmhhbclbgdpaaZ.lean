/-
  Functions that hold a range over a function.
-/
import Derived.Test.YtkbmhhbclbgdpaaY
import Derived.RangeFuncLeaves
namespace Go.Proofs.Ytkbmhhbclbgdpaa
open Go Go.RowKit
namespace K

/-- An object of memory that is no cells: one's own. -/
def objE (b : Nat) (o : Obj) : Ent where
  foot := [b]
  holds := fun w => w.heap[b]? = some o
  keep := fun h hw => by rw [h b (by simp)]; exact hw
  live := fun h k hk => by simp at hk; subst hk; exact lt_of_get h

theorem touch_putObj (w : World) (l : Nat) (o : Obj) : Tch w (w.putObj l o) [l] [l] :=
  ⟨rfl, rfl, rfl, by simp, fun k _ hk => World.putObj_heap_other (by simpa using hk), fun _ h => .inl h⟩

section
variable {m0 m : Mem} {F : List Nat} {w0 w : World} {Es : List Ent}

theorem St.putObj (st : St m0 m F w0 w Es) (i : Nat) {b : Nat} {o : Obj} (o' : Obj) (hi : Es[i]? = some (objE b o)) : St m0 m F w0 (w.putObj b o') (Es.set i (objE b o')) :=
  st.step i hi (touch_putObj w b o') (World.putObj_heap_same (lt_of_get (st.at hi)))

theorem St.newObj (st : St m0 m F w0 w Es) (o : Obj) : St m0 m F w0 (w.alloc o) (objE w.heap.size o :: Es) :=
  st.new (E := objE w.heap.size o) (touch_alloc w o) (World.alloc_heap_new w o)
end

abbrev PoX := List Deferred → Po

/-- A piece of code; what is asked behind it may speak of the deferred calls. -/
def WX (ds : List Deferred) (P : Program) (n : Nat) (Q : PoX) (c : Code) (r : Fr) (w : World) : Prop :=
  ∀ k a, Has n ds a r → c.wpIn (FR none) k P (fun e a w => ∃ ds' r', Has n ds' a r' ∧ Q ds' e r' w) a w

def thenX (K : List Deferred → Fr → World → Prop) (Q : PoX) : PoX
  | ds, .normal, r, w => K ds r w
  | ds, e, r, w => Q ds e r w

def inBlockX (id : Nat) (Q : PoX) : PoX
  | ds, .exit id', r, w => if id' = id then Q ds .normal r w else Q ds (.exit id') r w
  | ds, e, r, w => Q ds e r w

section
variable {P : Program} {n : Nat} {Q : PoX} {r : Fr} {w : World} {ds : List Deferred}

theorem wx_of_wc {c : Code} (h : WC P n (Q ds) c r w) : WX ds P n Q c r w :=
  fun k a ha => wpIn_mono (wi_of_wc h k ds a ha) fun _ _ _ ⟨r', h1, h2⟩ => ⟨ds, r', h1, h2⟩

theorem blockx_hit {i : Nat} (h : Q ds .normal r w) : inBlockX i Q ds (.exit i) r w := by
  simp only [inBlockX, if_pos]
  exact h

theorem wx_seq {x y : Code} (h : WX ds P n (thenX (fun ds r w => WX ds P n Q y r w) Q) x r w) : WX ds P n Q (x.seq y) r w := by
  intro k a ha
  refine wpIn_seq (wpIn_mono (h k a ha) ?_)
  rintro e a' w' ⟨ds', r', h1, h2⟩
  cases e with
  | normal => exact h2 k a' h1
  | _ => exact ⟨ds', r', h1, h2⟩

/-- A piece without a range, and what follows. -/
theorem wx_seqc {x y : Code} (h : WC P n (thenQ (fun r w => WX ds P n Q y r w) (Q ds)) x r w) : WX ds P n Q (x.seq y) r w := by
  refine wx_seq (wx_of_wc (h.mono ?_))
  intro e r w h
  cases e <;> exact h

theorem wx_block {i : Nat} {c : Code} (h : WX ds P n (inBlockX i Q) c r w) : WX ds P n Q (.block i c) r w := by
  intro k a ha
  refine wpIn_block (wpIn_mono (h k a ha) ?_)
  rintro e a' w' ⟨ds', r', h1, h2⟩
  cases e with
  | exit j =>
    simp only [inBlockX] at h2
    simp only [Exit.inBlock]
    split <;> rename_i hj
    · rw [if_pos hj] at h2; exact ⟨ds', r', h1, h2⟩
    · rw [if_neg hj] at h2; exact ⟨ds', r', h1, h2⟩
  | _ => exact ⟨ds', r', h1, h2⟩

theorem wx_cut {x y : Code} (M : List Deferred → Fr → World → Prop) (h1 : WX ds P n (thenX M Q) x r w) (h2 : ∀ ds r w, M ds r w → WX ds P n Q y r w) : WX ds P n Q (x.seq y) r w := by
  refine wx_seq ?_
  intro k a ha
  refine wpIn_mono (h1 k a ha) ?_
  rintro e a' w' ⟨ds', r', h3, h4⟩
  refine ⟨ds', r', h3, ?_⟩
  cases e <;> first | exact h2 _ _ _ h4 | exact h4

theorem wx_exit {i : Nat} (h : Q ds (.exit i) r w) : WX ds P n Q (.exit i) r w := fun _ _ ha => wpIn_exit ⟨ds, r, ha, h⟩
theorem wx_ret (h : Q ds .ret r w) : WX ds P n Q .ret r w := fun _ _ ha => wpIn_ret ⟨ds, r, ha, h⟩

/-- What a function's end asks: the marks are closed, one by one; then the results are read. -/
def closed : List Deferred → World → (World → Prop) → Prop
  | [], w, K => K w
  | d :: ds, w, K => ∃ D, d.target = .collected D ∧ w.heap[D]? = some (.deferred (some [])) ∧ closed ds (w.putObj D (.deferred none)) K

def bodyX (P : Program) (rvs : List ResultVar) (R : Value → World → Prop) : PoX
  | ds, .normal, r, w | ds, .ret, r, w => closed ds w fun w' => ∃ vs, ResL P r w' rvs vs ∧ R (pack vs) w'
  | _, _, _, _ => False

theorem results_of {fn : Func} {a : Act} {rvs : List ResultVar} {vs : List Value} (ha : Has n ds a r) (hres : fn.results = rvs.toArray) (hv : ResL P r w rvs vs) : (results fn a.tmps).run P w = .ok (pack vs) w := by
  have hm := mapM_res ha rvs vs hv
  have he : results fn a.tmps = (do let vs ← rvs.toArray.mapM (resS a.tmps); pure (if h : vs.size = 1 then vs[0] else .tuple vs)) := by
    unfold results
    rw [hres]
    rfl
  rw [he]
  simp only [List.mapM_toArray, Sem.run_bind, Sem.run_map, hm, Result.andThen_ok, Sem.run_pure]
  match vs with
  | [] => simp [pack]
  | [v] => simp [pack]
  | v :: u :: vs => simp [pack]

theorem leaves_of {fn : Func} {a : Act} {rvs : List ResultVar} {R : Value → World → Prop} {k : Nat} {d0 : List Deferred} (ha : Has n d0 a r) (hres : fn.results = rvs.toArray) :
    ∀ (ds : List Deferred) (w : World), closed ds w (fun w' => ∃ vs, ResL P r w' rvs vs ∧ R (pack vs) w') → LeavesInM (FR none) k P fn a.tmps (fun e w' => ∃ v, e = .returned v ∧ R v w') ds .returning w
  | [], w, ⟨vs, hv, hR⟩ => ⟨_, results_of ha hres hv, _, rfl, hR⟩
  | d :: ds, w, ⟨D, hD, hh, hc⟩ => ⟨by simp, .inl ⟨D, _, hD, run_takeDeferred hh, leaves_of ha hres ds _ hc⟩⟩

theorem ret_ofX {f : FuncId} {fn : Func} {c : Code} {args : List Value} {R : Value → World → Prop} {rvs : List ResultVar}
    (hgo : ∀ args w, (callFunc f args).run P w = .ok (.enter f args) w) (hf : P.funcs[f]? = some fn) (hb : fn.body = some c) (hn : fn.ntmps = n) (hres : fn.results = rvs.toArray)
    (hsz : Nat.ble args.length n = true) (h : WX [] P n (bodyX P rvs R) c (frOf 0 args) w) : Ret P f args.toArray w R := by
  refine ⟨hgo, callsIn_wide (n := 9).1 (callsIn_of_wp_marks hf hb trivial ?_)⟩
  have hle : args.length ≤ n := Nat.le_of_ble_eq_true hsz
  have hhas : Has n [] ⟨args.toArray ++ Array.replicate (fn.ntmps - args.toArray.size) undef, []⟩ (frOf 0 args) := by
    refine ⟨by simp [hn]; omega, fun t => ?_, rfl⟩
    rw [frOf_get]
    simp only [Nat.zero_le, if_true, Nat.sub_zero, Array.getD_eq_getD_getElem?, Array.getElem?_append, List.size_toArray, List.getElem?_toArray]
    split
    · rfl
    · rename_i hlt
      rw [List.getElem?_eq_none (by omega)]
      simp only [Array.getElem?_replicate]
      split <;> rfl
  refine wpIn_mono (h 9 _ hhas) ?_
  rintro e a w' ⟨ds', r', ha, hq⟩
  cases e with
  | normal =>
    show LeavesInM _ _ _ _ _ _ a.defers _ _
    rw [ha.defers]
    exact leaves_of ha hres ds' w' hq
  | ret =>
    show LeavesInM _ _ _ _ _ _ a.defers _ _
    rw [ha.defers]
    exact leaves_of ha hres ds' w' hq
  | _ => exact hq.elim
end

/-- A loop's record. -/
def mkRec (fn : FuncId) (tmps : Array Value) (ps : Array Tmp) (assign body : Code) (D : Nat) (s : LoopState) (pe : Option Code) : Loop :=
  { state := s, pending := pe, fn, tmps, params := ps, assign, body, defers := D }

def mark (D : Nat) : Deferred := { target := .collected D, args := #[] }

section
variable {P : Program} {n : Nat} {Q : PoX} {r : Fr} {w w0 : World} {ds : List Deferred} {m0 m : Mem} {F : List Nat} {Es : List Ent}

/-- The statement: its record and the block for its rounds' deferred calls are laid; the function is called with yield. -/
theorem wx_range {g : Operand} {ps : Array Tmp} {assign body : Code} {gf : FuncId} {lb : List Value} (hg : ev r g = .func (.func gf) #[] lb.toArray) (eg : ∀ args w, (callFunc gf args).run P w = .ok (.enter gf args) w) (st : St m0 m F w0 w Es)
    (h : ∀ (l D : Nat) (fn : FuncId) (tmps : Array Value) (rec : LoopState → Option Code → Loop) (w1 : World), rec = mkRec fn tmps ps assign body D → tmps.size = n → (∀ t, tmps.getD t undef = r t) → St m0 m F w0 w1 (objE l (.loop (rec .ready none)) :: objE D (.deferred (some [])) :: Es) →
      Calls P gf (.func (.yield l) #[] #[] :: lb).toArray w1 fun e w2 => ∃ v, e = .returned v ∧ ∃ s pe, s ≠ .busy ∧ w2.heap[l]? = some (.loop (rec s pe)) ∧
        (match pe with
         | none => Q (mark D :: ds) .normal r (w2.putObj l (.loop (rec .exhausted pe)))
         | some c => WX (mark D :: ds) P n Q c r (w2.putObj l (.loop (rec .exhausted pe))))) : WX ds P n Q (.rangeFunc g ps assign body) r w := by
  intro k a ha
  refine wpIn_rangeFunc fun fn _ => ?_
  have st1 := st.newObj (.deferred (some []))
  have st2 := st1.newObj (.loop (mkRec fn a.tmps ps assign body w.heap.size .ready none))
  have hsz : (w.alloc (.deferred (some []))).heap.size = w.heap.size + 1 := by simp
  rw [hsz] at st2
  have hev : a.eval g = .func (.func gf) #[] lb.toArray := by rw [ha.eval]; exact hg
  have hc := h (w.heap.size + 1) w.heap.size fn a.tmps _ _ rfl ha.size ha.val st2
  have hen := run_enterLoop_outer (P := P) (w := w) fn a.tmps ps assign body
  change _ = Result.ok _ ((w.alloc (.deferred (some []))).alloc (.loop (mkRec fn a.tmps ps assign body w.heap.size .ready none))) at hen
  generalize (w.alloc (.deferred (some []))).alloc (.loop (mkRec fn a.tmps ps assign body w.heap.size .ready none)) = W1 at hen hc
  refine ⟨w.heap.size + 1, [mark w.heap.size], W1, { target := .fn (.func gf) lb.toArray, args := #[.func (.yield (w.heap.size + 1)) #[] #[]] }, W1, gf, (.func (.yield (w.heap.size + 1)) #[] #[] :: lb).toArray, W1, hen, ?_, fun _ _ => trivial, ?_, by simp [Fence.wide], ?_⟩
  · simp only [resolve, hev]
    simp [go_sem]
  · simp [invoke, go_sem, eg]
  · refine callsIn_of (Calls.mono hc ?_)
    rintro e w2 ⟨v, rfl, s, pe, hs, hl, hq⟩
    refine ⟨pe, _, run_endLoop hl hs, ?_⟩
    have hh : Has n (mark w.heap.size :: ds) { a with defers := [mark w.heap.size] ++ a.defers } r := ⟨ha.size, ha.val, by rw [ha.defers]; rfl⟩
    cases pe with
    | none => exact ⟨_, r, hh, hq⟩
    | some c => exact hq k _ hh
end


/-- The frame of a round: the loop's, with what yield was handed. -/
def setPs : List (Nat × Value) → Fr → Fr
  | [], r => r
  | x :: l, r => setPs l (upd x.1 x.2 r)

theorem has_ps {n : Nat} : ∀ (l : List (Nat × Value)) (tmps : Array Value) (r : Fr), tmps.size = n → (∀ t, tmps.getD t undef = r t) → (l.all fun x => Nat.blt x.1 n) = true →
    Has n [] { tmps := l.foldl (fun ts (x : Nat × Value) => ts.setIfInBounds x.1 x.2) tmps, defers := [] } (setPs l r)
  | [], tmps, r, hs, hv, _ => ⟨hs, hv, rfl⟩
  | x :: l, tmps, r, hs, hv, hb => by
    simp only [List.all_cons, Bool.and_eq_true] at hb
    have h1 : Has n [] { tmps := tmps, defers := [] } r := ⟨hs, hv, rfl⟩
    have h2 := h1.put hb.1 x.2
    exact has_ps l _ _ h2.size h2.val hb.2

section
variable {P : Program} {n : Nat} {r : Fr} {w : World}

/-- How a round may end. -/
def roundQ (rec : LoopState → Option Code → Loop) (l : Nat) (R : Value → World → Prop) : Po
  | .normal, _, w => w.heap[l]? = some (.loop (rec .busy none)) ∧ R (.bool true) (w.putObj l (.loop (rec .ready none)))
  | .ret, _, w => w.heap[l]? = some (.loop (rec .busy none)) ∧ R (.bool false) (w.putObj l (.loop (rec .done (some .ret))))
  | .exit i, _, w => w.heap[l]? = some (.loop (rec .busy none)) ∧ R (.bool false) (w.putObj l (.loop (rec .done (some (.exit i)))))
  | _, _, _ => False

def noQ : Po := fun _ _ _ => False

/-- A call of yield answers so. -/
def YieldR (P : Program) (l : Nat) (vs : List Value) (w : World) (R : Value → World → Prop) : Prop :=
  ∃ fn tmps assign body, (Instr.yield l vs.toArray).run P w = .ok (.round l fn tmps assign body) w ∧ ∀ k, RoundIn (FR none) k P l fn tmps assign body w fun e w' => ∃ v, e = .returned v ∧ R v w'

theorem yield_round {rec : LoopState → Option Code → Loop} {fn : FuncId} {tmps : Array Value} {ps : List Nat} {assign body : Code} {D l : Nat} {vs : List Value} {R : Value → World → Prop}
    (hrec : rec = mkRec fn tmps ps.toArray assign body D) (hl : w.heap[l]? = some (.loop (rec .ready none))) (hs : vs.length = ps.length) (hsz : tmps.size = n) (hv : ∀ t, tmps.getD t undef = r t) (hps : (ps.all fun x => Nat.blt x n) = true)
    (h : WI (some l) P n (thenQ (fun r1 w1 => w1.heap[l]? = some (.loop (rec .ready none)) ∧ WI (some l) P n (roundQ rec l R) body r1 (w1.putObj l (.loop (rec .busy none)))) noQ) assign (setPs (ps.zip vs) r) w) : YieldR P l vs w R := by
  subst hrec
  refine ⟨fn, _, assign, body, run_yield hl (by simp [mkRec, hs]), fun k => roundIn_of_wpIn (F := FR none) trivial ?_⟩
  have hzip : (mkRec fn tmps ps.toArray assign body D .ready none).params.zip vs.toArray = (ps.zip vs).toArray := by
    apply Array.toList_inj.mp
    simp [mkRec]
  have hall : ((ps.zip vs).all fun x => Nat.blt x.1 n) = true := by
    rw [List.all_eq_true]
    intro x hx
    exact List.all_eq_true.1 hps x.1 (List.of_mem_zip hx).1
  have hh := has_ps (n := n) (ps.zip vs) tmps r hsz hv hall
  have hacts : ((mkRec fn tmps ps.toArray assign body D .ready none).params.zip vs.toArray).foldl (fun ts (x : Nat × Value) => ts.setIfInBounds x.1 x.2) (mkRec fn tmps ps.toArray assign body D .ready none).tmps = (ps.zip vs).foldl (fun ts (x : Nat × Value) => ts.setIfInBounds x.1 x.2) tmps := by
    rw [hzip]
    simp [mkRec]
  refine wpIn_mono (a := { tmps := _, defers := [] }) ?_ ?_ (Q := lift n [] (thenQ (fun r1 w1 => w1.heap[l]? = some (.loop (mkRec fn tmps ps.toArray assign body D .ready none)) ∧ WI (some l) P n (roundQ (mkRec fn tmps ps.toArray assign body D) l R) body r1 (w1.putObj l (.loop (mkRec fn tmps ps.toArray assign body D .busy none)))) noQ))
  · have := h k [] _ hh
    rw [← hacts] at this
    exact this
  · rintro e a1 w1 ⟨r1, h1, h2⟩
    cases e with
    | normal =>
      obtain ⟨hl1, hb⟩ := h2
      refine ⟨_, run_beginRound hl1 rfl, wpIn_mono (hb k [] a1 h1) ?_⟩
      rintro e a2 w2 ⟨r2, _, h4⟩
      cases e with
      | normal => exact ⟨_, _, run_endRound none h4.1, _, rfl, h4.2⟩
      | ret => exact ⟨_, _, run_endRound (some .ret) h4.1, _, rfl, h4.2⟩
      | exit j => exact ⟨_, _, run_endRound (some (.exit j)) h4.1, _, rfl, h4.2⟩
      | _ => exact h4.elim
    | _ => exact h2.elim

theorem retX1 {rvs : List ResultVar} {R : Value → World → Prop} {D : Nat} (h : w.heap[D]? = some (.deferred (some []))) (k : bodyQ P rvs R .ret r (w.putObj D (.deferred none))) : bodyX P rvs R [mark D] .ret r w := ⟨D, rfl, h, k⟩
theorem endX1 {rvs : List ResultVar} {R : Value → World → Prop} {D : Nat} (h : w.heap[D]? = some (.deferred (some []))) (k : bodyQ P rvs R .normal r (w.putObj D (.deferred none))) : bodyX P rvs R [mark D] .normal r w := ⟨D, rfl, h, k⟩

/-- A list of operations, under the fence: here yield may be called. -/
def WLI (P : Program) (n : Nat) (ops : Array Oper) (Q : Po) (l : List Oper) (r : Fr) (w : World) : Prop := ∀ k ds a, Has n ds a r → wpListIn (FR none) k P ops (lift n ds Q) l a w
end

section
variable {P : Program} {n : Nat} {ops : Array Oper} {Q : Po} {r : Fr} {w : World} {rest : List Oper} {d : Nat} {ty : TypeId} {pos : String} {after : Array Edge}

theorem wc_regionI {id : Nat} {l : List Oper} (h : WLI P n l.toArray Q l r w) : WC P n Q (.region id l.toArray false) r w := by
  intro ds a ha
  refine wpIn_wide (n := 9).1 (wpIn_region ?_)
  have h1 := h 9 ds a ha
  rw [List.range_eq_range', ← Array.length_toList, wpOpsIn_eq_wpListIn l.toArray.toList 0 (by simp)]
  have h2 : wpListIn (FR none) 9 P l.toArray (lift n ds Q) l.toArray.toList a w := by simpa using h1
  exact h2

theorem wli_nil (h : Q .normal r w) : WLI P n ops Q [] r w := fun _ _ _ ha => ⟨r, ha, h⟩

theorem wli_val {op : Op} {v : Value} {w' : World} (h : Val P op ty r w v w') (hd : Nat.blt d n = true) (k : WLI P n ops Q rest (upd d v r) w') :
    WLI P n ops Q (⟨some d, op, ty, pos, after, none⟩ :: rest) r w := by
  intro kk ds a ha
  refine wpListIn_plain rfl fun K hK => ⟨fun _ _ => trivial, ?_⟩
  have he : (execOp a.eval ⟨some d, op, ty, pos, after, none⟩).run P w = .ok (.value v) w' := by rw [ha.eval]; exact h _ _ _ _
  have hsem : (⟨some d, op, ty, pos, after, none⟩ : Oper).semAt (FR none).round a.eval = execOp a.eval (⟨some d, op, ty, pos, after, none⟩ : Oper) := by simp [Oper.semAt]
  rw [hsem, he, Oper.uponIn_value]
  exact hK _ _ (k kk ds _ (ha.put hd v))

theorem wli_call {f : FuncId} {as : Array Operand} {tys : Array TypeId} {args : List Value} {R : Value → World → Prop} (ha : as.toList.map (ev r) = args)
    (hc : Ret P f args.toArray w R) (hd : Nat.blt d n = true) (k : ∀ v w', R v w' → WLI P n ops Q rest (upd d v r) w') :
    WLI P n ops Q (⟨some d, .call ⟨.value (.func f), as, tys⟩, ty, pos, after, none⟩ :: rest) r w := by
  intro kk ds a h
  refine wpListIn_plain rfl fun K hK => ⟨fun _ _ => trivial, ?_⟩
  have hargs : as.map (ev r) = args.toArray := by
    apply Array.toList_inj.mp
    rw [Array.toList_map, ha]
  have he : (execOp a.eval ⟨some d, .call ⟨.value (.func f), as, tys⟩, ty, pos, after, none⟩).run P w = .ok (.enter f args.toArray) w := by
    rw [h.eval]
    simp [execOp, resolve, ev, Deferred.ofValue, invoke, hargs, hc.1]
  have hsem : (⟨some d, .call ⟨.value (.func f), as, tys⟩, ty, pos, after, none⟩ : Oper).semAt (FR none).round a.eval = execOp a.eval (⟨some d, .call ⟨.value (.func f), as, tys⟩, ty, pos, after, none⟩ : Oper) := by simp [Oper.semAt]
  rw [hsem, he, Oper.uponIn_enter]
  refine ⟨by simp [Fence.wide], callsIn_of (Calls.mono hc.2 ?_)⟩
  rintro e w' ⟨v, rfl, hR⟩
  exact hK _ _ (k v w' hR kk ds _ (h.put hd v))

/-- A call of yield. -/
theorem wli_yield {x : Operand} {l : Nat} {as : Array Operand} {tys : Array TypeId} {args : List Value} {R : Value → World → Prop} (hx : ev r x = .func (.yield l) #[] #[]) (ha : as.toList.map (ev r) = args)
    (hc : YieldR P l args w R) (hd : Nat.blt d n = true) (k : ∀ v w', R v w' → WLI P n ops Q rest (upd d v r) w') :
    WLI P n ops Q (⟨some d, .call ⟨.value x, as, tys⟩, ty, pos, after, none⟩ :: rest) r w := by
  intro kk ds a h
  refine wpListIn_plain rfl fun K hK => ⟨fun _ _ => trivial, ?_⟩
  obtain ⟨fn, tmps, assign, body, hy, hround⟩ := hc
  have hargs : as.map (ev r) = args.toArray := by
    apply Array.toList_inj.mp
    rw [Array.toList_map, ha]
  have he : (execOp a.eval ⟨some d, .call ⟨.value x, as, tys⟩, ty, pos, after, none⟩).run P w = .ok (.round l fn tmps assign body) w := by
    rw [h.eval]
    simp [execOp, resolve, hx, Deferred.ofValue, invoke, hargs, hy]
  have hsem : (⟨some d, .call ⟨.value x, as, tys⟩, ty, pos, after, none⟩ : Oper).semAt (FR none).round a.eval = execOp a.eval (⟨some d, .call ⟨.value x, as, tys⟩, ty, pos, after, none⟩ : Oper) := by simp [Oper.semAt]
  rw [hsem, he, Oper.uponIn_round]
  refine ⟨by simp [Fence.wide], (hround _).mono ?_⟩
  rintro e w' ⟨v, rfl, hR⟩
  exact hK _ _ (k v w' hR kk ds _ (h.put hd v))
end

end K
end Go.Proofs.Ytkbmhhbclbgdpaa
