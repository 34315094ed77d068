/-
  Proved here: for every input of bulk at most 1048576 the law PagesBack returns true, and what it was handed reads behind the call as before. No condition.
-/
import Derived.Test.YtonlmjpenonabaaRows
import Derived.JoinedCond
import Derived.Test.YtonlmjpenonabaaBack3

namespace Go.Proofs.Ytonlmjpenonabaa
open Go Go.RowKit K SH PT
abbrev PgMap := List (By × (By × Value))
def pgM (MM : PgMap) (d : By) : Option By := (getKV d MM).map (·.1)
def pgF (M : By → Option By) (rd : By → By → Nat → List (By × By) → Nat → By × List (By × By) × Nat) (d p : By) (n : Nat) (l : List (By × By)) (e : Nat) : List (By × By) × Nat :=
 if e ≠ 0 then (l, e) else
 match M d with
 | none => (l, failE e 7)
 | some b =>
  if 0 < b.length ∧ b.headD 0 = 3 then (l, failE e 15) else
  if 0 < (rd b p n l e).1.length ∨ (0 < n ∧ (rd b p n l e).2.1.length < l.length + 2) then ((rd b p n l e).2.1, failE (rd b p n l e).2.2 15) else (rd b p n l e).2
def rdF (M : By → Option By) : Nat → By → By → Nat → List (By × By) → Nat → By × List (By × By) × Nat
 | 0, _, _, _, l, e => ([], l, e)
 | _ + 1, [], _, _, l, e => ([], l, failE e 15)
 | g + 1, k :: b, p, n, l, e =>
  if e ≠ 0 ∨ 256 < n then ([], l, failE e 15) else
  if k = 0 then (b, l, e) else
  if k = 1 then
   ((dgF (dgF b e).2.1 (dgF b e).2.2).2.1, l ++ [((dgF b e).1, (dgF (dgF b e).2.1 (dgF b e).2.2).1)],
    if n ≤ common (dgF b e).1 p then (dgF (dgF b e).2.1 (dgF b e).2.2).2.2 else failE (dgF (dgF b e).2.1 (dgF b e).2.2).2.2 15) else
  if k = 2 then
   rdF M g (rdF M g b (setB p n false) (n + 1) l e).1 (setB p n true) (n + 1) (rdF M g b (setB p n false) (n + 1) l e).2.1 (rdF M g b (setB p n false) (n + 1) l e).2.2 else
  if k = 3 then
   ((dgF b e).2.1, pgF M (rdF M g) (dgF b e).1 p n l (dgF b e).2.2) else
  (b, l, failE e 15)
theorem pgF_grow {M : By → Option By} {rd : By → By → Nat → List (By × By) → Nat → By × List (By × By) × Nat} {d p : By} {n : Nat} {l : List (By × By)} {e : Nat} (h : ∀ b p n e, l.length ≤ (rd b p n l e).2.1.length) : l.length ≤ (pgF M rd d p n l e).1.length := by
 unfold pgF
 split
 ·exact Nat.le_refl _
 ·split
  ·exact Nat.le_refl _
  ·split
   ·exact Nat.le_refl _
   ·split <;> exact h _ _ _ _
theorem rdF_grow {M : By → Option By} : ∀ {g : Nat} {b p : By} {n : Nat} {l : List (By × By)} {e : Nat}, l.length ≤ (rdF M g b p n l e).2.1.length
 | 0, _, _, _, _, _ => Nat.le_refl _
 | _ + 1, [], _, _, _, _ => Nat.le_refl _
 | g + 1, k :: b, p, n, l, e => by
  unfold rdF
  split
  ·exact Nat.le_refl _
  ·split
   ·exact Nat.le_refl _
   ·split
    ·simp
    ·split
     ·exact Nat.le_trans (rdF_grow (g := g)) (rdF_grow (g := g))
     ·split
      ·exact pgF_grow fun _ _ _ _ => rdF_grow (g := g)
      ·exact Nat.le_refl _
section
variable {M : By → Option By} {rd : By → By → Nat → List (By × By) → Nat → By × List (By × By) × Nat} {d p b : By} {n : Nat} {l : List (By × By)} {e : Nat}
theorem pgF_err (h : e ≠ 0) : pgF M rd d p n l e = (l, e) := by rw [pgF, if_pos h]
theorem pgF_none (h : e = 0) (hM : M d = none) : pgF M rd d p n l e = (l, failE e 7) := by rw [pgF, if_neg (by simpa using h), hM]
theorem pgF_link (h : e = 0) (hM : M d = some b) (hb : 0 < b.length ∧ b.headD 0 = 3) : pgF M rd d p n l e = (l, failE e 15) := by rw [pgF, if_neg (by simpa using h), hM]; exact if_pos hb
theorem pgF_bad (h : e = 0) (hM : M d = some b) (hb : ¬ (0 < b.length ∧ b.headD 0 = 3)) (hq : 0 < (rd b p n l e).1.length ∨ (0 < n ∧ (rd b p n l e).2.1.length < l.length + 2)) : pgF M rd d p n l e = ((rd b p n l e).2.1, failE (rd b p n l e).2.2 15) := by
 rw [pgF, if_neg (by simpa using h), hM]; exact (if_neg hb).trans (if_pos hq)
theorem pgF_ok (h : e = 0) (hM : M d = some b) (hb : ¬ (0 < b.length ∧ b.headD 0 = 3)) (hq : ¬ (0 < (rd b p n l e).1.length ∨ (0 < n ∧ (rd b p n l e).2.1.length < l.length + 2))) : pgF M rd d p n l e = (rd b p n l e).2 := by
 rw [pgF, if_neg (by simpa using h), hM]; exact (if_neg hb).trans (if_neg hq)
end
theorem dgF_rest {b : By} {e : Nat} : (dgF b e).2.1.length ≤ b.length := by
 unfold dgF; split <;> simp
theorem rdF_rest {M : By → Option By} : ∀ {g : Nat} {b p : By} {n : Nat} {l : List (By × By)} {e : Nat}, (rdF M g b p n l e).1.length ≤ b.length
 | 0, _, _, _, _, _ => Nat.zero_le _
 | _ + 1, [], _, _, _, _ => Nat.le_refl _
 | g + 1, k :: b, p, n, l, e => by
  unfold rdF
  split
  ·exact Nat.zero_le _
  ·split
   ·simp
   ·split
    ·exact Nat.le_trans dgF_rest (Nat.le_trans dgF_rest (by simp))
    ·split
     ·exact Nat.le_trans (rdF_rest (g := g)) (Nat.le_trans (rdF_rest (g := g)) (by simp))
     ·split
      ·exact Nat.le_trans dgF_rest (by simp)
      ·simp
structure PgOk (m : Mem) (mb : Nat) (MM : PgMap) : Prop where
 map : MapM m arr (fun x : By × Value => x.2) mb MM
 len : ∀ x ∈ MM, x.1.length = 32
 text : ∀ x ∈ MM, SlM m x.2.2 1 x.2.1.length (bs x.2.1) ∧ x.2.1.length ≤ 1000000000
theorem PgOk.mono {m m' : Mem} {mb : Nat} {MM : PgMap} (h : PgOk m mb MM) (hm : ∀ k o, m k = some o → m' k = some o) : PgOk m' mb MM := ⟨h.map.mono hm, h.len, fun x hx => ⟨(h.text x hx).1.mono hm, (h.text x hx).2⟩⟩
theorem dig_keyT : KeyT Try.prog 28 arr fun l => l.length = 32 :=
 arr_keyT Try.underlying28 Try.underlying5 (by decide +kernel) (by decide +kernel) (by decide +kernel) (by decide +kernel) (by decide +kernel) (by decide +kernel)
theorem v_mapGet2 {P : Program} {α β : Type} [DecidableEq α] {kv : α → Value} {vv : β → Value} {b : Nat} {L : List (α × β)} {KT VT T : TypeId} {ok : α → Prop} {m : Mem} {w : World} {r : Fr} {ty : TypeId} {x y : Operand} {kk : α} {z u : Value} {o : Bool} (hM : MapM m kv vv b L) (him : Im m w) (K : KeyT P KT kv ok) (hT : P.underlying T = some (.map KT VT)) (hz : TyZ P VT z) (hok : ∀ x ∈ L, ok x.1) (hk : ok kk) (hx : ev r x = .map (some b)) (hy : ev r y = kv kk)
  (hu : ((getKV kk L).map vv).getD z = u) (ho : (getKV kk L).isSome = o) : Val P (.lookup T x y true) ty r w (.tuple #[u, .bool o]) w := by
 subst hu; subst ho
 exact v_mapGet hM him K hT hz hok hk hx hy
abbrev rdL (rb mb : Nat) (lv : Value) (l : List (By × By)) (e : Nat) : List Ent := [rdB rb mb lv e, lsE 72 64 prC2 lv l]
def need (n : Nat) (b : By) : Nat := 2 * (257 - n) + 1 + (if b.headD 0 = 3 then 1 else 0)
def RdOut (w w' : World) (foot : List Nat) (rb mb : Nat) (x : List (By × By) × Nat) : Prop :=
 ∃ lv', Tch w w' foot (joinE (rdL rb mb lv' x.1 x.2)).foot ∧ (joinE (rdL rb mb lv' x.1 x.2)).holds w'
def RdC (MM : PgMap) (g : Nat) : Prop := ∀ {b p : By} {n : Nat} {l : List (By × By)} {e rb mb : Nat} {lv bv : Value} {m : Mem} {w : World}, Im m w → PgOk m mb MM → (joinE (rdL rb mb lv l e)).holds w → (∀ k ∈ (joinE (rdL rb mb lv l e)).foot, m k = none) → SlM m bv 1 b.length (bs b) → b.length ≤ 1000000000 → p.length = 32 → n ≤ 257 → need n b ≤ g → (rdF (pgM MM) g b p n l e).2.1.length ≤ 1000000000 →
 Ret Try.prog 64 #[.pointer (some ⟨rb, 0, none⟩), bv, arr p, .int .i64 n] w fun v' w' => RdOut w w' (joinE (rdL rb mb lv l e)).foot rb mb (rdF (pgM MM) g b p n l e).2 ∧ SlM m v' 1 (rdF (pgM MM) g b p n l e).1.length (bs (rdF (pgM MM) g b p n l e).1)
theorem rd_out {m : Mem} {F : List Nat} {wI w : World} {rb mb : Nat} {x : List (By × By) × Nat} {lv' : Value} {A B : Ent} (st : St m m F wI w [A, B, rdB rb mb lv' x.2, lsE 72 64 prC2 lv' x.1]) : RdOut wI w F rb mb x :=
 have st2 : St m m F wI w (rdL rb mb lv' x.1 x.2) := (st.drop 0).drop 0
 ⟨lv', (St.finish (Es := []) (l := rdL rb mb lv' x.1 x.2) st2).1, (St.finish (Es := []) (l := rdL rb mb lv' x.1 x.2) st2).2⟩
section
variable {m : Mem} {wI : World}
theorem c_rpage {MM : PgMap} {g : Nat} {d p : By} {n : Nat} {l : List (By × By)} {e rb mb : Nat} {lv : Value} (hrd : RdC MM g) (him : Im m wI) (hM : PgOk m mb MM) (hE : (joinE (rdL rb mb lv l e)).holds wI) (hm : ∀ k ∈ (joinE (rdL rb mb lv l e)).foot, m k = none) (hd : d.length = 32) (hp : p.length = 32) (hn : n ≤ 257) (hg : 2 * (257 - n) + 1 ≤ g) (hl : (pgF (pgM MM) (rdF (pgM MM) g) d p n l e).1.length ≤ 1000000000) :
  Ret Try.prog 39 #[.pointer (some ⟨rb, 0, none⟩), arr d, arr p, .int .i64 n] wI fun _ w' => RdOut wI w' (joinE (rdL rb mb lv l e)).foot rb mb (pgF (pgM MM) (rdF (pgM MM) g) d p n l e) := by
 have st := St.begin him hE hm
 have hl0 : l.length ≤ 1000000000 := Nat.le_trans (pgF_grow fun _ _ _ _ => rdF_grow) hl
 obtain ⟨la, lc, hlv⟩ := row_sl (st.at (i := 1) rfl)
 subst hlv
 refine ret_of Try.call39 Try.func39 rfl Try.ntmps39 Try.results39 rfl ?_
 refine wc_seq ?_
 refine wc_region ?_
 refine wl_box (v := arr d) rfl st rfl ?_
 intro b5 w st
 refine wl_box (v := arr p) rfl st rfl ?_
 intro b6 w st
 refine wl_nil ?_
 refine then_go ?_
 refine wc_seq ?_
 rcases hgk : getKV d MM with _ | ⟨bt, bw⟩
 ·refine wc_draw TF.mixed ?_
  have st := st.pure (touch_drew _)
  refine fl_val 0 rfl (fun _ => (v_move' (by conv => (lhs; whnf)))) rfl (by kernel_rfl) ?_
  refine fl_val 1 rfl (fun _ => (v_nil rfl)) rfl (by kernel_rfl) ?_
  refine fl_val 2 rfl (fun _ => (v_fa TF.f84_0 rfl)) rfl (by kernel_rfl) ?_
  refine fl_ld 3 rfl (v_load rfl (st.reads 2 rfl TF.t82 rfl)) (by kernel_rfl) ?_
  refine fl_ld 4 rfl (v_load rfl (st.reads (v := arr d) 1 rfl TF.t28 (getV_all (by rw [size_arr]; exact hd)))) (by kernel_rfl) ?_
  refine fl_ld 5 rfl (v_mapGet2 hM.map st.im dig_keyT Try.underlying82 TF.z37 hM.len hd rfl rfl (u := .slice none 0 0) (o := false) (by rw [hgk]; rfl) (by rw [hgk]; rfl)) (by kernel_rfl) ?_
  refine fl_val 6 rfl (fun _ => (v_move' (by conv => (lhs; whnf)))) rfl (by kernel_rfl) ?_
  refine fl_val 7 rfl (fun _ => (v_extract rfl rfl)) rfl (by kernel_rfl) ?_
  refine fl_val 8 rfl (fun _ => (v_extract rfl rfl)) rfl (by kernel_rfl) ?_
  refine fl_eff1 9 [8] [] (by kernel_rfl) ⟨obl_ld rfl rfl rfl (v_mapGet2 hM.map st.im dig_keyT Try.underlying82 TF.z37 hM.len hd rfl rfl (u := .slice none 0 0) (o := false) (by rw [hgk]; rfl) (by rw [hgk]; rfl)), obl_ld rfl rfl rfl (v_load rfl (st.reads (v := arr d) 1 rfl TF.t28 (getV_all (by rw [size_arr]; exact hd)))), obl_ld rfl rfl rfl (v_load rfl (st.reads 2 rfl TF.t82 rfl)), trivial⟩ rfl ?_
  refine wl_val (v_assign' (by conv => (lhs; whnf))) rfl ?_
  refine wl_nil ⟨rfl, ?_⟩
  refine fl_eff1 10 [] [] (by kernel_rfl) trivial rfl ?_
  refine wl_val (v_assign' (by conv => (lhs; whnf))) rfl ?_
  refine wl_nil ⟨rfl, ?_⟩
  refine fl_nil (by kernel_rfl) trivial ?_
  refine then_go ?_
  refine wc_seq ?_
  refine wc_region ?_
  refine wl_val (v_move' (by conv => (lhs; whnf))) rfl ?_
  refine wl_val (v_nil rfl) rfl ?_
  refine wl_val (v_fa TF.f84_1 rfl) rfl ?_
  refine wl_val (v_load rfl (st.reads 2 rfl TF.t67 rfl)) rfl ?_
  refine wl_val (v_len_s Try.underlying67 rfl) rfl ?_
  refine wl_val (v_assign' (by conv => (lhs; whnf))) rfl ?_
  refine wl_nil ?_
  refine then_go ?_
  refine wc_seq ?_
  refine wc_block ?_
  refine wc_seq ?_
  refine wc_region ?_
  refine wl_val (v_move' (by conv => (lhs; whnf))) rfl ?_
  refine wl_val (v_nil rfl) rfl ?_
  refine wl_val (v_fa TF.f84_2 rfl) rfl ?_
  refine wl_val (v_load rfl (st.reads 2 rfl TF.t41 rfl)) rfl ?_
  refine wl_val (v_neq rfl rfl) rfl ?_
  refine wl_val (v_assign' (by conv => (lhs; whnf))) rfl ?_
  refine wl_nil ?_
  refine then_go ?_
  refine wc_cond rfl (fun h25 => ?_) (fun h25 => ?_)
  ·refine wc_ret (block_ret (then_ret ?_))
   exact ret0 (by rw [pgF_err (by simpa using h25)]; exact rd_out st)
  ·refine wc_seq ?_
   refine wc_region ?_
   refine wl_val (v_move' (by conv => (lhs; whnf))) rfl ?_
   refine wl_val (v_not rfl) rfl ?_
   refine wl_val (v_assign' (by conv => (lhs; whnf))) rfl ?_
   refine wl_nil ?_
   refine then_go ?_
   refine wc_true rfl ?_
   refine wc_seq ?_
   refine wc_region ?_
   refine wl_val (v_move' (by conv => (lhs; whnf))) rfl ?_
   have e0 : e = 0 := by simpa using h25
   refine wl_call rfl (c_rfail (c := 7) st.im (st.at (i := 2) rfl) (st.none (i := 2) rfl)) rfl ?_
   rintro v35 w ⟨t35, hE35⟩
   have st := st.step 2 rfl t35 hE35
   refine wl_nil ?_
   refine then_go ?_
   refine wc_ret (block_ret (then_ret ?_))
   exact ret0 (by rw [pgF_none e0 (by simp [pgM, hgk])]; exact rd_out st)
 ·refine wc_draw TF.mixed ?_
  have st := st.pure (touch_drew _)
  refine fl_val 0 rfl (fun _ => (v_move' (by conv => (lhs; whnf)))) rfl (by kernel_rfl) ?_
  refine fl_val 1 rfl (fun _ => (v_nil rfl)) rfl (by kernel_rfl) ?_
  refine fl_val 2 rfl (fun _ => (v_fa TF.f84_0 rfl)) rfl (by kernel_rfl) ?_
  refine fl_ld 3 rfl (v_load rfl (st.reads 2 rfl TF.t82 rfl)) (by kernel_rfl) ?_
  refine fl_ld 4 rfl (v_load rfl (st.reads (v := arr d) 1 rfl TF.t28 (getV_all (by rw [size_arr]; exact hd)))) (by kernel_rfl) ?_
  refine fl_ld 5 rfl (v_mapGet2 hM.map st.im dig_keyT Try.underlying82 TF.z37 hM.len hd rfl rfl (u := bw) (o := true) (by rw [hgk]; rfl) (by rw [hgk]; rfl)) (by kernel_rfl) ?_
  refine fl_val 6 rfl (fun _ => (v_move' (by conv => (lhs; whnf)))) rfl (by kernel_rfl) ?_
  refine fl_val 7 rfl (fun _ => (v_extract rfl rfl)) rfl (by kernel_rfl) ?_
  refine fl_val 8 rfl (fun _ => (v_extract rfl rfl)) rfl (by kernel_rfl) ?_
  refine fl_eff1 9 [8] [] (by kernel_rfl) ⟨obl_ld rfl rfl rfl (v_mapGet2 hM.map st.im dig_keyT Try.underlying82 TF.z37 hM.len hd rfl rfl (u := bw) (o := true) (by rw [hgk]; rfl) (by rw [hgk]; rfl)), obl_ld rfl rfl rfl (v_load rfl (st.reads (v := arr d) 1 rfl TF.t28 (getV_all (by rw [size_arr]; exact hd)))), obl_ld rfl rfl rfl (v_load rfl (st.reads 2 rfl TF.t82 rfl)), trivial⟩ rfl ?_
  refine wl_val (v_assign' (by conv => (lhs; whnf))) rfl ?_
  refine wl_nil ⟨rfl, ?_⟩
  refine fl_eff1 10 [] [] (by kernel_rfl) trivial rfl ?_
  refine wl_val (v_assign' (by conv => (lhs; whnf))) rfl ?_
  refine wl_nil ⟨rfl, ?_⟩
  refine fl_nil (by kernel_rfl) trivial ?_
  refine then_go ?_
  refine wc_seq ?_
  obtain ⟨hbt, hbl⟩ := hM.text _ (getKV_mem hgk)
  obtain ⟨wa, wcc, hbw⟩ : ∃ a c, bw = .slice a bt.length c := by obtain ⟨_, a, c, h, _⟩ := hbt; exact ⟨a, c, h⟩
  subst hbw
  refine wc_region ?_
  refine wl_val (v_move' (by conv => (lhs; whnf))) rfl ?_
  refine wl_val (v_nil rfl) rfl ?_
  refine wl_val (v_fa TF.f84_1 rfl) rfl ?_
  refine wl_val (v_load rfl (st.reads 2 rfl TF.t67 rfl)) rfl ?_
  refine wl_val (v_len_s Try.underlying67 rfl) rfl ?_
  refine wl_val (v_assign' (by conv => (lhs; whnf))) rfl ?_
  refine wl_nil ?_
  refine then_go ?_
  refine wc_seq ?_
  refine wc_block ?_
  refine wc_seq ?_
  refine wc_region ?_
  refine wl_val (v_move' (by conv => (lhs; whnf))) rfl ?_
  refine wl_val (v_nil rfl) rfl ?_
  refine wl_val (v_fa TF.f84_2 rfl) rfl ?_
  refine wl_val (v_load rfl (st.reads 2 rfl TF.t41 rfl)) rfl ?_
  refine wl_val (v_neq rfl rfl) rfl ?_
  refine wl_val (v_assign' (by conv => (lhs; whnf))) rfl ?_
  refine wl_nil ?_
  refine then_go ?_
  refine wc_cond rfl (fun h25 => ?_) (fun h25 => ?_)
  ·refine wc_ret (block_ret (then_ret ?_))
   exact ret0 (by rw [pgF_err (by simpa using h25)]; exact rd_out st)
  ·refine wc_seq ?_
   refine wc_region ?_
   refine wl_val (v_move' (by conv => (lhs; whnf))) rfl ?_
   refine wl_val (v_not rfl) rfl ?_
   refine wl_val (v_assign' (by conv => (lhs; whnf))) rfl ?_
   refine wl_nil ?_
   refine then_go ?_
   refine wc_false rfl ?_
   refine wc_seq ?_
   have e0 : e = 0 := by simpa using h25
   have hMd : pgM MM d = some bt := by simp [pgM, hgk]
   rcases bt with _ | ⟨k0, bt⟩
   ·refine wc_region ?_
    refine wl_val (v_move' (by conv => (lhs; whnf))) rfl ?_
    refine wl_val (v_len_s Try.underlying37 rfl) rfl ?_
    refine wl_val (v_gtr rfl rfl) rfl ?_
    rw [show decide ((0 : Int) < ((([] : By).length : Nat) : Int)) = false from by decide]
    refine wl_val (v_move' (by conv => (lhs; whnf))) rfl ?_
    refine wl_off rfl rfl rfl rfl ?_
    refine wl_off rfl rfl rfl rfl ?_
    refine wl_off rfl rfl rfl rfl ?_
    refine wl_off rfl rfl rfl rfl ?_
    refine wl_val (v_pick rfl) rfl ?_
    refine wl_val (v_assign' (by conv => (lhs; whnf))) rfl ?_
    refine wl_nil ?_
    refine then_go ?_
    refine wc_false rfl ?_
    refine wc_skip ?_
    refine block_go (then_go ?_)
    refine wc_seq ?_
    have hnl : ¬ (0 < ([] : By).length ∧ ([] : By).headD 0 = 3) := by simp
    have hneed : need n ([] : By) ≤ g := by
     unfold need
     rw [if_neg (by decide)]
     exact hg
    have hlq : (rdF (pgM MM) g ([] : By) p n l e).2.1.length ≤ 1000000000 := by
     by_cases hq : 0 < (rdF (pgM MM) g ([] : By) p n l e).1.length ∨ (0 < n ∧ (rdF (pgM MM) g ([] : By) p n l e).2.1.length < l.length + 2)
     ·rw [pgF_bad e0 hMd hnl hq] at hl; exact hl
     ·rw [pgF_ok e0 hMd hnl hq] at hl; exact hl
    refine wc_region ?_
    refine wl_val (v_move' (by conv => (lhs; whnf))) rfl ?_
    refine wl_val (v_move' (by conv => (lhs; whnf))) rfl ?_
    refine wl_val (v_load rfl (by first | exact st.rdp 0 rfl (by exact rfl) TF.t28 (by exact (getV_all (by rw [size_arr]; assumption))))) rfl ?_
    refine wl_val (v_move' (by conv => (lhs; whnf))) rfl ?_
    have st := K.St.joinLast (pre := [_, _]) (l := rdL rb mb (.slice la l.length lc) l e) st
    refine wl_call rfl (hrd st.im hM (st.at (i := 2) rfl) (st.none (i := 2) rfl) hbt hbl hp hn hneed hlq) rfl ?_
    rintro v52 w ⟨⟨lv1, t52, hE52⟩, hs52⟩
    have st := st.step 2 rfl t52 hE52
    have st := K.St.splitLast (pre := [_, _]) (l := rdL rb mb lv1 _ _) st
    obtain ⟨_, ra, rc, hra, _⟩ := id hs52
    subst hra
    obtain ⟨la1, lc1, hlv1⟩ := row_sl (st.at (i := 3) rfl)
    subst hlv1
    refine wl_val (v_assign' (by conv => (lhs; whnf))) rfl ?_
    refine wl_nil ?_
    refine then_go ?_
    refine wc_seq ?_
    by_cases hr : 0 < (rdF (pgM MM) g ([] : By) p n l e).1.length
    ·refine wc_region ?_
     refine wl_val (v_move' (by conv => (lhs; whnf))) rfl ?_
     refine wl_val (v_len_s Try.underlying37 rfl) rfl ?_
     refine wl_val (v_gtr rfl rfl) rfl ?_
     rw [decide_eq_true (show (0 : Int) < ((rdF (pgM MM) g ([] : By) p n l e).1.length : Int) by omega)]
     refine wl_val (v_move' (by conv => (lhs; whnf))) rfl ?_
     refine wl_off rfl rfl rfl rfl ?_
     refine wl_off rfl rfl rfl rfl ?_
     refine wl_off rfl rfl rfl rfl ?_
     refine offU rfl rfl rfl ?_
     refine offU rfl rfl rfl ?_
     refine offU rfl rfl rfl ?_
     refine offU rfl rfl rfl ?_
     refine offU rfl rfl rfl ?_
     refine offU rfl rfl rfl ?_
     refine offU rfl rfl rfl ?_
     refine offU rfl rfl rfl ?_
     refine wl_off rfl rfl rfl rfl ?_
     refine wl_val (v_pick rfl) rfl ?_
     refine wl_nil ?_
     refine then_go ?_
     refine wc_true rfl ?_
     refine wc_region ?_
     refine wl_val (v_move' (by conv => (lhs; whnf))) rfl ?_
     refine wl_call rfl (c_rfail (c := 15) st.im (st.at (i := 2) rfl) (st.none (i := 2) rfl)) rfl ?_
     rintro v71 w ⟨t71, hE71⟩
     have st := st.step 2 rfl t71 hE71
     refine wl_nil ?_
     refine end0 ?_
     first
     | (rw [pgF_bad e0 hMd hnl (.inl hr)]; exact rd_out st)
     | (rw [pgF_bad e0 hMd hnl (.inr (by simp at h69; omega))]; exact rd_out st)
     | (rw [pgF_ok e0 hMd hnl (by simp at h69; omega)]; exact rd_out st)
    ·refine wc_region ?_
     refine wl_val (v_move' (by conv => (lhs; whnf))) rfl ?_
     refine wl_val (v_len_s Try.underlying37 rfl) rfl ?_
     refine wl_val (v_gtr rfl rfl) rfl ?_
     rw [decide_eq_false (show ¬ (0 : Int) < ((rdF (pgM MM) g ([] : By) p n l e).1.length : Int) by omega)]
     refine wl_val (v_move' (by conv => (lhs; whnf))) rfl ?_
     refine wl_on rfl rfl ?_
     refine wl_val (v_move' (by conv => (lhs; whnf))) rfl ?_
     refine wl_on rfl rfl ?_
     refine wl_val (v_gtr rfl rfl) rfl ?_
     refine wl_on rfl rfl ?_
     refine wl_val (v_move' (by conv => (lhs; whnf))) rfl ?_
     refine wl_valg rfl rfl (fun e => (v_move' (by conv => (lhs; whnf)))) rfl ?_
     refine wl_valg rfl rfl (fun e => (v_nil (by first | rfl | exact gx e rfl))) rfl ?_
     refine wl_valg rfl rfl (fun e => (v_fa TF.f84_1 (by first | rfl | exact gx e rfl))) rfl ?_
     refine wl_valg rfl rfl (fun e => (v_load (by first | rfl | exact gx e rfl) (st.reads 2 (by first | rfl | exact gx e rfl) TF.t67 (by first | rfl | exact gx e rfl)))) rfl ?_
     refine wl_valg rfl rfl (fun e => (v_len_s Try.underlying67 (by first | rfl | exact gx e rfl))) rfl ?_
     refine wl_valg rfl rfl (fun e => (v_move' (by conv => (lhs; whnf)))) rfl ?_
     refine wl_valg rfl rfl (fun e => (v_add' (c := ((l.length + 2 : Nat) : Int)) (gx e (by first | rfl | exact gx e rfl)) (by first | rfl | exact gx e rfl) (by omega) (by omega) (by omega))) rfl ?_
     refine wl_valg rfl rfl (fun e => (v_lss (by first | rfl | exact gx e rfl) (by first | rfl | exact gx e rfl))) rfl ?_
     refine wl_on rfl rfl ?_
     refine wl_val (v_pickA rfl rfl rfl) rfl ?_
     refine wl_val (v_pick rfl) rfl ?_
     refine wl_nil ?_
     refine then_go ?_
     refine wc_cond rfl (fun h69 => ?_) (fun h69 => ?_)
     ·refine wc_region ?_
      refine wl_val (v_move' (by conv => (lhs; whnf))) rfl ?_
      refine wl_call rfl (c_rfail (c := 15) st.im (st.at (i := 2) rfl) (st.none (i := 2) rfl)) rfl ?_
      rintro v71 w ⟨t71, hE71⟩
      have st := st.step 2 rfl t71 hE71
      refine wl_nil ?_
      refine end0 ?_
      first
      | (rw [pgF_bad e0 hMd hnl (.inl hr)]; exact rd_out st)
      | (rw [pgF_bad e0 hMd hnl (.inr (by simp at h69; omega))]; exact rd_out st)
      | (rw [pgF_ok e0 hMd hnl (by simp at h69; omega)]; exact rd_out st)
     ·refine wc_skip ?_
      refine end0 ?_
      first
      | (rw [pgF_bad e0 hMd hnl (.inl hr)]; exact rd_out st)
      | (rw [pgF_bad e0 hMd hnl (.inr (by simp at h69; omega))]; exact rd_out st)
      | (rw [pgF_ok e0 hMd hnl (by simp at h69; omega)]; exact rd_out st)
   ·obtain ⟨wb, wo, _, hwa, _⟩ := SlM.ptr1 hbt (by simp) (by decide)
    cases hwa
    refine wc_region ?_
    refine wl_val (v_move' (by conv => (lhs; whnf))) rfl ?_
    refine wl_val (v_len_s Try.underlying37 rfl) rfl ?_
    refine wl_val (v_gtr rfl rfl) rfl ?_
    rw [show decide ((0 : Int) < (((k0 :: bt).length : Nat) : Int)) = true from decide_eq_true (by simp)]
    refine wl_val (v_move' (by conv => (lhs; whnf))) rfl ?_
    refine wl_on rfl rfl ?_
    refine wl_val (v_move' (by conv => (lhs; whnf))) rfl ?_
    refine wl_on rfl rfl ?_
    refine wl_val (v_ias 0 Try.underlying37 TF.t5 rfl rfl (by first | rfl | omega) (by simp)) rfl ?_
    refine wl_on rfl rfl ?_
    refine wl_val (v_load rfl (SlM.rdB TF.t5 0 hbt (by simp) st.im)) rfl ?_
    refine wl_on rfl rfl ?_
    refine wl_val (v_eql rfl rfl) rfl ?_
    refine wl_val (v_pick rfl) rfl ?_
    refine wl_val (v_assign' (by conv => (lhs; whnf))) rfl ?_
    refine wl_nil ?_
    refine then_go ?_
    refine wc_cond rfl (fun h36 => ?_) (fun h36 => ?_)
    ·refine wc_seq ?_
     refine wc_region ?_
     refine wl_val (v_move' (by conv => (lhs; whnf))) rfl ?_
     refine wl_call rfl (c_rfail (c := 15) st.im (st.at (i := 2) rfl) (st.none (i := 2) rfl)) rfl ?_
     rintro v47 w ⟨t47, hE47⟩
     have st := st.step 2 rfl t47 hE47
     refine wl_nil ?_
     refine then_go ?_
     refine wc_ret (block_ret (then_ret ?_))
     have hk3 : k0 = 3 := by
      have h : (k0.toNat : Int) = 3 := by simpa using h36
      exact UInt8.toNat_inj.mp (by have : (3 : UInt8).toNat = 3 := rfl; omega)
     exact ret0 (by rw [pgF_link e0 hMd ⟨by simp, by simpa using hk3⟩]; exact rd_out st)
    ·refine wc_skip ?_
     refine block_go (then_go ?_)
     refine wc_seq ?_
     have hnl : ¬ (0 < (k0 :: bt).length ∧ (k0 :: bt).headD 0 = 3) := by
      intro hh
      have h3 : k0 = 3 := by simpa using hh.2
      subst h3
      simp at h36
     have hneed : need n (k0 :: bt) ≤ g := by
      unfold need
      rw [if_neg (fun hh => hnl ⟨by simp, hh⟩)]
      exact hg
     have hlq : (rdF (pgM MM) g (k0 :: bt) p n l e).2.1.length ≤ 1000000000 := by
      by_cases hq : 0 < (rdF (pgM MM) g (k0 :: bt) p n l e).1.length ∨ (0 < n ∧ (rdF (pgM MM) g (k0 :: bt) p n l e).2.1.length < l.length + 2)
      ·rw [pgF_bad e0 hMd hnl hq] at hl; exact hl
      ·rw [pgF_ok e0 hMd hnl hq] at hl; exact hl
     refine wc_region ?_
     refine wl_val (v_move' (by conv => (lhs; whnf))) rfl ?_
     refine wl_val (v_move' (by conv => (lhs; whnf))) rfl ?_
     refine wl_val (v_load rfl (by first | exact st.rdp 0 rfl (by exact rfl) TF.t28 (by exact (getV_all (by rw [size_arr]; assumption))))) rfl ?_
     refine wl_val (v_move' (by conv => (lhs; whnf))) rfl ?_
     have st := K.St.joinLast (pre := [_, _]) (l := rdL rb mb (.slice la l.length lc) l e) st
     refine wl_call rfl (hrd st.im hM (st.at (i := 2) rfl) (st.none (i := 2) rfl) hbt hbl hp hn hneed hlq) rfl ?_
     rintro v52 w ⟨⟨lv1, t52, hE52⟩, hs52⟩
     have st := st.step 2 rfl t52 hE52
     have st := K.St.splitLast (pre := [_, _]) (l := rdL rb mb lv1 _ _) st
     obtain ⟨_, ra, rc, hra, _⟩ := id hs52
     subst hra
     obtain ⟨la1, lc1, hlv1⟩ := row_sl (st.at (i := 3) rfl)
     subst hlv1
     refine wl_val (v_assign' (by conv => (lhs; whnf))) rfl ?_
     refine wl_nil ?_
     refine then_go ?_
     refine wc_seq ?_
     by_cases hr : 0 < (rdF (pgM MM) g (k0 :: bt) p n l e).1.length
     ·refine wc_region ?_
      refine wl_val (v_move' (by conv => (lhs; whnf))) rfl ?_
      refine wl_val (v_len_s Try.underlying37 rfl) rfl ?_
      refine wl_val (v_gtr rfl rfl) rfl ?_
      rw [decide_eq_true (show (0 : Int) < ((rdF (pgM MM) g (k0 :: bt) p n l e).1.length : Int) by omega)]
      refine wl_val (v_move' (by conv => (lhs; whnf))) rfl ?_
      refine wl_off rfl rfl rfl rfl ?_
      refine wl_off rfl rfl rfl rfl ?_
      refine wl_off rfl rfl rfl rfl ?_
      refine offU rfl rfl rfl ?_
      refine offU rfl rfl rfl ?_
      refine offU rfl rfl rfl ?_
      refine offU rfl rfl rfl ?_
      refine offU rfl rfl rfl ?_
      refine offU rfl rfl rfl ?_
      refine offU rfl rfl rfl ?_
      refine offU rfl rfl rfl ?_
      refine wl_off rfl rfl rfl rfl ?_
      refine wl_val (v_pick rfl) rfl ?_
      refine wl_nil ?_
      refine then_go ?_
      refine wc_true rfl ?_
      refine wc_region ?_
      refine wl_val (v_move' (by conv => (lhs; whnf))) rfl ?_
      refine wl_call rfl (c_rfail (c := 15) st.im (st.at (i := 2) rfl) (st.none (i := 2) rfl)) rfl ?_
      rintro v71 w ⟨t71, hE71⟩
      have st := st.step 2 rfl t71 hE71
      refine wl_nil ?_
      refine end0 ?_
      first
      | (rw [pgF_bad e0 hMd hnl (.inl hr)]; exact rd_out st)
      | (rw [pgF_bad e0 hMd hnl (.inr (by simp at h69; omega))]; exact rd_out st)
      | (rw [pgF_ok e0 hMd hnl (by simp at h69; omega)]; exact rd_out st)
     ·refine wc_region ?_
      refine wl_val (v_move' (by conv => (lhs; whnf))) rfl ?_
      refine wl_val (v_len_s Try.underlying37 rfl) rfl ?_
      refine wl_val (v_gtr rfl rfl) rfl ?_
      rw [decide_eq_false (show ¬ (0 : Int) < ((rdF (pgM MM) g (k0 :: bt) p n l e).1.length : Int) by omega)]
      refine wl_val (v_move' (by conv => (lhs; whnf))) rfl ?_
      refine wl_on rfl rfl ?_
      refine wl_val (v_move' (by conv => (lhs; whnf))) rfl ?_
      refine wl_on rfl rfl ?_
      refine wl_val (v_gtr rfl rfl) rfl ?_
      refine wl_on rfl rfl ?_
      refine wl_val (v_move' (by conv => (lhs; whnf))) rfl ?_
      refine wl_valg rfl rfl (fun e => (v_move' (by conv => (lhs; whnf)))) rfl ?_
      refine wl_valg rfl rfl (fun e => (v_nil (by first | rfl | exact gx e rfl))) rfl ?_
      refine wl_valg rfl rfl (fun e => (v_fa TF.f84_1 (by first | rfl | exact gx e rfl))) rfl ?_
      refine wl_valg rfl rfl (fun e => (v_load (by first | rfl | exact gx e rfl) (st.reads 2 (by first | rfl | exact gx e rfl) TF.t67 (by first | rfl | exact gx e rfl)))) rfl ?_
      refine wl_valg rfl rfl (fun e => (v_len_s Try.underlying67 (by first | rfl | exact gx e rfl))) rfl ?_
      refine wl_valg rfl rfl (fun e => (v_move' (by conv => (lhs; whnf)))) rfl ?_
      refine wl_valg rfl rfl (fun e => (v_add' (c := ((l.length + 2 : Nat) : Int)) (gx e (by first | rfl | exact gx e rfl)) (by first | rfl | exact gx e rfl) (by omega) (by omega) (by omega))) rfl ?_
      refine wl_valg rfl rfl (fun e => (v_lss (by first | rfl | exact gx e rfl) (by first | rfl | exact gx e rfl))) rfl ?_
      refine wl_on rfl rfl ?_
      refine wl_val (v_pickA rfl rfl rfl) rfl ?_
      refine wl_val (v_pick rfl) rfl ?_
      refine wl_nil ?_
      refine then_go ?_
      refine wc_cond rfl (fun h69 => ?_) (fun h69 => ?_)
      ·refine wc_region ?_
       refine wl_val (v_move' (by conv => (lhs; whnf))) rfl ?_
       refine wl_call rfl (c_rfail (c := 15) st.im (st.at (i := 2) rfl) (st.none (i := 2) rfl)) rfl ?_
       rintro v71 w ⟨t71, hE71⟩
       have st := st.step 2 rfl t71 hE71
       refine wl_nil ?_
       refine end0 ?_
       first
       | (rw [pgF_bad e0 hMd hnl (.inl hr)]; exact rd_out st)
       | (rw [pgF_bad e0 hMd hnl (.inr (by simp at h69; omega))]; exact rd_out st)
       | (rw [pgF_ok e0 hMd hnl (by simp at h69; omega)]; exact rd_out st)
      ·refine wc_skip ?_
       refine end0 ?_
       first
       | (rw [pgF_bad e0 hMd hnl (.inl hr)]; exact rd_out st)
       | (rw [pgF_bad e0 hMd hnl (.inr (by simp at h69; omega))]; exact rd_out st)
       | (rw [pgF_ok e0 hMd hnl (by simp at h69; omega)]; exact rd_out st)
end
end Go.Proofs.Ytonlmjpenonabaa

namespace Go.Proofs.Ytonlmjpenonabaa
open Go Go.RowKit K SH PT
section
variable {M : By → Option By} {g : Nat} {k : UInt8} {b p : By} {n : Nat} {l : List (By × By)} {e : Nat}
theorem rdF_nil : rdF M (g + 1) [] p n l e = ([], l, failE e 15) := rfl
theorem rdF_bad (h : e ≠ 0 ∨ 256 < n) : rdF M (g + 1) (k :: b) p n l e = ([], l, failE e 15) := by rw [rdF, if_pos h]
theorem rdF_0 (h : ¬ (e ≠ 0 ∨ 256 < n)) (hk : k = 0) : rdF M (g + 1) (k :: b) p n l e = (b, l, e) := by rw [rdF, if_neg h, if_pos hk]
theorem rdF_1 (h : ¬ (e ≠ 0 ∨ 256 < n)) (hk : k = 1) : rdF M (g + 1) (k :: b) p n l e =
      ((dgF (dgF b e).2.1 (dgF b e).2.2).2.1, l ++ [((dgF b e).1, (dgF (dgF b e).2.1 (dgF b e).2.2).1)],
        if n ≤ common (dgF b e).1 p then (dgF (dgF b e).2.1 (dgF b e).2.2).2.2 else failE (dgF (dgF b e).2.1 (dgF b e).2.2).2.2 15) := by
  subst hk; rw [rdF, if_neg h, if_neg (by decide), if_pos rfl]
theorem rdF_2 (h : ¬ (e ≠ 0 ∨ 256 < n)) (hk : k = 2) : rdF M (g + 1) (k :: b) p n l e =
      rdF M g (rdF M g b (setB p n false) (n + 1) l e).1 (setB p n true) (n + 1) (rdF M g b (setB p n false) (n + 1) l e).2.1 (rdF M g b (setB p n false) (n + 1) l e).2.2 := by
  subst hk; rw [rdF, if_neg h, if_neg (by decide), if_neg (by decide), if_pos rfl]
theorem rdF_3 (h : ¬ (e ≠ 0 ∨ 256 < n)) (hk : k = 3) : rdF M (g + 1) (k :: b) p n l e = ((dgF b e).2.1, pgF M (rdF M g) (dgF b e).1 p n l (dgF b e).2.2) := by
 subst hk; rw [rdF, if_neg h, if_neg (by decide), if_neg (by decide), if_neg (by decide), if_pos rfl]
theorem rdF_x (h : ¬ (e ≠ 0 ∨ 256 < n)) (h0 : k ≠ 0) (h1 : k ≠ 1) (h2 : k ≠ 2) (h3 : k ≠ 3) : rdF M (g + 1) (k :: b) p n l e = (b, l, failE e 15) := by
 rw [rdF, if_neg h, if_neg h0, if_neg h1, if_neg h2, if_neg h3]
end
theorem rd_outL {m : Mem} {F : List Nat} {wI w : World} {rb mb : Nat} {x : List (By × By) × Nat} {lv' : Value} (A : List Ent) (st : St m m F wI w (A ++ rdL rb mb lv' x.1 x.2)) : RdOut wI w F rb mb x :=
 have st2 : St m m F wI w (rdL rb mb lv' x.1 x.2) := st.keepOnly (List.sublist_append_right _ _)
 ⟨lv', (St.finish (Es := []) (l := rdL rb mb lv' x.1 x.2) st2).1, (St.finish (Es := []) (l := rdL rb mb lv' x.1 x.2) st2).2⟩
theorem pr_at {a : By} (h : a.length = 32) : setSeg (prC2 (z32, z32)).toArray 0 (bs a) = (prC2 (a, z32)).toArray := by
 have := setSeg_mid (a := []) (b := bs z32) (c := bs z32) (l := bs a) (o := 0) rfl (by rw [length_bs, length_bs, h]; rfl)
 simpa [prC2] using this
theorem pr_val {a v : By} (ha : a.length = 32) (h : v.length = 32) : setSeg (prC2 (a, z32)).toArray 32 (bs v) = (prC2 (a, v)).toArray := by
 have := setSeg_mid (a := bs a) (b := bs z32) (c := []) (l := bs v) (o := 32) (by rw [length_bs, ha]) (by rw [length_bs, length_bs, h]; rfl)
 simpa [prC2] using this
theorem kind_ne {k : UInt8} {c : Nat} (hc : c < 256) (h : ¬ ((k.toNat : Int) = (c : Int))) : k ≠ UInt8.ofNat c := fun e => h (by
 rw [e, UInt8.toNat_ofNat', Nat.mod_eq_of_lt hc])
theorem kind_eq {k : UInt8} {c : Nat} (hc : c < 256) (h : (k.toNat : Int) = (c : Int)) : k = UInt8.ofNat c := UInt8.toNat_inj.mp (by
 rw [UInt8.toNat_ofNat', Nat.mod_eq_of_lt hc]; omega)
section
variable {m : Mem} {wI : World}
theorem c_read1 {MM : PgMap} {g : Nat} {b p : By} {n : Nat} {l : List (By × By)} {e rb mb : Nat} {lv bv : Value} (ih : RdC MM g) (him : Im m wI) (hM : PgOk m mb MM) (hE : (joinE (rdL rb mb lv l e)).holds wI) (hm : ∀ k ∈ (joinE (rdL rb mb lv l e)).foot, m k = none) (hb : SlM m bv 1 b.length (bs b)) (hbl : b.length ≤ 1000000000) (hp : p.length = 32) (hn : n ≤ 257) (hg : need n b ≤ g + 1) (hl : (rdF (pgM MM) (g + 1) b p n l e).2.1.length ≤ 1000000000) :
  Ret Try.prog 64 #[.pointer (some ⟨rb, 0, none⟩), bv, arr p, .int .i64 n] wI fun v' w' => RdOut wI w' (joinE (rdL rb mb lv l e)).foot rb mb (rdF (pgM MM) (g + 1) b p n l e).2 ∧ SlM m v' 1 (rdF (pgM MM) (g + 1) b p n l e).1.length (bs (rdF (pgM MM) (g + 1) b p n l e).1) := by
 have st := St.begin him hE hm
 have hl0 : l.length ≤ 1000000000 := Nat.le_trans rdF_grow hl
 obtain ⟨la, lc, hlv⟩ := row_sl (st.at (i := 1) rfl)
 subst hlv
 obtain ⟨ba, bc, hbv, hbc⟩ : ∃ a c, bv = .slice a b.length c ∧ b.length ≤ c := by obtain ⟨_, a, c, h, h2, _⟩ := hb; exact ⟨a, c, h, h2⟩
 subst hbv
 refine ret_of Try.call64 Try.func64 rfl Try.ntmps64 Try.results64 rfl ?_
 refine wc_seq ?_
 refine wc_region ?_
 refine wl_box (v := arr p) rfl st rfl ?_
 intro b6 w st
 refine wl_val (v_assign' (by conv => (lhs; whnf))) rfl ?_
 refine wl_nil ?_
 refine then_go ?_
 refine wc_seq ?_
 refine wc_seq ?_
 refine wc_region ?_
 refine wl_val (v_move' (by conv => (lhs; whnf))) rfl ?_
 refine wl_val (v_nil rfl) rfl ?_
 refine wl_val (v_fa TF.f84_2 rfl) rfl ?_
 refine wl_val (v_load rfl (st.reads 1 rfl TF.t41 rfl)) rfl ?_
 refine wl_val (v_neq rfl rfl) rfl ?_
 refine wl_val (v_move' (by conv => (lhs; whnf))) rfl ?_
 refine wl_valg rfl rfl (fun e => (v_move' (by conv => (lhs; whnf)))) rfl ?_
 refine wl_valg rfl rfl (fun e => (v_len_s Try.underlying37 (by first | rfl | exact gx e rfl))) rfl ?_
 refine wl_valg rfl rfl (fun e => (v_eql (by first | rfl | exact gx e rfl) (by first | rfl | exact gx e rfl))) rfl ?_
 refine wl_val (v_pickO rfl rfl rfl) rfl ?_
 refine wl_val (v_move' (by conv => (lhs; whnf))) rfl ?_
 refine wl_valg rfl rfl (fun e => (v_move' (by conv => (lhs; whnf)))) rfl ?_
 refine wl_valg rfl rfl (fun e => (v_gtr (by first | rfl | exact gx e rfl) (by first | rfl | exact gx e rfl))) rfl ?_
 refine wl_val (v_pickO rfl rfl rfl) rfl ?_
 refine wl_nil ?_
 refine then_go ?_
 refine wc_cond rfl (fun h25 => ?_) (fun h25 => ?_)
 ·refine wc_seq ?_
  refine wc_region ?_
  refine wl_val (v_move' (by conv => (lhs; whnf))) rfl ?_
  have ebad : rdF (pgM MM) (g + 1) b p n l e = ([], l, failE e 15) := by
   match b, h25 with
   | [], _ => rfl
   | k :: b, h => exact rdF_bad (by simp at h; omega)
  refine wl_call rfl (c_rfail (c := 15) st.im (st.at (i := 1) rfl) (st.none (i := 1) rfl)) rfl ?_
  rintro v27 w ⟨t27, hE27⟩
  have st := st.step 1 rfl t27 hE27
  refine wl_nil ?_
  refine then_go ?_
  refine wc_seq ?_
  refine wc_region ?_
  refine wl_val (v_assign' (by conv => (lhs; whnf))) rfl ?_
  refine wl_nil ?_
  refine then_go ?_
  refine wc_ret (then_ret ?_)
  rw [ebad]
  exact ret1 rfl ⟨rd_outL (x := (l, failE e 15)) [_] st, SlM.nil⟩
 ·refine wc_skip ?_
  refine then_go ?_
  refine wc_seq ?_
  obtain ⟨k0, b', hbb⟩ : ∃ k0 b', b = k0 :: b' := by
   cases b with
   | nil => simp at h25
   | cons k b => exact ⟨k, b, rfl⟩
  subst hbb
  have hok : ¬ (e ≠ 0 ∨ 256 < n) := by simp at h25; omega
  have e0 : e = 0 := by omega
  have hn6 : n ≤ 256 := by omega
  obtain ⟨bb, bo, _, hba, _⟩ := SlM.ptr1 hb (by simp) (by decide)
  cases hba
  have hb' := hb.subB 1 (k0 :: b').length (by simp) (Nat.le_refl _)
  rw [show ((k0 :: b').drop 1).take ((k0 :: b').length - 1) = b' by simp] at hb'
  have hbl' : b'.length ≤ 1000000000 := by simp at hbl; omega
  refine wc_region ?_
  refine wl_val (v_move' (by conv => (lhs; whnf))) rfl ?_
  refine wl_val (v_ias 0 Try.underlying37 TF.t5 rfl rfl (by first | rfl | omega) (by simp)) rfl ?_
  refine wl_val (v_load rfl (SlM.rdB TF.t5 0 hb (by simp) st.im)) rfl ?_
  refine wl_val (v_assign' (by conv => (lhs; whnf))) rfl ?_
  refine wl_nil ?_
  refine then_go ?_
  refine wc_seq ?_
  refine wc_region ?_
  refine wl_val (v_move' (by conv => (lhs; whnf))) rfl ?_
  refine wl_val (v_sls 1 (k0 :: b').length Try.underlying37 TF.t5 rfl ⟨_, _, rfl, rfl⟩ rfl (by simp) hbc) rfl ?_
  refine wl_val (v_assign' (by conv => (lhs; whnf))) rfl ?_
  refine wl_nil ?_
  refine then_go ?_
  refine wc_seq ?_
  refine wc_seq ?_
  refine wc_region ?_
  refine wl_val (v_move' (by conv => (lhs; whnf))) rfl ?_
  refine wl_nil ?_
  refine then_go ?_
  refine wc_block ?_
  refine wc_seq ?_
  refine wc_region ?_
  refine wl_val (v_eql rfl rfl) rfl ?_
  refine wl_val (v_assign' (by conv => (lhs; whnf))) rfl ?_
  refine wl_nil ?_
  refine then_go ?_
  refine wc_cond rfl (fun h36 => ?_) (fun h36 => ?_)
  ·refine wc_skip ?_
   refine block_go (then_go ?_)
   refine wc_seq ?_
   refine wc_region ?_
   refine wl_val (v_move' (by conv => (lhs; whnf))) rfl ?_
   refine wl_val (v_assign' (by conv => (lhs; whnf))) rfl ?_
   refine wl_nil ?_
   refine then_go ?_
   refine wc_ret ?_
   rw [rdF_0 hok (kind_eq (c := 0) (by decide) (by simpa using h36))]
   exact ret1 rfl ⟨rd_outL (x := (l, e)) [_] st, hb'⟩
  ·refine wc_seq ?_
   refine wc_region ?_
   refine wl_val (v_eql rfl rfl) rfl ?_
   refine wl_val (v_assign' (by conv => (lhs; whnf))) rfl ?_
   refine wl_nil ?_
   refine then_go ?_
   refine wc_cond rfl (fun h38 => ?_) (fun h38 => ?_)
   ·refine wc_seq ?_
    have hk1 : k0 = 1 := kind_eq (c := 1) (by decide) (by simpa using h38)
    have e1 := rdF_1 (M := pgM MM) (g := g) (b := b') (p := p) (l := l) hok hk1
    rw [e1] at hl ⊢
    have q1 := dgF_len (b := b') (e := e)
    have q2 := dgF_len (b := (dgF b' e).2.1) (e := (dgF b' e).2.2)
    have qr := dgF_rest (b := b') (e := e)
    refine wc_region ?_
    refine wl_alloc TF.z72 st rfl ?_
    intro b10 w st
    refine wl_nil ?_
    refine then_go ?_
    refine wc_seq ?_
    refine wc_region ?_
    refine wl_val (v_move' (by conv => (lhs; whnf))) rfl ?_
    refine wl_val (v_move' (by conv => (lhs; whnf))) rfl ?_
    refine wl_call rfl (c_rdig st.im (st.at (i := 2) rfl) (st.none (i := 2) rfl) hb' hbl') rfl ?_
    rintro v43 w ⟨t43, hE43, v2, rfl, hs2⟩
    have st := st.step 2 rfl t43 hE43
    refine wl_val (v_move' (by conv => (lhs; whnf))) rfl ?_
    refine wl_val (v_extract rfl rfl) rfl ?_
    refine wl_val (v_extract rfl rfl) rfl ?_
    refine wl_val (v_fa TF.f72_0 rfl) rfl ?_
    refine wl_store (v := arr (dgF b' e).1) 0 st rfl TF.t28 rfl rfl (by rw [size_arr, q1]) (one_bs _) (by decide) ?_
    intro w st
    change St _ _ _ _ _ [K.blk b10 (setSeg (prC2 (z32, z32)).toArray 0 (bs (dgF b' e).1)) _, _, _, _] at st
    rw [pr_at q1] at st
    refine wl_val (v_assign' (by conv => (lhs; whnf))) rfl ?_
    refine wl_nil ?_
    refine then_go ?_
    refine wc_seq ?_
    refine wc_region ?_
    refine wl_val (v_move' (by conv => (lhs; whnf))) rfl ?_
    refine wl_val (v_move' (by conv => (lhs; whnf))) rfl ?_
    refine wl_call rfl (c_rdig st.im (st.at (i := 2) rfl) (st.none (i := 2) rfl) hs2 (by omega)) rfl ?_
    rintro v50 w ⟨t50, hE50, v3, rfl, hs3⟩
    have st := st.step 2 rfl t50 hE50
    refine wl_val (v_move' (by conv => (lhs; whnf))) rfl ?_
    refine wl_val (v_extract rfl rfl) rfl ?_
    refine wl_val (v_extract rfl rfl) rfl ?_
    refine wl_val (v_fa TF.f72_1 rfl) rfl ?_
    refine wl_store (v := arr (dgF (dgF b' e).2.1 (dgF b' e).2.2).1) 0 st rfl TF.t28 rfl rfl (by rw [size_arr, q2]) (one_bs _) (by simp [prC2, length_bs, q1]; decide) ?_
    intro w st
    change St _ _ _ _ _ [K.blk b10 (setSeg (prC2 ((dgF b' e).1, z32)).toArray 32 (bs (dgF (dgF b' e).2.1 (dgF b' e).2.2).1)) _, _, _, _] at st
    rw [pr_val q1 q2] at st
    refine wl_val (v_assign' (by conv => (lhs; whnf))) rfl ?_
    refine wl_nil ?_
    refine then_go ?_
    refine wc_seq ?_
    refine wc_seq ?_
    refine wc_region ?_
    refine wl_val (v_fa TF.f72_0 rfl) rfl ?_
    refine wl_val (v_load rfl (st.reads (v := arr (dgF b' e).1) 0 rfl TF.t28 (prC2_a (x := ((dgF b' e).1, _)) q1))) rfl ?_
    refine wl_val (v_load rfl (st.reads (v := arr p) 1 rfl TF.t28 (getV_all (by rw [size_arr]; exact hp)))) rfl ?_
    refine wl_val (v_move' (by conv => (lhs; whnf))) rfl ?_
    refine wl_call rfl (c_pathunder st.im q1 hp) rfl ?_
    rintro v58 w ⟨t58, rfl⟩
    have st := st.pure t58
    refine wl_val (v_not rfl) rfl ?_
    refine wl_nil ?_
    refine then_go ?_
    refine wc_cond rfl (fun h59 => ?_) (fun h59 => ?_)
    ·refine wc_region ?_
     refine wl_val (v_move' (by conv => (lhs; whnf))) rfl ?_
     have hun : ¬ n ≤ common (dgF b' e).1 p := by simpa using h59
     rw [if_neg hun]
     refine wl_call rfl (c_rfail (c := 15) st.im (st.at (i := 2) rfl) (st.none (i := 2) rfl)) rfl ?_
     rintro v61 w ⟨t61, hE61⟩
     have st := st.step 2 rfl t61 hE61
     refine wl_nil ?_
     refine then_go ?_
     refine wc_draw TF.mixed ?_
     have st := st.pure (touch_drew _)
     refine fl_val 0 rfl (fun _ => (v_move' (by conv => (lhs; whnf)))) rfl (by kernel_rfl) ?_
     refine fl_val 1 rfl (fun _ => (v_move' (by conv => (lhs; whnf)))) rfl (by kernel_rfl) ?_
     refine fl_val 2 rfl (fun _ => (v_nil rfl)) rfl (by kernel_rfl) ?_
     refine fl_val 3 rfl (fun _ => (v_fa TF.f84_1 rfl)) rfl (by kernel_rfl) ?_
     refine fl_ld 4 rfl (v_load rfl (by first | exact st.reads 2 rfl TF.t67 rfl | exact st.reads 3 rfl TF.t67 rfl)) (by kernel_rfl) ?_
     refine fl_ld 5 rfl (v_load rfl (st.reads (v := .agg (prC2 ((dgF b' e).1, (dgF (dgF b' e).2.1 (dgF b' e).2.2).1)).toArray) 0 rfl TF.t72 (getV_all (by simp [prC2, length_bs, q1, q2])))) (by kernel_rfl) ?_
     refine fl_eff1 6 [3, 2, 1, 0] [4] (by kernel_rfl) ⟨obl_ld rfl rfl rfl (v_load rfl (st.reads (v := .agg (prC2 ((dgF b' e).1, (dgF (dgF b' e).2.1 (dgF b' e).2.2).1)).toArray) 0 rfl TF.t72 (getV_all (by simp [prC2, length_bs, q1, q2])))), obl_ld rfl rfl rfl (v_load rfl (by first | exact st.reads 2 rfl TF.t67 rfl | exact st.reads 3 rfl TF.t67 rfl)), trivial⟩ rfl ?_
     refine wl_lsOne (prC2 ((dgF b' e).1, (dgF (dgF b' e).2.1 (dgF b' e).2.2).1)) Try.underlying67 TF.t72 TF.z72 (by decide) (by decide) (len_prC2 q1 q2) rfl st rfl ?_
     intro b68 w st
     refine wl_nil ⟨rfl, ?_⟩
     refine fl_eff1 7 [3, 2, 1, 0] [] (by kernel_rfl) ⟨obl_ld rfl rfl rfl (v_load rfl (by first | exact st.reads 2 rfl TF.t67 rfl | exact st.reads 3 rfl TF.t67 rfl)), trivial⟩ rfl ?_
     refine wl_lsApp 3 (c := prC2) (e := ((dgF b' e).1, (dgF (dgF b' e).2.1 (dgF b' e).2.2).1)) st rfl Try.underlying67 TF.t72 TF.z72 rfl (len_prC2 q1 q2) one_prC2 rfl rfl (by omega) (by omega) rfl ?_
     intro lv2 w st hlv2
     refine wl_nil ⟨rfl, ?_⟩
     refine fl_val 8 rfl (fun _ => (v_nil rfl)) rfl (by kernel_rfl) ?_
     refine fl_val 9 rfl (fun _ => (v_fa TF.f84_1 rfl)) rfl (by kernel_rfl) ?_
     refine fl_eff1 10 [8] [] (by kernel_rfl) trivial rfl ?_
     refine wl_store1 2 st rfl TF.t67 rfl rfl hlv2 (lt_ok rfl) ?_
     intro w st
     refine wl_nil ⟨rfl, ?_⟩
     refine fl_nil (by kernel_rfl) trivial ?_
     refine block_go (then_go ?_)
     refine wc_seq ?_
     refine wc_region ?_
     refine wl_val (v_move' (by conv => (lhs; whnf))) rfl ?_
     refine wl_val (v_assign' (by conv => (lhs; whnf))) rfl ?_
     refine wl_nil ?_
     refine then_go ?_
     refine wc_ret ?_
     exact ret1 rfl ⟨rd_outL (x := (_, _)) [_, _] st, hs3⟩
    ·refine wc_skip ?_
     refine then_go ?_
     refine wc_draw TF.mixed ?_
     have st := st.pure (touch_drew _)
     refine fl_val 0 rfl (fun _ => (v_move' (by conv => (lhs; whnf)))) rfl (by kernel_rfl) ?_
     refine fl_val 1 rfl (fun _ => (v_move' (by conv => (lhs; whnf)))) rfl (by kernel_rfl) ?_
     refine fl_val 2 rfl (fun _ => (v_nil rfl)) rfl (by kernel_rfl) ?_
     refine fl_val 3 rfl (fun _ => (v_fa TF.f84_1 rfl)) rfl (by kernel_rfl) ?_
     refine fl_ld 4 rfl (v_load rfl (by first | exact st.reads 2 rfl TF.t67 rfl | exact st.reads 3 rfl TF.t67 rfl)) (by kernel_rfl) ?_
     refine fl_ld 5 rfl (v_load rfl (st.reads (v := .agg (prC2 ((dgF b' e).1, (dgF (dgF b' e).2.1 (dgF b' e).2.2).1)).toArray) 0 rfl TF.t72 (getV_all (by simp [prC2, length_bs, q1, q2])))) (by kernel_rfl) ?_
     refine fl_eff1 6 [3, 2, 1, 0] [4] (by kernel_rfl) ⟨obl_ld rfl rfl rfl (v_load rfl (st.reads (v := .agg (prC2 ((dgF b' e).1, (dgF (dgF b' e).2.1 (dgF b' e).2.2).1)).toArray) 0 rfl TF.t72 (getV_all (by simp [prC2, length_bs, q1, q2])))), obl_ld rfl rfl rfl (v_load rfl (by first | exact st.reads 2 rfl TF.t67 rfl | exact st.reads 3 rfl TF.t67 rfl)), trivial⟩ rfl ?_
     refine wl_lsOne (prC2 ((dgF b' e).1, (dgF (dgF b' e).2.1 (dgF b' e).2.2).1)) Try.underlying67 TF.t72 TF.z72 (by decide) (by decide) (len_prC2 q1 q2) rfl st rfl ?_
     intro b68 w st
     refine wl_nil ⟨rfl, ?_⟩
     refine fl_eff1 7 [3, 2, 1, 0] [] (by kernel_rfl) ⟨obl_ld rfl rfl rfl (v_load rfl (by first | exact st.reads 2 rfl TF.t67 rfl | exact st.reads 3 rfl TF.t67 rfl)), trivial⟩ rfl ?_
     refine wl_lsApp 3 (c := prC2) (e := ((dgF b' e).1, (dgF (dgF b' e).2.1 (dgF b' e).2.2).1)) st rfl Try.underlying67 TF.t72 TF.z72 rfl (len_prC2 q1 q2) one_prC2 rfl rfl (by omega) (by omega) rfl ?_
     intro lv2 w st hlv2
     refine wl_nil ⟨rfl, ?_⟩
     refine fl_val 8 rfl (fun _ => (v_nil rfl)) rfl (by kernel_rfl) ?_
     refine fl_val 9 rfl (fun _ => (v_fa TF.f84_1 rfl)) rfl (by kernel_rfl) ?_
     refine fl_eff1 10 [8] [] (by kernel_rfl) trivial rfl ?_
     refine wl_store1 2 st rfl TF.t67 rfl rfl hlv2 (lt_ok rfl) ?_
     intro w st
     refine wl_nil ⟨rfl, ?_⟩
     refine fl_nil (by kernel_rfl) trivial ?_
     refine block_go (then_go ?_)
     refine wc_seq ?_
     refine wc_region ?_
     refine wl_val (v_move' (by conv => (lhs; whnf))) rfl ?_
     refine wl_val (v_assign' (by conv => (lhs; whnf))) rfl ?_
     refine wl_nil ?_
     refine then_go ?_
     refine wc_ret ?_
     have hun : n ≤ common (dgF b' e).1 p := by simpa using h59
     rw [if_pos hun]
     exact ret1 rfl ⟨rd_outL (x := (_, _)) [_, _] st, hs3⟩
   ·refine wc_seq ?_
    refine wc_region ?_
    refine wl_val (v_eql rfl rfl) rfl ?_
    refine wl_val (v_assign' (by conv => (lhs; whnf))) rfl ?_
    refine wl_nil ?_
    refine then_go ?_
    refine wc_cond rfl (fun h72 => ?_) (fun h72 => ?_)
    ·refine wc_seq ?_
     have hk2 : k0 = 2 := kind_eq (c := 2) (by decide) (by simpa using h72)
     have e2 := rdF_2 (M := pgM MM) (g := g) (b := b') (p := p) (l := l) hok hk2
     rw [e2] at hl ⊢
     have hl1 : (rdF (pgM MM) g b' (setB p n false) (n + 1) l e).2.1.length ≤ 1000000000 := Nat.le_trans rdF_grow hl
     have hr1 := rdF_rest (M := pgM MM) (g := g) (b := b') (p := setB p n false) (n := n + 1) (l := l) (e := e)
     have hnd : ∀ c : By, need (n + 1) c ≤ g := fun c => by
      unfold need at hg ⊢
      split at hg <;> split <;> omega
     refine wc_region ?_
     refine wl_val (v_move' (by conv => (lhs; whnf))) rfl ?_
     refine wl_val (v_move' (by conv => (lhs; whnf))) rfl ?_
     refine wl_val (v_load rfl (st.reads (v := arr p) 0 rfl TF.t28 (getV_all (by rw [size_arr]; exact hp)))) rfl ?_
     refine wl_val (v_move' (by conv => (lhs; whnf))) rfl ?_
     refine wl_call rfl (c_set st.im hp (by omega)) rfl ?_
     rintro v78 w ⟨t78, rfl⟩
     have st := st.pure t78
     refine wl_val (v_move' (by conv => (lhs; whnf))) rfl ?_
     refine wl_val (v_add' (c := ((n + 1 : Nat) : Int)) rfl rfl (by omega) (by omega) (by omega)) rfl ?_
     have st := K.St.joinLast (pre := [_]) (l := rdL rb mb (.slice la l.length lc) l e) st
     refine wl_call rfl (ih st.im hM (st.at (i := 1) rfl) (st.none (i := 1) rfl) hb' hbl' (len_setB.trans hp) (by omega) (hnd _) hl1) rfl ?_
     rintro v81 w ⟨⟨lv1, t81, hE81⟩, hs81⟩
     have st := st.step 1 rfl t81 hE81
     refine wl_val (v_assign' (by conv => (lhs; whnf))) rfl ?_
     refine wl_nil ?_
     refine then_go ?_
     refine wc_region ?_
     refine wl_val (v_move' (by conv => (lhs; whnf))) rfl ?_
     refine wl_val (v_move' (by conv => (lhs; whnf))) rfl ?_
     refine wl_val (v_load rfl (st.reads (v := arr p) 0 rfl TF.t28 (getV_all (by rw [size_arr]; exact hp)))) rfl ?_
     refine wl_val (v_move' (by conv => (lhs; whnf))) rfl ?_
     refine wl_call rfl (c_set st.im hp (by omega)) rfl ?_
     rintro v86 w ⟨t86, rfl⟩
     have st := st.pure t86
     refine wl_val (v_move' (by conv => (lhs; whnf))) rfl ?_
     refine wl_val (v_add' (c := ((n + 1 : Nat) : Int)) rfl rfl (by omega) (by omega) (by omega)) rfl ?_
     refine wl_call rfl (ih st.im hM (st.at (i := 1) rfl) (st.none (i := 1) rfl) hs81 (by omega) (len_setB.trans hp) (by omega) (hnd _) hl) rfl ?_
     rintro v89 w ⟨⟨lv2, t89, hE89⟩, hs89⟩
     have st := st.step 1 rfl t89 hE89
     have st := K.St.splitLast (pre := [_]) (l := rdL rb mb lv2 _ _) st
     refine wl_val (v_assign' (by conv => (lhs; whnf))) rfl ?_
     refine wl_nil ?_
     refine block_go (then_go ?_)
     refine wc_seq ?_
     refine wc_region ?_
     refine wl_val (v_move' (by conv => (lhs; whnf))) rfl ?_
     refine wl_val (v_assign' (by conv => (lhs; whnf))) rfl ?_
     refine wl_nil ?_
     refine then_go ?_
     refine wc_ret ?_
     exact ret1 rfl ⟨rd_outL [_] st, hs89⟩
    ·refine wc_seq ?_
     refine wc_region ?_
     refine wl_val (v_eql rfl rfl) rfl ?_
     refine wl_val (v_assign' (by conv => (lhs; whnf))) rfl ?_
     refine wl_nil ?_
     refine then_go ?_
     refine wc_cond rfl (fun h90 => ?_) (fun h90 => ?_)
     ·refine wc_seq ?_
      have hk3 : k0 = 3 := kind_eq (c := 3) (by decide) (by simpa using h90)
      have e3 := rdF_3 (M := pgM MM) (g := g) (b := b') (p := p) (l := l) hok hk3
      rw [e3] at hl ⊢
      have q1 := dgF_len (b := b') (e := e)
      refine wc_region ?_
      refine wl_alloc TF.z28 st rfl ?_
      intro b11 w st
      refine wl_nil ?_
      refine then_go ?_
      refine wc_seq ?_
      refine wc_region ?_
      refine wl_val (v_move' (by conv => (lhs; whnf))) rfl ?_
      refine wl_val (v_move' (by conv => (lhs; whnf))) rfl ?_
      refine wl_call rfl (c_rdig st.im (st.at (i := 2) rfl) (st.none (i := 2) rfl) hb' hbl') rfl ?_
      rintro v95 w ⟨t95, hE95, v2, rfl, hs2⟩
      have st := st.step 2 rfl t95 hE95
      refine wl_val (v_move' (by conv => (lhs; whnf))) rfl ?_
      refine wl_val (v_extract rfl rfl) rfl ?_
      refine wl_val (v_extract rfl rfl) rfl ?_
      refine wl_storeW 0 st rfl TF.t28 rfl rfl (by rw [List.size_toArray, length_bs]; exact q1) rfl (one_bs _) ?_
      intro w st
      refine wl_val (v_assign' (by conv => (lhs; whnf))) rfl ?_
      refine wl_nil ?_
      refine then_go ?_
      refine wc_region ?_
      refine wl_val (v_move' (by conv => (lhs; whnf))) rfl ?_
      refine wl_val (v_load rfl (st.reads (v := arr (dgF b' e).1) 0 rfl TF.t28 (getV_all (by rw [List.size_toArray, length_bs]; exact q1)))) rfl ?_
      refine wl_val (v_load rfl (st.reads (v := arr p) 1 rfl TF.t28 (getV_all (by rw [size_arr]; exact hp)))) rfl ?_
      refine wl_val (v_move' (by conv => (lhs; whnf))) rfl ?_
      have st := K.St.joinLast (pre := [_, _]) (l := rdL rb mb (.slice la l.length lc) l (dgF b' e).2.2) st
      refine wl_call rfl (c_rpage ih st.im hM (st.at (i := 2) rfl) (st.none (i := 2) rfl) q1 hp hn (by unfold need at hg; rw [hk3] at hg; simp at hg; omega) hl) rfl ?_
      rintro v102 w ⟨lv1, t102, hE102⟩
      have st := st.step 2 rfl t102 hE102
      have st := K.St.splitLast (pre := [_, _]) (l := rdL rb mb lv1 _ _) st
      refine wl_nil ?_
      refine block_go (then_go ?_)
      refine wc_seq ?_
      refine wc_region ?_
      refine wl_val (v_move' (by conv => (lhs; whnf))) rfl ?_
      refine wl_val (v_assign' (by conv => (lhs; whnf))) rfl ?_
      refine wl_nil ?_
      refine then_go ?_
      refine wc_ret ?_
      exact ret1 rfl ⟨rd_outL [_, _] st, hs2⟩
     ·refine wc_region ?_
      refine wl_val (v_move' (by conv => (lhs; whnf))) rfl ?_
      refine wl_call rfl (c_rfail (c := 15) st.im (st.at (i := 1) rfl) (st.none (i := 1) rfl)) rfl ?_
      rintro v35 w ⟨t35, hE35⟩
      have st := st.step 1 rfl t35 hE35
      refine wl_nil ?_
      refine block_go (then_go ?_)
      refine wc_seq ?_
      refine wc_region ?_
      refine wl_val (v_move' (by conv => (lhs; whnf))) rfl ?_
      refine wl_val (v_assign' (by conv => (lhs; whnf))) rfl ?_
      refine wl_nil ?_
      refine then_go ?_
      refine wc_ret ?_
      rw [rdF_x hok (kind_ne (c := 0) (by decide) (by simpa using h36)) (kind_ne (c := 1) (by decide) (by simpa using h38)) (kind_ne (c := 2) (by decide) (by simpa using h72)) (kind_ne (c := 3) (by decide) (by simpa using h90))]
      exact ret1 rfl ⟨rd_outL (x := (l, failE e 15)) [_] st, hb'⟩
theorem c_read {MM : PgMap} : ∀ {g : Nat}, RdC MM g := by
 intro g
 induction g with
 | zero =>
  intro b p n l e rb mb lv bv m w _ _ _ _ _ _ _ _ hg _
  exfalso
  unfold need at hg
  omega
 | succ g ih =>
  intro b p n l e rb mb lv bv m w him hM hE hm hb hbl hp hn hg hl
  exact c_read1 ih him hM hE hm hb hbl hp hn hg hl
end
end Go.Proofs.Ytonlmjpenonabaa

namespace Go.Proofs.Ytonlmjpenonabaa
open Go Go.RowKit K SH PT
def mapOf (N : List (By × Value)) : PgMap := N.foldl (fun M x => insKV (sum x.1) x M) []
theorem mapOf_snoc {N : List (By × Value)} {x : By × Value} : mapOf (N ++ [x]) = insKV (sum x.1) x (mapOf N) := by simp [mapOf]
theorem mapOf_mem : ∀ {N : List (By × Value)} {y : By × (By × Value)}, y ∈ mapOf N → y.1 = sum y.2.1 ∧ y.2 ∈ N := by
 intro N
 induction h : N.length generalizing N with
 | zero => intro y hy; have := List.eq_nil_of_length_eq_zero h; subst this; cases hy
 | succ k ih =>
  intro y hy
  have hne : N ≠ [] := by intro e; subst e; simp at h
  rw [← List.dropLast_concat_getLast hne, mapOf_snoc] at hy
  rcases mem_insKV hy with e | hy
  ·subst e
   exact ⟨rfl, List.getLast_mem hne⟩
  ·have := ih (N := N.dropLast) (by simp [h]) hy
   exact ⟨this.1, (List.dropLast_sublist N).subset this.2⟩
theorem mapOf_keys {N : List (By × Value)} : ∀ x ∈ mapOf N, x.1.length = 32 := fun x hx => by rw [(mapOf_mem hx).1, length_sum]
theorem pgF_d32 {M : By → Option By} {rd : By → By → Nat → List (By × By) → Nat → By × List (By × By) × Nat} {d p : By} {n : Nat} {l : List (By × By)} {e : Nat} (hl : D32p l) (h : ∀ b p n e, D32p (rd b p n l e).2.1) : D32p (pgF M rd d p n l e).1 := by
 unfold pgF
 split
 ·exact hl
 ·split
  ·exact hl
  ·split
   ·exact hl
   ·split <;> exact h _ _ _ _
theorem rdF_d32 {M : By → Option By} : ∀ {g : Nat} {b p : By} {n : Nat} {l : List (By × By)} {e : Nat}, D32p l → D32p (rdF M g b p n l e).2.1
 | 0, _, _, _, _, _, h => h
 | _ + 1, [], _, _, _, _, h => h
 | g + 1, k :: b, p, n, l, e, h => by
  unfold rdF
  split
  ·exact h
  ·split
   ·exact h
   ·split
    ·intro x hx
     rcases List.mem_append.1 hx with hx | hx
     ·exact h x hx
     ·rw [List.mem_singleton.1 hx]
      exact ⟨dgF_len, dgF_len⟩
    ·split
     ·exact rdF_d32 (g := g) (rdF_d32 (g := g) h)
     ·split
      ·exact pgF_d32 h fun _ _ _ _ => rdF_d32 (g := g) h
      ·exact h
def ldF (M : By → Option By) (d : By) : List (By × By) × Nat := pgF M (rdF M 515) d z32 0 [] 0
theorem ldF_d32 {M : By → Option By} {d : By} : D32p (ldF M d).1 := pgF_d32 (by intro x hx; cases hx) fun _ _ _ _ => rdF_d32 (by intro x hx; cases hx)
def LdOut (m : Mem) (v : Value) (M : By → Option By) (d : By) : Prop :=
 if (ldF M d).2 ≠ 0 then v = .tuple #[.pointer none, .int .i64 (ldF M d).2] else
 if sum (pg1 256 0 (ofLv (ldF M d).1)) = d then ∃ p, v = .tuple #[ptrP p, .int .i64 0] ∧ TreeM m p (treeOf (ofLv (ldF M d).1)) else v = .tuple #[.pointer none, .int .i64 15]
theorem ofLv_fine {Z : List (By × By)} (h : D32p Z) : Dst 0 (ofLv Z) ∧ Up (ofLv Z) ∧ D32p (ofLv Z) := ⟨(ofLv_dst fun x hx => (h x hx).1).1, up_ofLv h, ofLv_d32 h⟩
section
variable {m : Mem} {wI : World}
theorem c_load {d : By} {lv : Value} {N : List (By × Value)} (him : Im m wI) (hd : d.length = 32) (hN : PcsM m lv N) (hNl : ∀ x ∈ N, x.1.length ≤ 1000000000) (hNn : N.length ≤ 1000000000) (hl : (ldF (pgM (mapOf N)) d).1.length ≤ 100000) :
  Ret Try.prog 20 #[arr d, lv] wI fun v' w' => Out m wI w' fun m' => LdOut m' v' (pgM (mapOf N)) d := by
 have st := St.start him
 have hXd := ldF_d32 (M := pgM (mapOf N)) (d := d)
 unfold LdOut
 obtain ⟨X, hX⟩ : ∃ X, X = ldF (pgM (mapOf N)) d := ⟨_, rfl⟩
 have hX' : pgF (pgM (mapOf N)) (rdF (pgM (mapOf N)) 515) d z32 0 [] 0 = X := hX.symm
 rw [← hX] at hl hXd
 rw [← hX]
 obtain ⟨na, nc, hlv⟩ : ∃ a c, lv = .slice a N.length c := by obtain ⟨⟨_, a, c, h, _⟩, _⟩ := hN; exact ⟨a, c, h⟩
 subst hlv
 refine ret_of Try.call20 Try.func20 rfl Try.ntmps20 Try.results20 rfl ?_
 refine wc_seq ?_
 refine wc_region ?_
 refine wl_box (v := arr d) rfl st rfl ?_
 intro b2 w st
 refine wl_val (v_assign' (by conv => (lhs; whnf))) rfl ?_
 refine wl_val (v_assign' (by conv => (lhs; whnf))) rfl ?_
 refine wl_nil ?_
 refine then_go ?_
 refine wc_seq ?_
 refine wc_region ?_
 refine wl_makeMap arr (fun x : By × Value => x.2) st rfl ?_
 intro b14 w hb14 st
 refine wl_val (v_build (c' := #[.map (some b14), .slice none 0 0, .int .i64 0]) [(0, .map (some b14))] TF.z84 TF.p84 rfl ⟨0, 1, rfl, rfl, by decide, rfl⟩) rfl ?_
 refine wl_box (v := .agg #[.map (some b14), .slice none 0 0, .int .i64 0]) rfl st rfl ?_
 intro b16 w st
 refine wl_val (v_assign' (by conv => (lhs; whnf))) rfl ?_
 refine wl_nil ?_
 refine then_go ?_
 refine wc_seq ?_
 refine wc_seq ?_
 refine wc_region ?_
 refine wl_val (v_move' (by conv => (lhs; whnf))) rfl ?_
 refine wl_val (v_len_s Try.underlying29 rfl) rfl ?_
 refine wl_val (v_move' (by conv => (lhs; whnf))) rfl ?_
 refine wl_nil ?_
 refine then_go ?_
 refine wc_block ?_
 refine wc_loop (S := Nat) (fun q r w' => ∃ (i : Nat), q + i = N.length ∧ r 2 = .pointer (some ⟨b2, 0, none⟩) ∧ r 6 = .pointer (some ⟨b16, 0, none⟩) ∧ r 17 = .slice na N.length nc ∧ r 18 = .int .i64 N.length ∧ r 19 = .int .i64 i ∧ St m m [] wI w' [rdB b16 b14 (.slice none 0 0) 0, mapE arr (fun x : By × Value => x.2) b14 (mapOf (N.take i)), K.blk b2 (bs d).toArray 28]) id N.length ⟨0, by omega, rfl, rfl, rfl, rfl, rfl, st⟩ ?_
 clear st
 rintro q r w2 ⟨i, hqi, g2, g6, g17, g18, g19, st⟩
 refine wc_o 2 g2 (wc_o 6 g6 (wc_o 17 g17 (wc_o 18 g18 (wc_o 19 g19 ?_))))
 refine wc_seq ?_
 refine wc_region ?_
 refine wl_val (v_lss rfl rfl) rfl ?_
 refine wl_nil ?_
 refine then_go ?_
 refine wc_seq ?_
 refine wc_if rfl (fun h20 => ?_) (fun h20 => ?_)
 ·refine wc_skip ?_
  refine then_go ?_
  refine wc_seq ?_
  refine wc_block ?_
  refine wc_seq ?_
  have hi : i < N.length := by omega
  obtain ⟨nb, no, _, hnv, hs0, hrd⟩ := hN.elem hi
  cases hnv
  have hsl := hNl _ (List.getElem_mem hi)
  refine wc_region ?_
  refine wl_val (v_ias i Try.underlying29 TF.t37 rfl rfl (by first | rfl | omega) (by first | omega | (dsimp only at *; omega))) rfl ?_
  refine wl_val (v_load rfl (hrd st.im)) rfl ?_
  refine wl_val (v_assign' (by conv => (lhs; whnf))) rfl ?_
  refine wl_nil ?_
  refine then_go ?_
  refine wc_draw TF.mixed ?_
  have st := st.pure (touch_drew _)
  refine fl_val 0 rfl (fun _ => (v_move' (by conv => (lhs; whnf)))) rfl (by kernel_rfl) ?_
  refine fl_val 1 rfl (fun _ => (v_nil rfl)) rfl (by kernel_rfl) ?_
  refine fl_val 2 rfl (fun _ => (v_fa TF.f84_0 rfl)) rfl (by kernel_rfl) ?_
  refine fl_ld 3 rfl (v_load rfl (st.reads 0 rfl TF.t82 rfl)) (by kernel_rfl) ?_
  refine fl_val 4 rfl (fun _ => (v_move' (by conv => (lhs; whnf)))) rfl (by kernel_rfl) ?_
  refine fl_val 6 rfl (fun _ => (v_move' (by conv => (lhs; whnf)))) rfl (by kernel_rfl) ?_
  refine fl_eff1 5 [6, 2, 1, 0] [3] (by kernel_rfl) ⟨obl_ld rfl rfl rfl (v_load rfl (st.reads 0 rfl TF.t82 rfl)), trivial⟩ rfl ?_
  refine wl_call rfl (c_tagsof st.im hs0 (by omega)) rfl ?_
  rintro v28 w ⟨t28, rfl⟩
  have st := st.pure t28
  refine wl_nil ⟨rfl, ?_⟩
  refine fl_eff1 7 [] [] (by kernel_rfl) ⟨obl_ld rfl rfl rfl (v_load rfl (st.reads 0 rfl TF.t82 rfl)), trivial⟩ rfl ?_
  refine wl_mapPut (v := N[i]) 1 st rfl dig_keyT Try.underlying82 mapOf_keys (length_sum _) rfl rfl rfl ?_
  intro w st
  refine wl_nil ⟨rfl, ?_⟩
  refine fl_nil (by kernel_rfl) trivial ?_
  refine block_go (then_go ?_)
  refine wc_region ?_
  refine wl_val (v_add' (c := ((i + 1 : Nat) : Int)) rfl rfl (by omega) (by omega) (by omega)) rfl ?_
  refine wl_val (v_move' (by conv => (lhs; whnf))) rfl ?_
  refine wl_nil ?_
  refine then_go ?_
  refine ⟨q - 1, by simp; omega, i + 1, by omega, rfl, rfl, rfl, rfl, rfl, ?_⟩
  rw [List.take_succ_eq_append_getElem hi, mapOf_snoc]
  exact st
 ·refine wc_exit (then_exit (then_exit (block_hit ?_)))
  refine then_go ?_
  refine wc_seq ?_
  have hiN : i = N.length := by omega
  subst hiN
  rw [List.take_length] at st
  obtain ⟨m1, hg1, hmap, st⟩ := st.freezeMap (i := 1) rfl (by simp)
  have hN := hN.mono hg1.le
  have hM : PgOk m1 b14 (mapOf N) := ⟨hmap, mapOf_keys, fun x hx => ⟨hN.2 _ (mapOf_mem hx).2, hNl _ (mapOf_mem hx).2⟩⟩
  have st : St m m1 [] wI w2 [rdB b16 b14 (.slice none 0 0) 0, K.blk b2 (bs d).toArray 28] := st
  have st := nilRow st 72 64
  have st : St m m1 [] wI w2 [rdB b16 b14 (.slice none 0 0) 0, lsE 72 64 prC2 (.slice none 0 0) [], K.blk b2 (bs d).toArray 28] := st.perm (List.Perm.swap _ _ _)
  have st := K.St.join (l := rdL b16 b14 (.slice none 0 0) [] 0) st
  refine wc_region ?_
  refine wl_val (v_move' (by conv => (lhs; whnf))) rfl ?_
  refine wl_val (v_load rfl (st.reads (v := arr d) 1 rfl TF.t28 (getV_all (by rw [List.size_toArray, length_bs]; exact hd)))) rfl ?_
  refine wl_val (v_build_a (c' := (bs z32).toArray) [] TF.z28 Try.underlying28 TF.t5 rfl rfl) rfl ?_
  refine wl_call rfl (c_rpage (g := 515) (n := 0) (p := z32) c_read st.im hM (st.at (i := 0) rfl) (st.none (i := 0) rfl) hd rfl (by omega) (by decide) (by rw [hX']; omega)) rfl ?_
  rintro v34 w ⟨lv1, t34, hE34⟩
  have st := st.step 0 rfl t34 hE34
  rw [hX'] at st
  have st := K.St.split (l := rdL b16 b14 lv1 X.1 X.2) st
  obtain ⟨m2, hg2, hls, st⟩ := st.keepLs (i := 1) rfl (fun x hx => len_prC2 (hXd x hx).1 (hXd x hx).2)
  have st : St m m2 [] wI w [rdB b16 b14 lv1 X.2, K.blk b2 (bs d).toArray 28] := st
  obtain ⟨xa, xc, hxv⟩ := hls.sl
  subst hxv
  refine wl_nil ?_
  refine then_go ?_
  refine wc_seq ?_
  refine wc_seq ?_
  refine wc_region ?_
  refine wl_val (v_move' (by conv => (lhs; whnf))) rfl ?_
  refine wl_val (v_nil rfl) rfl ?_
  refine wl_val (v_fa TF.f84_2 rfl) rfl ?_
  refine wl_val (v_load rfl (st.reads 0 rfl TF.t41 rfl)) rfl ?_
  refine wl_val (v_neq rfl rfl) rfl ?_
  refine wl_nil ?_
  refine then_go ?_
  refine wc_cond rfl (fun h39 => ?_) (fun h39 => ?_)
  ·refine wc_seq ?_
   refine wc_draw TF.mixed ?_
   have st := st.pure (touch_drew _)
   refine fl_val 0 rfl (fun _ => (v_move' (by conv => (lhs; whnf)))) rfl (by kernel_rfl) ?_
   refine fl_val 1 rfl (fun _ => (v_nil rfl)) rfl (by kernel_rfl) ?_
   refine fl_val 2 rfl (fun _ => (v_fa TF.f84_2 rfl)) rfl (by kernel_rfl) ?_
   refine fl_ld 3 rfl (v_load rfl (st.reads 0 rfl TF.t41 rfl)) (by kernel_rfl) ?_
   refine fl_eff1 4 [2, 1, 0] [3] (by kernel_rfl) ⟨obl_ld rfl rfl rfl (v_load rfl (st.reads 0 rfl TF.t41 rfl)), trivial⟩ rfl ?_
   refine wl_val (v_assign' (by conv => (lhs; whnf))) rfl ?_
   refine wl_nil ⟨rfl, ?_⟩
   refine fl_eff1 5 [] [] (by kernel_rfl) ⟨obl_ld rfl rfl rfl (v_load rfl (st.reads 0 rfl TF.t41 rfl)), trivial⟩ rfl ?_
   refine wl_val (v_assign' (by conv => (lhs; whnf))) rfl ?_
   refine wl_nil ⟨rfl, ?_⟩
   refine fl_nil (by kernel_rfl) trivial ?_
   refine then_go ?_
   refine wc_ret (then_ret ?_)
   have hx2 : X.2 ≠ 0 := by simpa using h39
   refine ret2 rfl rfl ((st.keepOnly (l := []) (List.nil_sublist _)).out ?_)
   rw [if_pos hx2]
   rfl
  ·refine wc_skip ?_
   refine then_go ?_
   refine wc_seq ?_
   refine wc_region ?_
   have hx2 : ¬ X.2 ≠ 0 := by simpa using h39
   refine wl_call rfl (c_tempty st.im) rfl ?_
   rintro v44 w ⟨t44, m3, hg3, hi3, p0, rfl, hp0⟩
   have st := st.grown hg3 t44 hi3
   have hls := hls.mono hg3.le
   refine wl_val (v_assign' (by conv => (lhs; whnf))) rfl ?_
   refine wl_nil ?_
   refine then_go ?_
   refine wc_seq ?_
   refine wc_seq ?_
   refine wc_region ?_
   refine wl_val (v_move' (by conv => (lhs; whnf))) rfl ?_
   refine wl_val (v_nil rfl) rfl ?_
   refine wl_val (v_fa TF.f84_1 rfl) rfl ?_
   refine wl_val (v_load rfl (st.reads 0 rfl TF.t67 rfl)) rfl ?_
   refine wl_val (v_len_s Try.underlying67 rfl) rfl ?_
   refine wl_val (v_move' (by conv => (lhs; whnf))) rfl ?_
   refine wl_nil ?_
   refine then_go ?_
   refine wc_block ?_
   refine wc_loop (S := Nat) (fun q r w' => ∃ (i p : Nat) (mm : Mem), q + i = X.1.length ∧ r 2 = .pointer (some ⟨b2, 0, none⟩) ∧ r 9 = ptrP p ∧ r 48 = .slice xa X.1.length xc ∧ r 49 = .int .i64 X.1.length ∧ r 50 = .int .i64 i ∧ LsM mm (.slice xa X.1.length xc) prC2 64 X.1 ∧ TreeM mm p (treeOf (ofLv (X.1.take i))) ∧ St m mm [] wI w' [rdB b16 b14 (.slice xa X.1.length xc) X.2, K.blk b2 (bs d).toArray 28]) id X.1.length ⟨0, p0, m3, by omega, rfl, rfl, rfl, rfl, rfl, hls, by simpa [ofLv, treeOf, canon_nil] using hp0, st⟩ ?_
   clear st hls hp0
   rintro q r w2 ⟨i, p, mm, hqi, g2, g9, g48, g49, g50, hls, hp, st⟩
   refine wc_o 2 g2 (wc_o 9 g9 (wc_o 48 g48 (wc_o 49 g49 (wc_o 50 g50 ?_))))
   refine wc_seq ?_
   refine wc_region ?_
   refine wl_val (v_lss rfl rfl) rfl ?_
   refine wl_nil ?_
   refine then_go ?_
   refine wc_seq ?_
   refine wc_if rfl (fun h51 => ?_) (fun h51 => ?_)
   ·refine wc_skip ?_
    refine then_go ?_
    refine wc_seq ?_
    refine wc_block ?_
    refine wc_seq ?_
    have hi : i < X.1.length := by omega
    obtain ⟨q1, q2⟩ := hXd _ (List.getElem_mem hi)
    obtain ⟨xb, xo, hxa⟩ := hls.ptr (by omega) (by decide)
    subst hxa
    refine wc_region ?_
    refine wl_val (v_ias i Try.underlying67 TF.t72 rfl rfl (by first | rfl | omega) (by first | omega | (dsimp only at *; omega))) rfl ?_
    refine wl_val (v_load rfl (hls.rd0 rfl hi (by decide) TF.t72 (v' := .agg (prC2 X.1[i]).toArray) (getV_all (by rw [List.size_toArray]; exact len_prC2 q1 q2)) st.im)) rfl ?_
    refine wl_alloc TF.z72 st rfl ?_
    intro b11 w st
    refine wl_storeW (cs := (prC2 X.1[i]).toArray) 0 st rfl TF.t72 rfl rfl (by rw [List.size_toArray]; exact len_prC2 q1 q2) rfl one_prC2 ?_
    intro w st
    refine wl_nil ?_
    refine then_go ?_
    refine wc_region ?_
    refine wl_val (v_move' (by conv => (lhs; whnf))) rfl ?_
    refine wl_val (v_fa TF.f72_0 rfl) rfl ?_
    refine wl_val (v_load rfl (st.reads (v := arr X.1[i].1) 0 rfl TF.t28 (prC2_a q1))) rfl ?_
    refine wl_val (v_fa TF.f72_1 rfl) rfl ?_
    refine wl_val (v_load rfl (st.reads (v := arr X.1[i].2) 0 rfl TF.t28 (prC2_v q1 q2))) rfl ?_
    have hfi := ofLv_fine (Z := X.1.take i) fun x hx => hXd x (List.mem_of_mem_take hx)
    have hle := length_ofLv (X.1.take i)
    have hz : (X.1.take i).length ≤ X.1.length := by simp; omega
    refine wl_call rfl (c_tput' st.im hp q1 q2 hfi.1 (by omega)) rfl ?_
    rintro v59 w ⟨t59, m4, hg4, hi4, p4, rfl, hp4⟩
    have st := st.grown hg4 t59 hi4
    have hls := hls.mono hg4.le
    refine wl_val (v_assign' (by conv => (lhs; whnf))) rfl ?_
    refine wl_nil ?_
    refine block_go (then_go ?_)
    refine wc_region ?_
    refine wl_val (v_add' (c := ((i + 1 : Nat) : Int)) rfl rfl (by omega) (by omega) (by omega)) rfl ?_
    refine wl_val (v_move' (by conv => (lhs; whnf))) rfl ?_
    refine wl_nil ?_
    refine then_go ?_
    refine ⟨q - 1, by simp; omega, i + 1, p4, m4, by omega, rfl, rfl, rfl, rfl, rfl, hls, ?_, st.keepOnly (List.sublist_append_right [_] [_, _])⟩
    rw [List.take_succ_eq_append_getElem hi, ofLv_snoc]
    exact hp4
   ·refine wc_exit (then_exit (then_exit (block_hit ?_)))
    refine then_go ?_
    refine wc_seq ?_
    refine wc_seq ?_
    refine wc_region ?_
    refine wl_val (v_move' (by conv => (lhs; whnf))) rfl ?_
    have hiX : i = X.1.length := by omega
    subst hiX
    rw [List.take_length] at hp
    obtain ⟨hfD, hfU, hfd⟩ := ofLv_fine hXd
    have hle := length_ofLv X.1
    refine wl_call rfl (c_save st.im hp hfD hfU hfd (by omega)) rfl ?_
    rintro v63 w ⟨t63, m5, hg5, hi5, sv2, N2, rfl, hN2, hs2⟩
    have st := st.grown hg5 t63 hi5
    have hp := hp.mono hg5.le
    refine wl_val (v_move' (by conv => (lhs; whnf))) rfl ?_
    refine wl_val (v_extract rfl rfl) rfl ?_
    refine wl_val (v_extract rfl rfl) rfl ?_
    refine wl_alloc TF.z28 st rfl ?_
    intro b12 w st
    refine wl_storeW (cs := (bs (sum (pg1 256 0 (ofLv X.1)))).toArray) 0 st rfl TF.t28 rfl rfl (by rw [List.size_toArray, length_bs, length_sum]) rfl (one_bs _) ?_
    intro w st
    refine wl_val (v_assign' (by conv => (lhs; whnf))) rfl ?_
    refine wl_nil ?_
    refine then_go ?_
    refine wc_seq ?_
    refine wc_region ?_
    refine wl_val (v_load rfl (st.reads (v := arr (sum (pg1 256 0 (ofLv X.1)))) 0 rfl TF.t28 (getV_all (by rw [List.size_toArray, length_bs, length_sum])))) rfl ?_
    refine wl_val (v_load rfl (st.reads (v := arr d) 2 rfl TF.t28 (getV_all (by rw [List.size_toArray, length_bs]; exact hd)))) rfl ?_
    refine wl_val (v_ne_arr Try.underlying28 TF.t5 Try.underlying5 TF.e28 rfl rfl (length_sum _) hd) rfl ?_
    refine wl_nil ?_
    refine then_go ?_
    refine wc_cond rfl (fun h68 => ?_) (fun h68 => ?_)
    ·refine wc_seq ?_
     refine wc_region ?_
     refine wl_val (v_assign' (by conv => (lhs; whnf))) rfl ?_
     refine wl_val (v_assign' (by conv => (lhs; whnf))) rfl ?_
     refine wl_nil ?_
     refine then_go ?_
     refine wc_ret (then_ret ?_)
     have hne : ¬ sum (pg1 256 0 (ofLv X.1)) = d := by simpa using h68
     refine ret2 rfl rfl ((st.keepOnly (l := []) (List.nil_sublist _)).out ?_)
     rw [if_neg hx2, if_neg hne]
     rfl
    ·refine wc_skip ?_
     refine then_go ?_
     refine wc_seq ?_
     refine wc_region ?_
     refine wl_val (v_move' (by conv => (lhs; whnf))) rfl ?_
     refine wl_val (v_assign' (by conv => (lhs; whnf))) rfl ?_
     refine wl_val (v_assign' (by conv => (lhs; whnf))) rfl ?_
     refine wl_nil ?_
     refine then_go ?_
     refine wc_ret ?_
     have heq : sum (pg1 256 0 (ofLv X.1)) = d := by simpa using h68
     refine ret2 rfl rfl ((st.keepOnly (l := []) (List.nil_sublist _)).out ?_)
     rw [if_neg hx2, if_pos heq]
     exact ⟨p, rfl, hp⟩
end
end Go.Proofs.Ytonlmjpenonabaa

namespace Go.Proofs.Ytonlmjpenonabaa
open Go Go.RowKit K SH PT
theorem rdF_err {M : By → Option By} {G : Nat} {b p : By} {n : Nat} {l : List (By × By)} {e : Nat} (h : e ≠ 0) : rdF M (G + 1) b p n l e = ([], l, e) := by
 have hf : failE e 15 = e := by rw [failE, if_neg h]
 cases b with
 | nil => rw [rdF_nil, hf]
 | cons k b => rw [rdF_bad (.inl h), hf]
theorem dgF_at {a t : By} {e : Nat} (h : a.length = 32) : dgF (a ++ t) e = (a, t, e) := by
 unfold dgF
 rw [if_neg (by simp; omega), List.take_left' h, List.drop_left' h]
def Pre (p : By) (d : Nat) (L : List (By × By)) : Prop := ∀ x ∈ L, ∀ k, k < d → bit x.1 k = bit p k
theorem Pre.half {p : By} {d : Nat} {L : List (By × By)} (h : Pre p d L) (hp : p.length = 32) (hd : d < 256) (on : Bool) : Pre (setB p d on) (d + 1) (halfL L d on) := by
 intro x hx k hk
 obtain ⟨hx1, hx2⟩ := (mem_half hd).1 hx
 rw [bit_setB hp hd (by omega)]
 split
 ·rename_i e; rw [e]; exact hx2
 ·exact h x hx1 k (by omega)
section
variable {M : By → Option By}
theorem rd_wh : ∀ {g d : Nat} {L : List (By × By)} {p t : By} {l : List (By × By)} {G : Nat}, g + d = 256 → Dst d L → Up L → D32p L → p.length = 32 → Pre p d L → 2 * (257 - d) + 1 ≤ G →
  rdF M G (wh g d L ++ t) p d l 0 = (t, l ++ L, 0)
 | g, d, [], p, t, l, G, hgd, _, _, _, _, _, hG => by
  obtain ⟨G, rfl⟩ : ∃ G', G = G' + 1 := ⟨G - 1, by omega⟩
  rw [wh_nil]
  show rdF M (G + 1) (0 :: t) p d l 0 = _
  rw [rdF_0 (by omega) rfl, List.append_nil]
 | g, d, [x], p, t, l, G, hgd, _, _, hL, hp, hpre, hG => by
  obtain ⟨G, rfl⟩ : ∃ G', G = G' + 1 := ⟨G - 1, by omega⟩
  obtain ⟨h1, h2⟩ := hL x (by simp)
  rw [wh_one]
  show rdF M (G + 1) (1 :: ((x.1 ++ x.2) ++ t)) p d l 0 = _
  rw [rdF_1 (by omega) rfl, List.append_assoc, dgF_at h1]
  show ((dgF (x.2 ++ t) 0).2.1, l ++ [(x.1, (dgF (x.2 ++ t) 0).1)], if d ≤ common x.1 p then (dgF (x.2 ++ t) 0).2.2 else failE (dgF (x.2 ++ t) 0).2.2 15) = _
  rw [dgF_at h2, if_pos (common_ge (fun k hk => hpre x (by simp) k hk) (by omega))]
 | 0, d, x :: y :: L, p, t, l, G, hgd, hD, _, _, _, _, hG => by
  rw [show d = 256 by omega] at hD
  exact hD.two.elim
 | g + 1, d, x :: y :: L, p, t, l, G, hgd, hD, hU, hL, hp, hpre, hG => by
  obtain ⟨G, rfl⟩ : ∃ G', G = G' + 1 := ⟨G - 1, by omega⟩
  rw [wh_more (by simp)]
  show rdF M (G + 1) (2 :: ((wh g (d + 1) (halfL (x :: y :: L) d false) ++ wh g (d + 1) (halfL (x :: y :: L) d true)) ++ t)) p d l 0 = _
  rw [rdF_2 (by omega) rfl, List.append_assoc]
  rw [rd_wh (g := g) (d := d + 1) (by omega) (hD.half (by omega) false) (up_half hU) hL.half (len_setB.trans hp) (hpre.half hp (by omega) false) (by omega)]
  show rdF M G (wh g (d + 1) (halfL (x :: y :: L) d true) ++ t) (setB p d true) (d + 1) (l ++ halfL (x :: y :: L) d false) 0 = _
  rw [rd_wh (g := g) (d := d + 1) (by omega) (hD.half (by omega) true) (up_half hU) hL.half (len_setB.trans hp) (hpre.half hp (by omega) true) (by omega)]
  rw [List.append_assoc, ← up_part hU hD (by omega)]
def FullL (M : By → Option By) (S : List By) : Prop := ∀ p ∈ S, M (sum p) = some p
def HonL (M : By → Option By) (S : List By) : Prop := ∀ p ∈ S, M (sum p) = none ∨ M (sum p) = some p
def PgS (M : By → Option By) (g : Nat) : Prop := ∀ {d : Nat} {L : List (By × By)} {p : By} {l : List (By × By)} {G : Nat}, g + d = 256 → Dst d L → Up L → D32p L → p.length = 32 → Pre p d L → (0 < d → 2 ≤ L.length) → 2 * (257 - d) + 1 ≤ G → HonL M (sv g d L) →
 (FullL M (sv g d L) → pgF M (rdF M G) (sum (pg1 g d L)) p d l 0 = (l ++ L, 0)) ∧
 (¬ FullL M (sv g d L) → (pgF M (rdF M G) (sum (pg1 g d L)) p d l 0).1.length ≤ l.length + L.length ∧ (pgF M (rdF M G) (sum (pg1 g d L)) p d l 0).2 = 7)
theorem rd_side {g d : Nat} {h : List (By × By)} {p t : By} {l : List (By × By)} {G : Nat} (ih : PgS M g) (hgd : g + d = 256) (hD : Dst d h) (hU : Up h) (hL : D32p h) (hp : p.length = 32) (hpre : Pre p d h) (hG : 2 * (257 - d) + 2 ≤ G) (hon : HonL M (restB (sv g d h) h)) :
  (FullL M (restB (sv g d h) h) → rdF M G (sideB (sv g d h) (wh g d h) h ++ t) p d l 0 = (t, l ++ h, 0)) ∧
  (¬ FullL M (restB (sv g d h) h) → (rdF M G (sideB (sv g d h) (wh g d h) h ++ t) p d l 0).2.1.length ≤ l.length + h.length ∧ (rdF M G (sideB (sv g d h) (wh g d h) h ++ t) p d l 0).2.2 = 7) := by
 by_cases h2 : h.length < 2
 ·rw [sideB, if_pos h2, restB, if_pos h2]
  exact ⟨fun _ => rd_wh hgd hD hU hL hp hpre (by omega), fun hn => (hn (by intro q hq; cases hq)).elim⟩
 ·rw [restB, if_neg h2] at hon ⊢
  rw [sideB, if_neg h2]
  obtain ⟨G, rfl⟩ : ∃ G', G = G' + 1 := ⟨G - 1, by omega⟩
  show (_ → rdF M (G + 1) (3 :: (sum (pg1 g d h) ++ t)) p d l 0 = _) ∧ (_ → (rdF M (G + 1) (3 :: (sum (pg1 g d h) ++ t)) p d l 0).2.1.length ≤ _ ∧ (rdF M (G + 1) (3 :: (sum (pg1 g d h) ++ t)) p d l 0).2.2 = 7)
  rw [rdF_3 (by omega) rfl, dgF_at (length_sum _)]
  obtain ⟨i1, i2⟩ := ih (l := l) (G := G) hgd hD hU hL hp hpre (fun _ => by omega) (by omega) hon
  exact ⟨fun hf => by rw [i1 hf], fun hn => i2 hn⟩
theorem headD_wh {g d : Nat} {L : List (By × By)} : (wh g d L).headD 0 ≠ 3 := by
 match g, L with
 | g, [] => rw [wh_nil]; decide
 | g, [x] => rw [wh_one]; exact (by decide : (1 : UInt8) ≠ 3)
 | 0, x :: y :: l => exact (by decide : (2 : UInt8) ≠ 3)
 | g + 1, x :: y :: l => rw [wh_more (by simp)]; exact (by decide : (2 : UInt8) ≠ 3)
theorem pg_all {b p : By} {n : Nat} {l L : List (By × By)} {rd : By → By → Nat → List (By × By) → Nat → By × List (By × By) × Nat} {d : By} (hM : M d = some b) (hb : b.headD 0 ≠ 3) (h2 : 0 < n → 2 ≤ L.length) (h : rd b p n l 0 = ([], l ++ L, 0)) : pgF M rd d p n l 0 = (l ++ L, 0) := by
 rw [pgF_ok rfl hM (fun hh => hb hh.2), h]
 rw [h]
 simp
 omega
theorem pg_not {b p : By} {n k : Nat} {l : List (By × By)} {rd : By → By → Nat → List (By × By) → Nat → By × List (By × By) × Nat} {d : By} (hM : M d = some b) (hb : b.headD 0 ≠ 3) (h1 : (rd b p n l 0).2.1.length ≤ k) (h : (rd b p n l 0).2.2 = 7) : (pgF M rd d p n l 0).1.length ≤ k ∧ (pgF M rd d p n l 0).2 = 7 := by
 by_cases hq : 0 < (rd b p n l 0).1.length ∨ (0 < n ∧ (rd b p n l 0).2.1.length < l.length + 2)
 ·rw [pgF_bad rfl hM (fun hh => hb hh.2) hq, h]
  exact ⟨h1, rfl⟩
 ·rw [pgF_ok rfl hM (fun hh => hb hh.2) hq]
  exact ⟨h1, h⟩
theorem pg_small {g d : Nat} {L : List (By × By)} {p : By} {l : List (By × By)} {G : Nat} (hs : (wh g d L).length ≤ 512) (hgd : g + d = 256) (hD : Dst d L) (hU : Up L) (hL : D32p L) (hp : p.length = 32) (hpre : Pre p d L) (h2 : 0 < d → 2 ≤ L.length) (hG : 2 * (257 - d) + 1 ≤ G) (hon : HonL M (sv g d L)) :
 (FullL M (sv g d L) → pgF M (rdF M G) (sum (pg1 g d L)) p d l 0 = (l ++ L, 0)) ∧
 (¬ FullL M (sv g d L) → (pgF M (rdF M G) (sum (pg1 g d L)) p d l 0).1.length ≤ l.length + L.length ∧ (pgF M (rdF M G) (sum (pg1 g d L)) p d l 0).2 = 7) := by
 have e : pg1 g d L = wh g d L := by unfold pg1; rw [sv_small hs]; rfl
 rw [e]
 rw [sv_small hs] at hon ⊢
 refine ⟨fun hf => ?_, fun hn => ?_⟩
 ·have hM := hf _ (List.mem_singleton.2 rfl)
  have hr := rd_wh (M := M) (t := []) (l := l) hgd hD hU hL hp hpre hG
  rw [List.append_nil] at hr
  exact pg_all hM headD_wh h2 hr
 ·have hM : M (sum (wh g d L)) = none := (hon _ (List.mem_singleton.2 rfl)).resolve_right fun h => hn fun q hq => by rw [List.mem_singleton.1 hq]; exact h
  rw [pgF_none rfl hM]
  exact ⟨by simp, rfl⟩
theorem pg_back : ∀ {g : Nat}, PgS M g := by
 intro g
 induction g with
 | zero =>
  intro d L p l G hgd hD hU hL hp hpre h2 hG hon
  refine pg_small ?_ hgd hD hU hL hp hpre h2 hG hon
  match L, hD with
  | [], _ => rw [wh_nil]; decide
  | [x], _ => exact Nat.le_trans (wh_lt2 (by simp) hL) (by decide)
  | x :: y :: l, hD => rw [show d = 256 by omega] at hD; exact hD.two.elim
 | succ g ih =>
  intro d L p l G hgd hD hU hL hp hpre h2 hG hon
  by_cases hs : (wh (g + 1) d L).length ≤ 512
  ·exact pg_small hs hgd hD hU hL hp hpre h2 hG hon
  ·have hsv := sv_big hs
   obtain ⟨h0, e0⟩ : ∃ h0, h0 = halfL L d false := ⟨_, rfl⟩
   obtain ⟨h1, e1⟩ : ∃ h1, h1 = halfL L d true := ⟨_, rfl⟩
   have hpg : pg1 (g + 1) d L = 2 :: (sideB (sv g (d + 1) h0) (wh g (d + 1) h0) h0 ++ sideB (sv g (d + 1) h1) (wh g (d + 1) h1) h1) := by unfold pg1; rw [hsv, e0, e1]; rfl
   rw [← e0, ← e1] at hsv
   have hLs : L = h0 ++ h1 := by rw [e0, e1]; exact up_part hU hD (by omega)
   have hD0 : Dst (d + 1) h0 := e0 ▸ hD.half (by omega) false
   have hD1 : Dst (d + 1) h1 := e1 ▸ hD.half (by omega) true
   have hU0 : Up h0 := e0 ▸ up_half hU
   have hU1 : Up h1 := e1 ▸ up_half hU
   have hL0 : D32p h0 := e0 ▸ hL.half
   have hL1 : D32p h1 := e1 ▸ hL.half
   have hP0 : Pre (setB p d false) (d + 1) h0 := e0 ▸ hpre.half hp (by omega) false
   have hP1 : Pre (setB p d true) (d + 1) h1 := e1 ▸ hpre.half hp (by omega) true
   have hh : (pg1 (g + 1) d L).headD 0 ≠ 3 := by rw [hpg]; exact (by decide : (2 : UInt8) ≠ 3)
   have hm1 : pg1 (g + 1) d L ∈ sv (g + 1) d L := by rw [sv_eq]; exact List.mem_cons_self
   have hon0 : HonL M (restB (sv g (d + 1) h0) h0) := fun q hq => hon q (by rw [hsv]; exact List.mem_cons_of_mem _ (List.mem_append_left _ hq))
   have hon1 : HonL M (restB (sv g (d + 1) h1) h1) := fun q hq => hon q (by rw [hsv]; exact List.mem_cons_of_mem _ (List.mem_append_right _ hq))
   have hfull : FullL M (sv (g + 1) d L) ↔ M (sum (pg1 (g + 1) d L)) = some (pg1 (g + 1) d L) ∧ FullL M (restB (sv g (d + 1) h0) h0) ∧ FullL M (restB (sv g (d + 1) h1) h1) := by
    rw [hsv, hpg]
    unfold FullL
    simp only [List.mem_cons, List.mem_append]
    refine ⟨fun h => ⟨h _ (.inl rfl), fun q hq => h q (.inr (.inl hq)), fun q hq => h q (.inr (.inr hq))⟩, fun h q hq => ?_⟩
    rcases hq with rfl | hq | hq
    ·exact h.1
    ·exact h.2.1 q hq
    ·exact h.2.2 q hq
   rcases hon _ hm1 with hM | hM
   ·refine ⟨fun hf => absurd ((hfull.1 hf).1.symm.trans hM) (by simp), fun _ => ?_⟩
    rw [pgF_none rfl hM]
    exact ⟨by simp, rfl⟩
   ·obtain ⟨G, rfl⟩ : ∃ G', G = G' + 1 := ⟨G - 1, by omega⟩
    obtain ⟨G, rfl⟩ : ∃ G', G = G' + 1 := ⟨G - 1, by omega⟩
    obtain ⟨a1, a2⟩ := rd_side (M := M) (l := l) (t := sideB (sv g (d + 1) h1) (wh g (d + 1) h1) h1) (G := G + 1) ih (by omega) hD0 hU0 hL0 (len_setB.trans hp) hP0 (by omega) hon0
    have hr : rdF M (G + 1 + 1) (pg1 (g + 1) d L) p d l 0 = rdF M (G + 1) (rdF M (G + 1) (sideB (sv g (d + 1) h0) (wh g (d + 1) h0) h0 ++ sideB (sv g (d + 1) h1) (wh g (d + 1) h1) h1) (setB p d false) (d + 1) l 0).1 (setB p d true) (d + 1) (rdF M (G + 1) (sideB (sv g (d + 1) h0) (wh g (d + 1) h0) h0 ++ sideB (sv g (d + 1) h1) (wh g (d + 1) h1) h1) (setB p d false) (d + 1) l 0).2.1 (rdF M (G + 1) (sideB (sv g (d + 1) h0) (wh g (d + 1) h0) h0 ++ sideB (sv g (d + 1) h1) (wh g (d + 1) h1) h1) (setB p d false) (d + 1) l 0).2.2 := by
     rw [hpg]
     exact rdF_2 (by omega) rfl
    have hlen : L.length = h0.length + h1.length := by rw [hLs, List.length_append]
    by_cases f0 : FullL M (restB (sv g (d + 1) h0) h0)
    ·rw [a1 f0] at hr
     obtain ⟨b1, b2⟩ := rd_side (M := M) (l := l ++ h0) (t := []) (G := G + 1) ih (by omega) hD1 hU1 hL1 (len_setB.trans hp) hP1 (by omega) hon1
     rw [List.append_nil] at b1 b2
     by_cases f1 : FullL M (restB (sv g (d + 1) h1) h1)
     ·refine ⟨fun _ => ?_, fun hn => (hn (hfull.2 ⟨hM, f0, f1⟩)).elim⟩
      refine pg_all hM hh h2 (hr.trans ?_)
      rw [hLs, ← List.append_assoc]
      exact b1 f1
     ·refine ⟨fun hf => (f1 (hfull.1 hf).2.2).elim, fun _ => pg_not hM hh ?_ ?_⟩
      ·rw [hr]
       have := (b2 f1).1
       rw [List.length_append] at this
       show (rdF M (G + 1) (sideB (sv g (d + 1) h1) (wh g (d + 1) h1) h1) (setB p d true) (d + 1) (l ++ h0) 0).2.1.length ≤ _
       omega
      ·rw [hr]; exact (b2 f1).2
    ·obtain ⟨c1, c2⟩ := a2 f0
     rw [c2, rdF_err (e := 7) (by decide)] at hr
     refine ⟨fun hf => (f0 (hfull.1 hf).2.1).elim, fun _ => pg_not hM hh ?_ ?_⟩
     ·rw [hr]
      show (rdF M (G + 1) (sideB (sv g (d + 1) h0) (wh g (d + 1) h0) h0 ++ sideB (sv g (d + 1) h1) (wh g (d + 1) h1) h1) (setB p d false) (d + 1) l 0).2.1.length ≤ _
      omega
     ·rw [hr]
theorem ld_back {L : List (By × By)} (hD : Dst 0 L) (hU : Up L) (hL : D32p L) (hon : HonL M (sv 256 0 L)) :
  (FullL M (sv 256 0 L) → ldF M (sum (pg1 256 0 L)) = (L, 0)) ∧ (¬ FullL M (sv 256 0 L) → (ldF M (sum (pg1 256 0 L))).1.length ≤ L.length ∧ (ldF M (sum (pg1 256 0 L))).2 = 7) := by
 have h := pg_back (M := M) (g := 256) (d := 0) (L := L) (p := z32) (l := []) (G := 515) rfl hD hU hL rfl (fun _ _ k hk => by omega) (fun h => by omega) (by decide) hon
 simpa [ldF] using h
end
end Go.Proofs.Ytonlmjpenonabaa

namespace Go.Proofs.Ytonlmjpenonabaa
open Go Go.RowKit K SH PT
theorem ofLv_self {L : List (By × By)} (hD : Dst 0 L) (hU : Up L) (hL : D32p L) : ofLv L = L := by
 induction h : L.length generalizing L with
 | zero => have := List.eq_nil_of_length_eq_zero h; subst this; rfl
 | succ k ih =>
  have hne : L ≠ [] := by intro e; subst e; simp at h
  obtain ⟨x, hx⟩ : ∃ x, x = L.getLast hne := ⟨_, rfl⟩
  have hLx : L = L.dropLast ++ [x] := by rw [hx]; exact (List.dropLast_concat_getLast hne).symm
  have hD' : Dst 0 L.dropLast := ⟨hD.nodup.sublist (List.Sublist.map _ (List.dropLast_sublist L)), fun y hy => hD.len y ((List.dropLast_sublist L).subset hy), fun y _ z _ k hk => by omega⟩
  have hU' : Up L.dropLast := List.Pairwise.sublist (List.dropLast_sublist L) hU
  have hL' : D32p L.dropLast := fun y hy => hL y ((List.dropLast_sublist L).subset hy)
  have ih' := ih hD' hU' hL' (by simp [h])
  refine up_eq (up_ofLv hL) hU ?_
  rw [hLx, ofLv_snoc]
  rw [ih']
  refine (putL_perm x.1 x.2 L.dropLast).trans ?_
  have hf : L.dropLast.filter (fun y => decide (y.1 ≠ x.1)) = L.dropLast := List.filter_eq_self.2 fun y hy => by
   have hn := hD.nodup
   rw [hLx, List.map_append, List.nodup_append] at hn
   have := hn.2.2 y.1 (List.mem_map.2 ⟨y, hy, rfl⟩) x.1 (by simp)
   simpa using this
  rw [hf]
  exact (List.perm_append_comm (l₁ := [x]) (l₂ := L.dropLast))
section
variable {m : Mem} {wI : World}
theorem c_few17 {a : Option Addr} {k c : Nat} (him : Im m wI) :
  Ret Try.prog 12 #[.slice a k c] wI fun v w' => Tch wI w' [] [] ∧ v = .bool (decide ((k : Int) ≤ 40)) := by
 refine ret_of Try.call12 Try.func12 rfl Try.ntmps12 Try.results12 rfl ?_
 refine wc_seq ?_
 refine wc_region ?_
 refine wl_val (v_assign' (by conv => (lhs; whnf))) rfl ?_
 refine wl_nil ?_
 refine then_go ?_
 refine wc_seq ?_
 refine wc_region ?_
 refine wl_val (v_move' (by conv => (lhs; whnf))) rfl ?_
 refine wl_val (v_len_s Try.underlying22 rfl) rfl ?_
 refine wl_val (v_leq rfl rfl) rfl ?_
 refine wl_val (v_assign' (by conv => (lhs; whnf))) rfl ?_
 refine wl_nil ?_
 refine then_go ?_
 refine wc_ret ?_
 exact ret1 rfl ⟨Tch.refl _ _, rfl⟩
end
end Go.Proofs.Ytonlmjpenonabaa

namespace Go.Proofs.Ytonlmjpenonabaa
open Go Go.RowKit K SH PT
def rdX (M : By → Option By) : Nat → By → By × List (By × By) × Nat
 | 0, _ => ([], [], 0)
 | _ + 1, [] => ([], [], 0)
 | g + 1, k :: b =>
  if k = 1 then (b.drop 64, [(b.take 32, (b.drop 32).take 32)], 1) else
  if k = 2 then ((rdX M g (rdX M g b).1).1, (rdX M g b).2.1 ++ (rdX M g (rdX M g b).1).2.1, (rdX M g b).2.2 + (rdX M g (rdX M g b).1).2.2 + 1) else
  if k = 3 then (b.drop 32, (rdX M g ((M (b.take 32)).getD [])).2.1, (rdX M g ((M (b.take 32)).getD [])).2.2 + 1) else
  (b, [], 1)
section
variable {M : By → Option By}
def Below (M : By → Option By) (h : List (By × By)) (s : Nat) (Q : By) : Prop := (rdX M 515 Q).2.2 < s ∧ (∀ x ∈ (rdX M 515 Q).2.1, x ∈ h) ∧ (rdX M 515 Q).2.1 ≠ []
end
def NoClash (S : List By) : Prop := ∀ p ∈ S, ∀ q ∈ S, sum p = sum q → p = q
theorem pgM_mem {N : List (By × Value)} {d p : By} (h : pgM (mapOf N) d = some p) : p ∈ N.map (·.1) ∧ sum p = d := by
 unfold pgM at h
 cases hg : getKV d (mapOf N) with
 | none => rw [hg] at h; cases h
 | some x =>
  rw [hg] at h
  obtain ⟨h1, h2⟩ := mapOf_mem (getKV_mem hg)
  simp only [Option.map_some, Option.some.injEq] at h
  subst h
  exact ⟨List.mem_map.2 ⟨_, h2, rfl⟩, h1.symm⟩
theorem getKV_hit {N : List (By × Value)} {d : By} (h : ∃ x ∈ N, sum x.1 = d) : (getKV d (mapOf N)).isSome = true := by
 induction hk : N.length generalizing N with
 | zero => have := List.eq_nil_of_length_eq_zero hk; subst this; obtain ⟨x, hx, _⟩ := h; cases hx
 | succ k ih =>
  have hne : N ≠ [] := by intro e; subst e; simp at hk
  obtain ⟨x, hx⟩ : ∃ x, x = N.getLast hne := ⟨_, rfl⟩
  have hN : N = N.dropLast ++ [x] := by rw [hx]; exact (List.dropLast_concat_getLast hne).symm
  rw [hN, mapOf_snoc, getKV_ins]
  split
  ·rfl
  ·rename_i hd
   obtain ⟨y, hy, hs⟩ := h
   rw [hN] at hy
   rcases List.mem_append.1 hy with hy | hy
   ·exact ih ⟨y, hy, hs⟩ (by simp [hk])
   ·rw [List.mem_singleton.1 hy] at hs
    exact (hd hs.symm).elim
theorem full_map {S : List By} {N : List (By × Value)} (h : NoClash (N.map (·.1))) (hS : ∀ p ∈ S, p ∈ N.map (·.1)) : FullL (pgM (mapOf N)) S := fun p hp => by
 have hm := hS p hp
 obtain ⟨x, hx, hxp⟩ := List.mem_map.1 hm
 have hh := getKV_hit (N := N) (d := sum p) ⟨x, hx, by rw [hxp]⟩
 cases hg : pgM (mapOf N) (sum p) with
 | none => unfold pgM at hg; cases hq : getKV (sum p) (mapOf N) with
  | none => rw [hq] at hh; cases hh
  | some y => rw [hq] at hg; cases hg
 | some q =>
  obtain ⟨h1, h2⟩ := pgM_mem hg
  rw [h q h1 p hm h2]
end Go.Proofs.Ytonlmjpenonabaa

namespace Go.Proofs.Ytonlmjpenonabaa
open Go Go.RowKit K SH PT
def dg1 (x : UInt8) : By := x :: List.replicate 31 0
def L2 : List (By × By) := [(dg1 1, dg1 7), (dg1 2, dg1 8)]
theorem L2_d32 : D32p L2 := by intro x hx; simp [L2] at hx; rcases hx with rfl | rfl <;> exact ⟨rfl, rfl⟩
theorem L2_of : ofLv L2 = L2 := by decide +kernel
theorem L2_fine : Dst 0 L2 ∧ Up L2 ∧ D32p L2 := by have := ofLv_fine L2_d32; rwa [L2_of] at this
theorem L2_wh : (wh 256 0 L2).length ≤ 512 := by decide +kernel
theorem L2_ne : sum (wh 256 0 L2) ≠ z32 := by decide +kernel
theorem L2_head : ∃ b, wh 256 0 L2 = 2 :: b := ⟨_, wh_more (by decide)⟩
theorem two_ofN {N : List (By × Value)} (h : N.map (·.1) = sv 256 0 L2) : ∃ v, N = [(wh 256 0 L2, v)] := by
 rw [sv_small L2_wh] at h
 cases N with
 | nil => cases h
 | cons x r =>
  rw [List.map_cons, List.cons.injEq, List.map_eq_nil_iff] at h
  exact ⟨x.2, by rw [h.2, ← h.1]⟩
theorem one_map {b : By} {v : Value} {d : By} : pgM (mapOf [(b, v)]) d = if sum b = d then some b else none := by
 simp only [mapOf, List.foldl_cons, List.foldl_nil, insKV, pgM, getKV]
 split <;> rfl
theorem one_ld {b : By} {v : Value} {L : List (By × By)} (hs : sv 256 0 L = [b]) (hD : Dst 0 L) (hU : Up L) (hL : D32p L) : ldF (pgM (mapOf [(b, v)])) (sum b) = (L, 0) := by
 have hM : pgM (mapOf [(b, v)]) (sum b) = some b := by rw [one_map, if_pos rfl]
 have h := (ld_back (M := pgM (mapOf [(b, v)])) hD hU hL (fun q hq => .inr (by rw [hs] at hq; rw [List.mem_singleton.1 hq]; exact hM))).1 (fun q hq => by rw [hs] at hq; rw [List.mem_singleton.1 hq]; exact hM)
 have e : pg1 256 0 L = b := by unfold pg1; rw [hs]; rfl
 rwa [e] at h
theorem one_no {b : By} {v : Value} {d : By} (h : sum b ≠ d) : ldF (pgM (mapOf [(b, v)])) d = ([], 7) := by
 unfold ldF
 rw [pgF_none rfl (by rw [one_map, if_neg h])]
 rfl
section
variable {m : Mem} {wI : World}
theorem c_works17 (him : Im m wI) : Ret Try.prog 13 #[] wI fun v w' => Tch wI w' [] [] ∧ v = .bool true := by
 have st := St.start him
 refine ret_of Try.call13 Try.func13 rfl Try.ntmps13 Try.results13 rfl ?_
 refine wc_seq ?_
 refine wc_region ?_
 refine wl_val (v_assign' (by conv => (lhs; whnf))) rfl ?_
 refine wl_nil ?_
 refine then_go ?_
 refine wc_seq ?_
 refine wc_region ?_
 refine wl_val (v_build_a (c' := (bs (dg1 1)).toArray) [(0, .int .u8 1)] TF.z28 Try.underlying28 TF.t5 rfl ⟨0, 1, rfl, rfl, by decide, rfl⟩) rfl ?_
 refine wl_val (v_build_a (c' := (bs (dg1 2)).toArray) [(0, .int .u8 2)] TF.z28 Try.underlying28 TF.t5 rfl ⟨0, 1, rfl, rfl, by decide, rfl⟩) rfl ?_
 refine wl_lsTwo (bs (dg1 1)) (bs (dg1 2)) Try.underlying22 TF.t28 TF.z28 (by decide) (by decide) rfl rfl rfl rfl st rfl ?_
 intro b10 w st
 have st : St m m [] wI w [digE (.slice (some ⟨b10, 0, none⟩) 2 2) [dg1 1, dg1 2]] := st.rowShut 0 (b := b10) (k := 2) (cap := 2) (size := 32) (xs := digs [dg1 1, dg1 2]) rfl (by decide) rfl (by decide) rfl
 obtain ⟨m1, hg1, hd1, st⟩ := st.keepDig (i := 0) rfl (by intro x hx; simp at hx; rcases hx with rfl | rfl <;> rfl)
 refine wl_val (v_build_a (c' := (bs (dg1 7)).toArray) [(0, .int .u8 7)] TF.z28 Try.underlying28 TF.t5 rfl ⟨0, 1, rfl, rfl, by decide, rfl⟩) rfl ?_
 refine wl_val (v_build_a (c' := (bs (dg1 8)).toArray) [(0, .int .u8 8)] TF.z28 Try.underlying28 TF.t5 rfl ⟨0, 1, rfl, rfl, by decide, rfl⟩) rfl ?_
 refine wl_lsTwo (bs (dg1 7)) (bs (dg1 8)) Try.underlying22 TF.t28 TF.z28 (by decide) (by decide) rfl rfl rfl rfl st rfl ?_
 intro b13 w st
 have st : St m m1 [] wI w [digE (.slice (some ⟨b13, 0, none⟩) 2 2) [dg1 7, dg1 8]] := st.rowShut 0 (b := b13) (k := 2) (cap := 2) (size := 32) (xs := digs [dg1 7, dg1 8]) rfl (by decide) rfl (by decide) rfl
 obtain ⟨m2, hg2, hd2, st⟩ := st.keepDig (i := 0) rfl (by intro x hx; simp at hx; rcases hx with rfl | rfl <;> rfl)
 have hd1 := hd1.mono hg2.le
 refine wl_call rfl (c_tof' st.im hd1 hd2 (by decide)) rfl ?_
 rintro v14 w ⟨t14, m3, hg3, hi3, p, rfl, hp⟩
 have st := st.grown hg3 t14 hi3
 have hp : TreeM m3 p (treeOf L2) := by
  have e : ofLv (([dg1 1, dg1 2] : List By).zip [dg1 7, dg1 8]) = L2 := L2_of
  rw [e] at hp
  exact hp
 refine wl_val (v_assign' (by conv => (lhs; whnf))) rfl ?_
 refine wl_nil ?_
 refine then_go ?_
 refine wc_seq ?_
 refine wc_seq ?_
 refine wc_region ?_
 refine wl_val (v_move' (by conv => (lhs; whnf))) rfl ?_
 refine wl_val (v_eq_nil Try.underlying25 rfl rfl) rfl ?_
 refine wl_nil ?_
 refine then_go ?_
 refine wc_false rfl ?_
 refine wc_skip ?_
 refine then_go ?_
 refine wc_seq ?_
 refine wc_region ?_
 refine wl_val (v_move' (by conv => (lhs; whnf))) rfl ?_
 refine wl_call rfl (c_save st.im hp L2_fine.1 L2_fine.2.1 L2_d32 (by decide)) rfl ?_
 rintro v19 w ⟨t19, m4, hg4, hi4, sv2, N, rfl, hN, hs2⟩
 have st := st.grown hg4 t19 hi4
 have hp := hp.mono hg4.le
 obtain ⟨pv, rfl⟩ := two_ofN hs2
 have e1 : pg1 256 0 L2 = wh 256 0 L2 := by unfold pg1; rw [sv_small L2_wh]; rfl
 have hW1 : sum (wh 256 0 L2) ≠ z32 := L2_ne
 have hW2 : sv 256 0 L2 = [wh 256 0 L2] := sv_small L2_wh
 have hW3 := L2_wh
 have hW4 := L2_head
 rw [e1]
 generalize wh 256 0 L2 = W at *
 obtain ⟨pb, po, _, hpv, hs0, hrp⟩ := hN.elem (i := 0) (by simp)
 obtain ⟨DW, hDW⟩ : ∃ DW, DW = sum W := ⟨_, rfl⟩
 have hDl : DW.length = 32 := by rw [hDW]; exact length_sum _
 rw [← hDW] at hW1 ⊢
 have hW5 : 0 < W.length := by obtain ⟨b, hb⟩ := hW4; rw [hb]; simp
 have hW6 : ((W[0].toNat : Nat) : Int) = 2 := by
  obtain ⟨b, hb⟩ := hW4
  have : W[0]? = some 2 := by rw [hb]; rfl
  rw [List.getElem?_eq_getElem hW5] at this
  rw [Option.some.inj this]; rfl
 obtain ⟨qb, qo, qc, hqv, _⟩ := SlM.ptr1 hs0 hW5 (by decide)
 cases hpv
 have hqv : pv = .slice (some ⟨qb, qo, none⟩) W.length qc := hqv
 subst hqv
 refine wl_val (v_move' (by conv => (lhs; whnf))) rfl ?_
 refine wl_val (v_extract rfl rfl) rfl ?_
 refine wl_val (v_extract rfl rfl) rfl ?_
 refine wl_alloc TF.z28 st rfl ?_
 intro b2 w st
 refine wl_storeW (cs := (bs (DW)).toArray) 0 st rfl TF.t28 rfl rfl (by rw [List.size_toArray, length_bs, hDl]) rfl (one_bs _) ?_
 intro w st
 refine wl_val (v_assign' (by conv => (lhs; whnf))) rfl ?_
 refine wl_nil ?_
 refine then_go ?_
 refine wc_seq ?_
 refine wc_region ?_
 refine wl_val (v_load rfl (st.reads (v := arr (DW)) 0 rfl TF.t28 (getV_all (by rw [List.size_toArray, length_bs, hDl])))) rfl ?_
 refine wl_val (v_move' (by conv => (lhs; whnf))) rfl ?_
 have hNl : ∀ x ∈ [((W : By), Value.slice (some ⟨qb, qo, none⟩) W.length qc)], x.1.length ≤ 1000000000 := fun x hx => by rw [List.mem_singleton.1 hx]; exact Nat.le_trans hW3 (by decide)
 refine wl_call rfl (c_load st.im (hDl) hN hNl (by simp) (by rw [hDW, one_ld hW2 L2_fine.1 L2_fine.2.1 L2_d32]; decide)) rfl ?_
 rintro v25 w ⟨t25, m5, hg5, hi5, hv25⟩
 have st := st.grown hg5 t25 hi5
 unfold LdOut at hv25
 rw [hDW, one_ld hW2 L2_fine.1 L2_fine.2.1 L2_d32, if_neg (by decide), L2_of, e1, if_pos rfl] at hv25
 obtain ⟨p2, rfl, hp2⟩ := hv25
 have hN := hN.mono hg5.le
 have hp := hp.mono hg5.le
 refine wl_val (v_move' (by conv => (lhs; whnf))) rfl ?_
 refine wl_val (v_extract rfl rfl) rfl ?_
 refine wl_val (v_extract rfl rfl) rfl ?_
 refine wl_val (v_assign' (by conv => (lhs; whnf))) rfl ?_
 refine wl_val (v_assign' (by conv => (lhs; whnf))) rfl ?_
 refine wl_nil ?_
 refine then_go ?_
 refine wc_seq ?_
 refine wc_region ?_
 refine wl_val (v_build_a (c' := (bs z32).toArray) [] TF.z28 Try.underlying28 TF.t5 rfl rfl) rfl ?_
 refine wl_val (v_move' (by conv => (lhs; whnf))) rfl ?_
 refine wl_call rfl (c_load (d := z32) st.im rfl hN hNl (by simp) (by rw [one_no (hDW ▸ hW1)]; decide)) rfl ?_
 rintro v31 w ⟨t31, m6, hg6, hi6, hv31⟩
 have st := st.grown hg6 t31 hi6
 unfold LdOut at hv31
 rw [one_no (hDW ▸ hW1), if_pos (by decide)] at hv31
 subst hv31
 have hN := hN.mono hg6.le
 have hp := hp.mono hg6.le
 have hp2 := hp2.mono hg6.le
 obtain ⟨_, _, _, hpv2, hs0, hrp⟩ := hN.elem (i := 0) (by simp)
 cases hpv2
 refine wl_val (v_move' (by conv => (lhs; whnf))) rfl ?_
 refine wl_val (v_extract rfl rfl) rfl ?_
 refine wl_val (v_extract rfl rfl) rfl ?_
 refine wl_val (v_assign' (by conv => (lhs; whnf))) rfl ?_
 refine wl_val (v_assign' (by conv => (lhs; whnf))) rfl ?_
 refine wl_nil ?_
 refine then_go ?_
 refine wc_seq ?_
 refine wc_region ?_
 refine wl_val (v_move' (by conv => (lhs; whnf))) rfl ?_
 refine wl_val (v_len_s Try.underlying29 rfl) rfl ?_
 refine wl_val (v_eqlT (by simp) rfl rfl) rfl ?_
 refine wl_val (v_move' (by conv => (lhs; whnf))) rfl ?_
 refine wl_on rfl rfl ?_
 refine wl_val (v_move' (by conv => (lhs; whnf))) rfl ?_
 refine wl_on rfl rfl ?_
 refine wl_val (v_ias 0 Try.underlying29 TF.t37 rfl rfl (by first | rfl | omega) (by simp)) rfl ?_
 refine wl_on rfl rfl ?_
 refine wl_val (v_load rfl (hrp st.im)) rfl ?_
 refine wl_on rfl rfl ?_
 refine wl_val (v_ias 0 Try.underlying37 TF.t5 rfl rfl (by first | rfl | omega) hW5) rfl ?_
 refine wl_on rfl rfl ?_
 refine wl_val (v_load rfl (SlM.rdB TF.t5 0 hs0 hW5 st.im)) rfl ?_
 refine wl_on rfl rfl ?_
 refine wl_val (v_eqlT hW6 rfl rfl) rfl ?_
 refine wl_val (v_pick rfl) rfl ?_
 refine wl_val (v_move' (by conv => (lhs; whnf))) rfl ?_
 refine wl_on rfl rfl ?_
 refine wl_val (v_move' (by conv => (lhs; whnf))) rfl ?_
 refine wl_on rfl rfl ?_
 refine wl_val (v_eqlT rfl rfl rfl) rfl ?_
 refine wl_val (v_pick rfl) rfl ?_
 refine wl_val (v_move' (by conv => (lhs; whnf))) rfl ?_
 refine wl_on rfl rfl ?_
 refine wl_val (v_move' (by conv => (lhs; whnf))) rfl ?_
 refine wl_on rfl rfl ?_
 refine wl_val (v_ne_nil Try.underlying25 rfl rfl) rfl ?_
 refine wl_val (v_pick rfl) rfl ?_
 refine wl_val (v_move' (by conv => (lhs; whnf))) rfl ?_
 refine wl_on rfl rfl ?_
 refine wl_val (v_move' (by conv => (lhs; whnf))) rfl ?_
 refine wl_on rfl rfl ?_
 refine wl_call rfl (c_troot st.im hp2) rfl ?_
 rintro v55 w ⟨t55, rfl⟩
 have st := st.pure t55
 refine wl_on rfl rfl ?_
 refine wl_val (v_move' (by conv => (lhs; whnf))) rfl ?_
 refine wl_on rfl rfl ?_
 refine wl_call rfl (c_troot st.im hp) rfl ?_
 rintro v57 w ⟨t57, rfl⟩
 have st := st.pure t57
 refine wl_on rfl rfl ?_
 refine wl_val (wl_valD (v_eq_arr Try.underlying28 TF.t5 Try.underlying5 TF.e28 rfl rfl (length_root _) (length_root _)) (decide_eq_true rfl)) rfl ?_
 refine wl_val (v_pick rfl) rfl ?_
 refine wl_val (v_move' (by conv => (lhs; whnf))) rfl ?_
 refine wl_on rfl rfl ?_
 refine wl_val (v_move' (by conv => (lhs; whnf))) rfl ?_
 refine wl_on rfl rfl ?_
 refine wl_val (v_eqlT rfl rfl rfl) rfl ?_
 refine wl_val (v_pick rfl) rfl ?_
 refine wl_val (v_assign' (by conv => (lhs; whnf))) rfl ?_
 refine wl_nil ?_
 refine then_go ?_
 refine wc_ret ?_
 exact ret1 rfl ⟨(st.keepOnly (l := []) (List.nil_sublist _)).touch, rfl⟩
end
end Go.Proofs.Ytonlmjpenonabaa

namespace Go.Proofs.Ytonlmjpenonabaa
open Go Go.RowKit K SH PT
theorem v_nesE {P : Program} {r : Fr} {w : World} {ty T U : TypeId} {x y : Operand} {a b : By} (hx : ev r x = .string (strB a)) (hy : ev r y = .string (strB b)) : Val P (.binOp .neq T x y U) ty r w (.bool (decide (¬ a = b))) w := by
 intro _ _ _ _
 simp only [execOp, eqGuard, hx, hy, binOp, Op.stringOp, strB_toList, Sem.run_bind, Sem.run_pure, Result.andThen_ok]
 by_cases h : a = b
 ·subst h; simp
 ·simp [h]
theorem nc_snoc {S : List By} {q : By} (h : NoClash S) (hq : ∀ p ∈ S, sum p = sum q → p = q) : NoClash (S ++ [q]) := by
 intro a ha b hb e
 rcases List.mem_append.1 ha with ha | ha
 ·rcases List.mem_append.1 hb with hb | hb
  ·exact h a ha b hb e
  ·rw [List.mem_singleton.1 hb] at e ⊢; exact hq a ha e
 ·rw [List.mem_singleton.1 ha] at e ⊢
  rcases List.mem_append.1 hb with hb | hb
  ·exact (hq b hb e.symm).symm
  ·exact (List.mem_singleton.1 hb).symm
section
variable {m : Mem} {wI : World}
theorem c_any17 {lv : Value} {N : List (By × Value)} (him : Im m wI) (hN : PcsM m lv N) (hNl : ∀ x ∈ N, x.1.length ≤ 1000000000) (hNn : N.length ≤ 1000000) :
  Ret Try.prog 19 #[lv] wI fun v w' => Tch wI w' [] [] ∧ ∃ c : Bool, v = .bool c ∧ (c = false → NoClash (N.map (·.1))) := by
 have st := St.start him
 obtain ⟨na, nc, hlv⟩ : ∃ a c, lv = .slice a N.length c := by obtain ⟨⟨_, a, c, h, _⟩, _⟩ := hN; exact ⟨a, c, h⟩
 subst hlv
 have hD32 : ∀ i, D32 ((N.take i).map fun x => sum x.1) := fun i x hx => by
  obtain ⟨y, _, rfl⟩ := List.mem_map.1 hx
  exact length_sum _
 refine ret_of Try.call19 Try.func19 rfl Try.ntmps19 Try.results19 rfl ?_
 refine wc_seq ?_
 refine wc_region ?_
 refine wl_val (v_assign' (by conv => (lhs; whnf))) rfl ?_
 refine wl_nil ?_
 refine then_go ?_
 refine wc_seq ?_
 refine wc_region ?_
 refine wl_val (v_assign' (by conv => (lhs; whnf))) rfl ?_
 refine wl_nil ?_
 refine then_go ?_
 refine wc_seq ?_
 refine wc_seq ?_
 refine wc_region ?_
 refine wl_val (v_assign' (by conv => (lhs; whnf))) rfl ?_
 refine wl_nil ?_
 refine then_go ?_
 refine wc_block ?_
 have st := st.nilDig
 refine wc_loop (S := Nat) (fun q r w' => ∃ (i : Nat) (v : Value), q + i = N.length ∧ r 0 = .slice na N.length nc ∧ r 3 = v ∧ r 4 = .int .i64 i ∧ NoClash ((N.take i).map (·.1)) ∧ St m m [] wI w' [digE v ((N.take i).map fun x => sum x.1)]) id N.length ⟨0, _, by omega, rfl, rfl, rfl, by intro a ha; simp at ha, st⟩ ?_
 clear st
 rintro q r w2 ⟨i, v, hqi, g0, g3, g4, hnc, st⟩
 refine wc_o 0 g0 (wc_o 3 g3 (wc_o 4 g4 ?_))
 refine wc_seq ?_
 refine wc_seq ?_
 refine wc_region ?_
 refine wl_val (v_move' (by conv => (lhs; whnf))) rfl ?_
 refine wl_val (v_move' (by conv => (lhs; whnf))) rfl ?_
 refine wl_val (v_len_s Try.underlying29 rfl) rfl ?_
 refine wl_val (v_lss rfl rfl) rfl ?_
 refine wl_nil ?_
 refine then_go ?_
 refine wc_if rfl (fun h9 => ?_) (fun h9 => ?_)
 ·refine wc_skip ?_
  refine then_go ?_
  refine wc_seq ?_
  refine wc_block ?_
  refine wc_seq ?_
  have hi : i < N.length := by omega
  obtain ⟨nb, no, _, hnv, hs0, hrp⟩ := hN.elem hi
  cases hnv
  have hsl := hNl _ (List.getElem_mem hi)
  refine wc_region ?_
  refine wl_val (v_move' (by conv => (lhs; whnf))) rfl ?_
  refine wl_val (v_move' (by conv => (lhs; whnf))) rfl ?_
  refine wl_val (v_move' (by conv => (lhs; whnf))) rfl ?_
  refine wl_val (v_ias i Try.underlying29 TF.t37 rfl rfl (by first | rfl | omega) (by first | omega | (dsimp only at *; omega))) rfl ?_
  refine wl_val (v_load rfl (hrp st.im)) rfl ?_
  refine wl_call rfl (c_ref3of st.im hs0 (by omega)) rfl ?_
  rintro v17 w ⟨t17, rfl⟩
  have st := st.pure t17
  refine wl_digOne _ (length_sum N[i].1) rfl st rfl ?_
  intro b18 w st
  refine wl_digApp 0 st rfl (length_sum N[i].1) rfl rfl (by simp; omega) rfl ?_
  intro v19 w st hv19
  have e1 : ((N.take i).map fun x => sum x.1) ++ [sum N[i].1] = (N.take (i + 1)).map fun x => sum x.1 := by rw [List.take_succ_eq_append_getElem hi, List.map_append]; rfl
  change St _ _ _ _ _ [digE v19 (((N.take i).map fun x => sum x.1) ++ [sum N[i].1])] at st
  rw [e1] at st
  obtain ⟨va, vc, hvv⟩ := row_sl (st.at (i := 0) rfl)
  subst hvv
  have hDl : ((N.take (i + 1)).map fun x => sum x.1).length = i + 1 := by simp; omega
  have hDM : ∀ {w' : World}, St m m [] wI w' [digE (.slice va ((N.take (i + 1)).map fun x => sum x.1).length vc) ((N.take (i + 1)).map fun x => sum x.1)] → DigM (heapM w') (.slice va ((N.take (i + 1)).map fun x => sum x.1).length vc) ((N.take (i + 1)).map fun x => sum x.1) := fun st => ⟨hD32 _, row_SlM (m := heapM _) (st.at (i := 0) rfl) (fun _ _ _ h => h)⟩
  obtain ⟨vb, vo, hva⟩ := (hDM st).ptr (by omega)
  subst hva
  obtain ⟨DL, hDL⟩ : ∃ DL, DL = (N.take (i + 1)).map fun x => sum x.1 := ⟨_, rfl⟩
  have hDk : ∀ k (hk : k < DL.length) (hkN : k < N.length), DL[k] = sum N[k].1 := fun k hk hkN => by subst hDL; simp
  rw [← hDL] at st hDM hDl ⊢
  refine wl_val (v_assign' (by conv => (lhs; whnf))) rfl ?_
  refine wl_nil ?_
  refine then_go ?_
  refine wc_seq ?_
  refine wc_region ?_
  refine wl_val (v_assign' (by conv => (lhs; whnf))) rfl ?_
  refine wl_nil ?_
  refine then_go ?_
  refine wc_block ?_
  refine wc_loop (S := Nat) (fun q r w' => ∃ (k : Nat), q + k = i ∧ r 0 = .slice (some ⟨nb, no, none⟩) N.length nc ∧ r 3 = .slice (some ⟨vb, vo, none⟩) DL.length vc ∧ r 4 = .int .i64 i ∧ r 5 = .int .i64 k ∧ (∀ p ∈ (N.take k).map (·.1), sum p = sum N[i].1 → p = N[i].1) ∧ St m m [] wI w' [digE (.slice (some ⟨vb, vo, none⟩) DL.length vc) DL]) id i ⟨0, by omega, rfl, rfl, rfl, rfl, by intro p hp; simp at hp, st⟩ ?_
  clear st
  rintro q2 r w3 ⟨k, hqk, g0, g3, g4, g5, hin, st⟩
  refine wc_o 0 g0 (wc_o 3 g3 (wc_o 4 g4 (wc_o 5 g5 ?_)))
  refine wc_seq ?_
  refine wc_seq ?_
  refine wc_region ?_
  refine wl_val (v_move' (by conv => (lhs; whnf))) rfl ?_
  refine wl_val (v_move' (by conv => (lhs; whnf))) rfl ?_
  refine wl_val (v_lss rfl rfl) rfl ?_
  refine wl_nil ?_
  refine then_go ?_
  refine wc_if rfl (fun h22 => ?_) (fun h22 => ?_)
  ·refine wc_skip ?_
   refine then_go ?_
   refine wc_seq ?_
   refine wc_block ?_
   refine wc_seq ?_
   by_cases hsum : sum N[k].1 = sum N[i].1
   ·have hk : k < i := by omega
    have hkN : k < N.length := by omega
    obtain ⟨_, _, _, hnv2, hs1, hrk⟩ := hN.elem hkN
    cases hnv2
    refine wc_draw TF.mixed ?_
    have st := st.pure (touch_drew _)
    refine fl_val 0 rfl (fun _ => (v_move' (by conv => (lhs; whnf)))) rfl (by kernel_rfl) ?_
    refine fl_val 1 rfl (fun _ => (v_move' (by conv => (lhs; whnf)))) rfl (by kernel_rfl) ?_
    refine fl_val 2 rfl (fun _ => (v_ias k Try.underlying22 TF.t28 rfl rfl (by first | rfl | omega) (by first | omega | (dsimp only at *; omega)))) rfl (by kernel_rfl) ?_
    refine fl_ld 3 rfl (v_load rfl ((hDM st).rd rfl (by omega) (hDk k (by omega) hkN) (im_heapM _))) (by kernel_rfl) ?_
    refine fl_val 4 rfl (fun _ => (v_move' (by conv => (lhs; whnf)))) rfl (by kernel_rfl) ?_
    refine fl_val 5 rfl (fun _ => (v_move' (by conv => (lhs; whnf)))) rfl (by kernel_rfl) ?_
    refine fl_val 6 rfl (fun _ => (v_ias i Try.underlying22 TF.t28 rfl rfl (by first | rfl | omega) (by first | omega | (dsimp only at *; omega)))) rfl (by kernel_rfl) ?_
    refine fl_ld 7 rfl (v_load rfl ((hDM st).rd rfl (by omega) (hDk i (by omega) hi) (im_heapM _))) (by kernel_rfl) ?_
    refine fl_val 8 rfl (fun _ => (wl_valD (v_eq_arr Try.underlying28 TF.t5 Try.underlying5 TF.e28 rfl rfl (length_sum _) (length_sum _)) (decide_eq_true hsum))) rfl (by kernel_rfl) ?_
    refine fl_val 9 rfl (fun _ => (v_move' (by conv => (lhs; whnf)))) rfl (by kernel_rfl) ?_
    refine fl_on 10 rfl rfl rfl rfl (fun _ => (v_move' (by conv => (lhs; whnf)))) rfl (by kernel_rfl) ?_
    refine fl_on 11 rfl rfl rfl rfl (fun _ => (v_move' (by conv => (lhs; whnf)))) rfl (by kernel_rfl) ?_
    refine fl_on 12 rfl rfl rfl rfl (fun _ => (v_ias k Try.underlying29 TF.t37 rfl rfl (by first | rfl | omega) (by first | omega | (dsimp only at *; omega)))) rfl (by kernel_rfl) ?_
    refine fl_ond 13 rfl rfl rfl rfl (v_load rfl (hrk st.im)) rfl (by kernel_rfl) ?_
    refine fl_ond 14 rfl rfl rfl rfl (v_b2s Try.underlying37 Try.underlying5 Try.underlying9 st.im hs1 rfl) rfl (by kernel_rfl) ?_
    refine fl_on 15 rfl rfl rfl rfl (fun _ => (v_move' (by conv => (lhs; whnf)))) rfl (by kernel_rfl) ?_
    refine fl_on 16 rfl rfl rfl rfl (fun _ => (v_move' (by conv => (lhs; whnf)))) rfl (by kernel_rfl) ?_
    refine fl_on 17 rfl rfl rfl rfl (fun _ => (v_ias i Try.underlying29 TF.t37 rfl rfl (by first | rfl | omega) (by first | omega | (dsimp only at *; omega)))) rfl (by kernel_rfl) ?_
    refine fl_ond 18 rfl rfl rfl rfl (v_load rfl (hrp st.im)) rfl (by kernel_rfl) ?_
    refine fl_ond 19 rfl rfl rfl rfl (v_b2s Try.underlying37 Try.underlying5 Try.underlying9 st.im hs0 rfl) rfl (by kernel_rfl) ?_
    refine fl_on 20 rfl rfl rfl rfl (fun _ => (v_nesE rfl rfl)) rfl (by kernel_rfl) ?_
    refine fl_val 21 rfl (fun _ => (v_pick rfl)) rfl (by kernel_rfl) ?_
    refine fl_nil (by kernel_rfl) ⟨obl_on rfl rfl rfl rfl rfl (v_b2s Try.underlying37 Try.underlying5 Try.underlying9 st.im hs0 rfl), obl_on rfl rfl rfl rfl rfl (v_load rfl (hrp st.im)), obl_on rfl rfl rfl rfl rfl (v_b2s Try.underlying37 Try.underlying5 Try.underlying9 st.im hs1 rfl), obl_on rfl rfl rfl rfl rfl (v_load rfl (hrk st.im)), obl_ld rfl rfl rfl (v_load rfl ((hDM st).rd rfl (by omega) (hDk i (by omega) hi) (im_heapM _))), obl_ld rfl rfl rfl (v_load rfl ((hDM st).rd rfl (by omega) (hDk k (by omega) hkN) (im_heapM _))), trivial⟩ ?_
    refine then_go ?_
    refine wc_cond rfl (fun h46 => ?_) (fun h46 => ?_)
    ·refine wc_seq ?_
     refine wc_region ?_
     refine wl_val (v_assign' (by conv => (lhs; whnf))) rfl ?_
     refine wl_nil ?_
     refine then_go ?_
     refine wc_ret (block_ret (then_ret (then_ret (block_ret (block_ret (then_ret (then_ret (block_ret (then_ret ?_)))))))))
     exact ret1 rfl ⟨(st.keepOnly (l := []) (List.nil_sublist _)).touch, true, rfl, fun h => by cases h⟩
    ·refine wc_skip ?_
     refine block_go (then_go ?_)
     refine wc_region ?_
     refine wl_val (v_move' (by conv => (lhs; whnf))) rfl ?_
     refine wl_val (v_add' (c := ((k + 1 : Nat) : Int)) rfl rfl (by omega) (by omega) (by omega)) rfl ?_
     refine wl_val (v_assign' (by conv => (lhs; whnf))) rfl ?_
     refine wl_nil ?_
     refine then_go ?_
     refine ⟨q2 - 1, by simp; omega, k + 1, by omega, rfl, rfl, rfl, rfl, ?_, st⟩
     intro p hp hps
     rw [List.take_succ_eq_append_getElem hkN, List.map_append] at hp
     rcases List.mem_append.1 hp with hp | hp
     ·exact hin p hp hps
     ·rw [List.map_singleton, List.mem_singleton] at hp
      subst hp
      first
      | (exact (hsum hps).elim)
      | (simpa using h46)
   ·have hk : k < i := by omega
    have hkN : k < N.length := by omega
    obtain ⟨_, _, _, hnv2, hs1, hrk⟩ := hN.elem hkN
    cases hnv2
    refine wc_draw TF.mixed ?_
    have st := st.pure (touch_drew _)
    refine fl_val 0 rfl (fun _ => (v_move' (by conv => (lhs; whnf)))) rfl (by kernel_rfl) ?_
    refine fl_val 1 rfl (fun _ => (v_move' (by conv => (lhs; whnf)))) rfl (by kernel_rfl) ?_
    refine fl_val 2 rfl (fun _ => (v_ias k Try.underlying22 TF.t28 rfl rfl (by first | rfl | omega) (by first | omega | (dsimp only at *; omega)))) rfl (by kernel_rfl) ?_
    refine fl_ld 3 rfl (v_load rfl ((hDM st).rd rfl (by omega) (hDk k (by omega) hkN) (im_heapM _))) (by kernel_rfl) ?_
    refine fl_val 4 rfl (fun _ => (v_move' (by conv => (lhs; whnf)))) rfl (by kernel_rfl) ?_
    refine fl_val 5 rfl (fun _ => (v_move' (by conv => (lhs; whnf)))) rfl (by kernel_rfl) ?_
    refine fl_val 6 rfl (fun _ => (v_ias i Try.underlying22 TF.t28 rfl rfl (by first | rfl | omega) (by first | omega | (dsimp only at *; omega)))) rfl (by kernel_rfl) ?_
    refine fl_ld 7 rfl (v_load rfl ((hDM st).rd rfl (by omega) (hDk i (by omega) hi) (im_heapM _))) (by kernel_rfl) ?_
    refine fl_val 8 rfl (fun _ => (wl_valD (v_eq_arr Try.underlying28 TF.t5 Try.underlying5 TF.e28 rfl rfl (length_sum _) (length_sum _)) (decide_eq_false hsum))) rfl (by kernel_rfl) ?_
    refine fl_val 9 rfl (fun _ => (v_move' (by conv => (lhs; whnf)))) rfl (by kernel_rfl) ?_
    refine fl_off 10 rfl rfl rfl rfl rfl rfl (by kernel_rfl) ?_
    refine fl_off 11 rfl rfl rfl rfl rfl rfl (by kernel_rfl) ?_
    refine fl_off 12 rfl rfl rfl rfl rfl rfl (by kernel_rfl) ?_
    refine fl_offd 13 rfl rfl rfl rfl rfl rfl (by kernel_rfl) ?_
    refine fl_offd 14 rfl rfl rfl rfl rfl rfl (by kernel_rfl) ?_
    refine fl_off 15 rfl rfl rfl rfl rfl rfl (by kernel_rfl) ?_
    refine fl_off 16 rfl rfl rfl rfl rfl rfl (by kernel_rfl) ?_
    refine fl_off 17 rfl rfl rfl rfl rfl rfl (by kernel_rfl) ?_
    refine fl_offd 18 rfl rfl rfl rfl rfl rfl (by kernel_rfl) ?_
    refine fl_offd 19 rfl rfl rfl rfl rfl rfl (by kernel_rfl) ?_
    refine fl_off 20 rfl rfl rfl rfl rfl rfl (by kernel_rfl) ?_
    refine fl_val 21 rfl (fun _ => (v_pick rfl)) rfl (by kernel_rfl) ?_
    refine fl_nil (by kernel_rfl) ⟨obl_off rfl rfl rfl rfl rfl rfl, obl_off rfl rfl rfl rfl rfl rfl, obl_off rfl rfl rfl rfl rfl rfl, obl_off rfl rfl rfl rfl rfl rfl, obl_ld rfl rfl rfl (v_load rfl ((hDM st).rd rfl (by omega) (hDk i (by omega) hi) (im_heapM _))), obl_ld rfl rfl rfl (v_load rfl ((hDM st).rd rfl (by omega) (hDk k (by omega) hkN) (im_heapM _))), trivial⟩ ?_
    refine then_go ?_
    refine wc_false rfl ?_
    refine wc_skip ?_
    refine block_go (then_go ?_)
    refine wc_region ?_
    refine wl_val (v_move' (by conv => (lhs; whnf))) rfl ?_
    refine wl_val (v_add' (c := ((k + 1 : Nat) : Int)) rfl rfl (by omega) (by omega) (by omega)) rfl ?_
    refine wl_val (v_assign' (by conv => (lhs; whnf))) rfl ?_
    refine wl_nil ?_
    refine then_go ?_
    refine ⟨q2 - 1, by simp; omega, k + 1, by omega, rfl, rfl, rfl, rfl, ?_, st⟩
    intro p hp hps
    rw [List.take_succ_eq_append_getElem hkN, List.map_append] at hp
    rcases List.mem_append.1 hp with hp | hp
    ·exact hin p hp hps
    ·rw [List.map_singleton, List.mem_singleton] at hp
     subst hp
     first
     | (exact (hsum hps).elim)
     | (simpa using h46)
  ·refine wc_exit (then_exit (then_exit (block_hit ?_)))
   refine block_go (then_go ?_)
   refine wc_region ?_
   refine wl_val (v_move' (by conv => (lhs; whnf))) rfl ?_
   refine wl_val (v_add' (c := ((i + 1 : Nat) : Int)) rfl rfl (by omega) (by omega) (by omega)) rfl ?_
   refine wl_val (v_assign' (by conv => (lhs; whnf))) rfl ?_
   refine wl_nil ?_
   refine then_go ?_
   have hki : k = i := by omega
   rw [hki] at hin
   refine ⟨q - 1, by simp; omega, i + 1, _, by omega, rfl, rfl, rfl, ?_, by rw [← hDL]; exact st⟩
   rw [List.take_succ_eq_append_getElem hi, List.map_append]
   exact nc_snoc hnc hin
 ·refine wc_exit (then_exit (then_exit (block_hit ?_)))
  refine then_go ?_
  refine wc_seq ?_
  refine wc_region ?_
  refine wl_val (v_assign' (by conv => (lhs; whnf))) rfl ?_
  refine wl_nil ?_
  refine then_go ?_
  refine wc_ret ?_
  have hiN : i = N.length := by omega
  subst hiN
  rw [List.take_length] at hnc
  exact ret1 rfl ⟨(st.keepOnly (l := []) (List.nil_sublist _)).touch, false, rfl, fun _ => hnc⟩
theorem c_clash {lv bv : Value} {N : List (By × Value)} {b : By} (him : Im m wI) (hN : PcsM m lv N) (hb : SlM m bv 1 b.length (bs b)) (hNl : ∀ x ∈ N, x.1.length ≤ 1000000000) (hbl : b.length ≤ 1000000000) (hNn : N.length ≤ 1000000) :
  Ret Try.prog 21 #[bv, lv] wI fun v w' => Tch wI w' [] [] ∧ ∃ c : Bool, v = .bool c ∧ (c = false → ∀ x ∈ N, x.1 ≠ b → sum x.1 ≠ sum b) := by
 have st := St.start him
 obtain ⟨na, nc, hlv⟩ : ∃ a c, lv = .slice a N.length c := by obtain ⟨⟨_, a, c, h, _⟩, _⟩ := hN; exact ⟨a, c, h⟩
 subst hlv
 refine ret_of Try.call21 Try.func21 rfl Try.ntmps21 Try.results21 rfl ?_
 refine wc_seq ?_
 refine wc_region ?_
 refine wl_val (v_assign' (by conv => (lhs; whnf))) rfl ?_
 refine wl_nil ?_
 refine then_go ?_
 refine wc_seq ?_
 refine wc_seq ?_
 refine wc_region ?_
 refine wl_val (v_assign' (by conv => (lhs; whnf))) rfl ?_
 refine wl_nil ?_
 refine then_go ?_
 refine wc_block ?_
 refine wc_loop (S := Nat) (fun q r w' => ∃ (i : Nat), q + i = N.length ∧ r 0 = bv ∧ r 1 = .slice na N.length nc ∧ r 5 = .int .i64 i ∧ (∀ x ∈ N.take i, x.1 ≠ b → sum x.1 ≠ sum b) ∧ St m m [] wI w' []) id N.length ⟨0, by omega, rfl, rfl, rfl, by simp, st⟩ ?_
 clear st
 rintro q r w2 ⟨i, hqi, g0, g1, g5, hno, st⟩
 refine wc_o 0 g0 (wc_o 1 g1 (wc_o 5 g5 ?_))
 refine wc_seq ?_
 refine wc_seq ?_
 refine wc_region ?_
 refine wl_val (v_move' (by conv => (lhs; whnf))) rfl ?_
 refine wl_val (v_move' (by conv => (lhs; whnf))) rfl ?_
 refine wl_val (v_len_s Try.underlying29 rfl) rfl ?_
 refine wl_val (v_lss rfl rfl) rfl ?_
 refine wl_nil ?_
 refine then_go ?_
 refine wc_if rfl (fun h9 => ?_) (fun h9 => ?_)
 ·refine wc_skip ?_
  refine then_go ?_
  refine wc_seq ?_
  refine wc_block ?_
  refine wc_seq ?_
  by_cases htx : N[i].1 = b
  ·have hi : i < N.length := by omega
   obtain ⟨nb, no, _, hnv, hs0, hrp⟩ := hN.elem hi
   cases hnv
   have hsl := hNl _ (List.getElem_mem hi)
   refine wc_draw TF.mixed ?_
   have st := st.pure (touch_drew _)
   refine fl_val 0 rfl (fun _ => (v_move' (by conv => (lhs; whnf)))) rfl (by kernel_rfl) ?_
   refine fl_val 1 rfl (fun _ => (v_move' (by conv => (lhs; whnf)))) rfl (by kernel_rfl) ?_
   refine fl_val 2 rfl (fun _ => (v_ias i Try.underlying29 TF.t37 rfl rfl (by first | rfl | omega) (by first | omega | (dsimp only at *; omega)))) rfl (by kernel_rfl) ?_
   refine fl_ld 3 rfl (v_load rfl (hrp st.im)) (by kernel_rfl) ?_
   refine fl_ld 4 rfl (v_b2s Try.underlying37 Try.underlying5 Try.underlying9 st.im hs0 rfl) (by kernel_rfl) ?_
   refine fl_val 5 rfl (fun _ => (v_move' (by conv => (lhs; whnf)))) rfl (by kernel_rfl) ?_
   refine fl_ld 6 rfl (v_b2s Try.underlying37 Try.underlying5 Try.underlying9 st.im hb rfl) (by kernel_rfl) ?_
   refine fl_val 7 rfl (fun _ => (wl_valD (v_nesE rfl rfl) (decide_eq_false (by simpa using htx)))) rfl (by kernel_rfl) ?_
   refine fl_val 8 rfl (fun _ => (v_move' (by conv => (lhs; whnf)))) rfl (by kernel_rfl) ?_
   refine fl_off 9 rfl rfl rfl rfl rfl rfl (by kernel_rfl) ?_
   refine fl_off 10 rfl rfl rfl rfl rfl rfl (by kernel_rfl) ?_
   refine fl_off 11 rfl rfl rfl rfl rfl rfl (by kernel_rfl) ?_
   refine fl_offd 12 rfl rfl rfl rfl rfl rfl (by kernel_rfl) ?_
   refine fl_off 14 rfl rfl rfl rfl rfl rfl (by kernel_rfl) ?_
   refine fl_eff1 13 [14, 11, 10, 9, 7, 5, 2, 1, 0] [6, 4, 3] (by kernel_rfl) ⟨obl_off rfl rfl rfl rfl rfl rfl, obl_ld rfl rfl rfl (v_b2s Try.underlying37 Try.underlying5 Try.underlying9 st.im hb rfl), obl_ld rfl rfl rfl (v_b2s Try.underlying37 Try.underlying5 Try.underlying9 st.im hs0 rfl), obl_ld rfl rfl rfl (v_load rfl (hrp st.im)), trivial⟩ rfl ?_
   refine wl_off rfl rfl rfl rfl ?_
   refine wl_nil ⟨rfl, ?_⟩
   refine fl_eff1 15 [11, 10, 9, 7, 5, 2, 1, 0] [6, 4, 3] (by kernel_rfl) ⟨obl_ld rfl rfl rfl (v_b2s Try.underlying37 Try.underlying5 Try.underlying9 st.im hb rfl), obl_ld rfl rfl rfl (v_b2s Try.underlying37 Try.underlying5 Try.underlying9 st.im hs0 rfl), obl_ld rfl rfl rfl (v_load rfl (hrp st.im)), trivial⟩ rfl ?_
   refine wl_off rfl rfl rfl rfl ?_
   refine wl_nil ⟨rfl, ?_⟩
   refine fl_off 16 rfl rfl rfl rfl rfl rfl (by kernel_rfl) ?_
   refine fl_val 17 rfl (fun _ => (v_pick rfl)) rfl (by kernel_rfl) ?_
   refine fl_nil (by kernel_rfl) ⟨obl_ld rfl rfl rfl (v_b2s Try.underlying37 Try.underlying5 Try.underlying9 st.im hb rfl), obl_ld rfl rfl rfl (v_b2s Try.underlying37 Try.underlying5 Try.underlying9 st.im hs0 rfl), obl_ld rfl rfl rfl (v_load rfl (hrp st.im)), trivial⟩ ?_
   refine then_go ?_
   refine wc_false rfl ?_
   refine wc_skip ?_
   refine block_go (then_go ?_)
   refine wc_region ?_
   refine wl_val (v_move' (by conv => (lhs; whnf))) rfl ?_
   refine wl_val (v_add' (c := ((i + 1 : Nat) : Int)) rfl rfl (by omega) (by omega) (by omega)) rfl ?_
   refine wl_val (v_assign' (by conv => (lhs; whnf))) rfl ?_
   refine wl_nil ?_
   refine then_go ?_
   refine ⟨q - 1, by simp; omega, i + 1, by omega, rfl, rfl, rfl, ?_, st⟩
   intro x hx hxb
   rw [List.take_succ_eq_append_getElem hi] at hx
   rcases List.mem_append.1 hx with hx | hx
   ·exact hno x hx hxb
   ·rw [List.mem_singleton] at hx
    subst hx
    first
    | (exact (hxb htx).elim)
    | (simpa using h29)
  ·have hi : i < N.length := by omega
   obtain ⟨nb, no, _, hnv, hs0, hrp⟩ := hN.elem hi
   cases hnv
   have hsl := hNl _ (List.getElem_mem hi)
   refine wc_draw TF.mixed ?_
   have st := st.pure (touch_drew _)
   refine fl_val 0 rfl (fun _ => (v_move' (by conv => (lhs; whnf)))) rfl (by kernel_rfl) ?_
   refine fl_val 1 rfl (fun _ => (v_move' (by conv => (lhs; whnf)))) rfl (by kernel_rfl) ?_
   refine fl_val 2 rfl (fun _ => (v_ias i Try.underlying29 TF.t37 rfl rfl (by first | rfl | omega) (by first | omega | (dsimp only at *; omega)))) rfl (by kernel_rfl) ?_
   refine fl_ld 3 rfl (v_load rfl (hrp st.im)) (by kernel_rfl) ?_
   refine fl_ld 4 rfl (v_b2s Try.underlying37 Try.underlying5 Try.underlying9 st.im hs0 rfl) (by kernel_rfl) ?_
   refine fl_val 5 rfl (fun _ => (v_move' (by conv => (lhs; whnf)))) rfl (by kernel_rfl) ?_
   refine fl_ld 6 rfl (v_b2s Try.underlying37 Try.underlying5 Try.underlying9 st.im hb rfl) (by kernel_rfl) ?_
   refine fl_val 7 rfl (fun _ => (wl_valD (v_nesE rfl rfl) (decide_eq_true (by simpa using htx)))) rfl (by kernel_rfl) ?_
   refine fl_val 8 rfl (fun _ => (v_move' (by conv => (lhs; whnf)))) rfl (by kernel_rfl) ?_
   refine fl_on 9 rfl rfl rfl rfl (fun _ => (v_move' (by conv => (lhs; whnf)))) rfl (by kernel_rfl) ?_
   refine fl_on 10 rfl rfl rfl rfl (fun _ => (v_move' (by conv => (lhs; whnf)))) rfl (by kernel_rfl) ?_
   refine fl_on 11 rfl rfl rfl rfl (fun _ => (v_ias i Try.underlying29 TF.t37 rfl rfl (by first | rfl | omega) (by first | omega | (dsimp only at *; omega)))) rfl (by kernel_rfl) ?_
   refine fl_ond 12 rfl rfl rfl rfl (v_load rfl (hrp st.im)) rfl (by kernel_rfl) ?_
   refine fl_on 14 rfl rfl rfl rfl (fun _ => (v_move' (by conv => (lhs; whnf)))) rfl (by kernel_rfl) ?_
   refine fl_eff1 13 [14, 11, 10, 9, 7, 5, 2, 1, 0] [6, 4, 3] (by kernel_rfl) ⟨obl_on rfl rfl rfl rfl rfl (v_load rfl (hrp st.im)), obl_ld rfl rfl rfl (v_b2s Try.underlying37 Try.underlying5 Try.underlying9 st.im hb rfl), obl_ld rfl rfl rfl (v_b2s Try.underlying37 Try.underlying5 Try.underlying9 st.im hs0 rfl), obl_ld rfl rfl rfl (v_load rfl (hrp st.im)), trivial⟩ rfl ?_
   refine wl_on rfl rfl ?_
   refine wl_call rfl (c_ref3of st.im hs0 (by omega)) rfl ?_
   rintro v25 w ⟨t25, rfl⟩
   have st := st.pure t25
   refine wl_nil ⟨rfl, ?_⟩
   refine fl_eff1 15 [11, 10, 9, 7, 5, 2, 1, 0] [6, 4, 3] (by kernel_rfl) ⟨obl_ld rfl rfl rfl (v_b2s Try.underlying37 Try.underlying5 Try.underlying9 st.im hb rfl), obl_ld rfl rfl rfl (v_b2s Try.underlying37 Try.underlying5 Try.underlying9 st.im hs0 rfl), obl_ld rfl rfl rfl (v_load rfl (hrp st.im)), trivial⟩ rfl ?_
   refine wl_on rfl rfl ?_
   refine wl_call rfl (c_ref3of st.im hb (by omega)) rfl ?_
   rintro v27 w ⟨t27, rfl⟩
   have st := st.pure t27
   refine wl_nil ⟨rfl, ?_⟩
   refine fl_on 16 rfl rfl rfl rfl (fun _ => (v_eq_arr Try.underlying28 TF.t5 Try.underlying5 TF.e28 rfl rfl (length_sum _) (length_sum _))) rfl (by kernel_rfl) ?_
   refine fl_val 17 rfl (fun _ => (v_pick rfl)) rfl (by kernel_rfl) ?_
   refine fl_nil (by kernel_rfl) ⟨obl_ld rfl rfl rfl (v_b2s Try.underlying37 Try.underlying5 Try.underlying9 st.im hb rfl), obl_ld rfl rfl rfl (v_b2s Try.underlying37 Try.underlying5 Try.underlying9 st.im hs0 rfl), obl_ld rfl rfl rfl (v_load rfl (hrp st.im)), trivial⟩ ?_
   refine then_go ?_
   refine wc_cond rfl (fun h29 => ?_) (fun h29 => ?_)
   ·refine wc_seq ?_
    refine wc_region ?_
    refine wl_val (v_assign' (by conv => (lhs; whnf))) rfl ?_
    refine wl_nil ?_
    refine then_go ?_
    refine wc_ret (block_ret (then_ret (then_ret (block_ret (then_ret ?_)))))
    exact ret1 rfl ⟨st.touch, true, rfl, fun h => by cases h⟩
   ·refine wc_skip ?_
    refine block_go (then_go ?_)
    refine wc_region ?_
    refine wl_val (v_move' (by conv => (lhs; whnf))) rfl ?_
    refine wl_val (v_add' (c := ((i + 1 : Nat) : Int)) rfl rfl (by omega) (by omega) (by omega)) rfl ?_
    refine wl_val (v_assign' (by conv => (lhs; whnf))) rfl ?_
    refine wl_nil ?_
    refine then_go ?_
    refine ⟨q - 1, by simp; omega, i + 1, by omega, rfl, rfl, rfl, ?_, st⟩
    intro x hx hxb
    rw [List.take_succ_eq_append_getElem hi] at hx
    rcases List.mem_append.1 hx with hx | hx
    ·exact hno x hx hxb
    ·rw [List.mem_singleton] at hx
     subst hx
     first
     | (exact (hxb htx).elim)
     | (simpa using h29)
 ·refine wc_exit (then_exit (then_exit (block_hit ?_)))
  refine then_go ?_
  refine wc_seq ?_
  refine wc_region ?_
  refine wl_val (v_assign' (by conv => (lhs; whnf))) rfl ?_
  refine wl_nil ?_
  refine then_go ?_
  refine wc_ret ?_
  have hiN : i = N.length := by omega
  subst hiN
  rw [List.take_length] at hno
  exact ret1 rfl ⟨st.touch, false, rfl, fun _ => hno⟩
end
end Go.Proofs.Ytonlmjpenonabaa

namespace Go.Proofs.Ytonlmjpenonabaa
open Go Go.RowKit K SH
section
variable {m : Mem} {wI : World}
structure Rt where
 epoch : UInt64
 prev : List UInt8
 tree : List UInt8
 next : List UInt8
deriving DecidableEq
def Rt.ok (t : Rt) : Prop := t.prev.length = 32 ∧ t.tree.length = 32 ∧ t.next.length = 32
end
end Go.Proofs.Ytonlmjpenonabaa

namespace Go.Proofs.Ytonlmjpenonabaa
open Go Go.RowKit K SH PT
theorem DigM.sl1 {m : Mem} {b o k cap i : Nat} {L : List By} (h : DigM m (.slice (some ⟨b, o, none⟩) k cap) L) (hi : i < L.length) : SlM m (.slice (some ⟨b, o + i * 32 + 0 * 1, none⟩) (32 - 0) (32 - 0)) 1 L[i].length (bs L[i]) := by
 have hl : L[i].length = 32 := h.1 _ (List.getElem_mem hi)
 obtain ⟨_, a', c', he, _, _, hc⟩ := h.2
 cases he
 rw [hl]
 refine ⟨by rw [length_bs, hl], _, _, rfl, Nat.le_refl _, by simp, fun j u hj => ?_⟩
 have hj32 : j < 32 := by
  rcases Nat.lt_or_ge j 32 with h' | h'
  ·exact h'
  ·rw [List.getElem?_eq_none (by rw [length_bs, hl]; exact h')] at hj; cases hj
 have e := cells_digs h.1 hi
 have e2 : (digs L)[i * 32 + j]? = some u := by
  rw [← e] at hj
  simp only [cellsAt] at hj
  rw [List.getElem?_take_of_lt hj32, List.getElem?_drop] at hj
  exact hj
 obtain ⟨b', o', c, t, fr, e3, e4, e5⟩ := hc _ _ e2
 cases e3
 exact ⟨b, _, c, t, fr, rfl, e4, by rw [show o + i * 32 + 0 * 1 + j = o + (i * 32 + j) by omega]; exact e5⟩
end Go.Proofs.Ytonlmjpenonabaa

namespace Go.Proofs.Ytonlmjpenonabaa
open Go Go.RowKit K SH PT
end Go.Proofs.Ytonlmjpenonabaa

namespace Go.Proofs.Ytonlmjpenonabaa
open Go Go.RowKit K SH PT
theorem sv_ok : ∀ {g d : Nat} {L : List (By × By)}, D32p L → Dst d L → g + d = 256 → ∀ b ∈ sv g d L, 1 ≤ b.length ∧ b.length ≤ 512
 | 0, d, L, hL, hD, hgd, b, hb => by
  simp only [sv, List.mem_singleton] at hb
  subst hb
  refine ⟨wh_pos, ?_⟩
  match L, hD with
  | [], _ => rw [wh_nil]; decide
  | [x], _ => exact Nat.le_trans (wh_lt2 (by simp) hL) (by decide)
  | x :: y :: l, hD => rw [show d = 256 by omega] at hD; exact hD.two.elim
 | g + 1, d, L, hL, hD, hgd, b, hb => by
  by_cases hs : (wh (g + 1) d L).length ≤ 512
  ·rw [sv_small hs, List.mem_singleton] at hb
   subst hb
   exact ⟨wh_pos, hs⟩
  ·rw [sv_big hs] at hb
   have h1 := sideB_len (g := g) (d := d + 1) (hL.half (d := d) (b := false))
   have h2 := sideB_len (g := g) (d := d + 1) (hL.half (d := d) (b := true))
   have hr : ∀ {on : Bool} {b : By}, b ∈ restB (sv g (d + 1) (halfL L d on)) (halfL L d on) → 1 ≤ b.length ∧ b.length ≤ 512 := fun {on b} hb => by
    unfold restB at hb
    split at hb
    ·cases hb
    ·exact sv_ok hL.half (hD.half (by omega) on) (by omega) b hb
   rcases List.mem_cons.1 hb with hb | hb
   ·subst hb
    simp only [List.length_cons, List.length_append]
    omega
   ·rcases List.mem_append.1 hb with hb | hb
    ·exact hr hb
    ·exact hr hb
end Go.Proofs.Ytonlmjpenonabaa

namespace Go.Proofs.Ytonlmjpenonabaa
open Go Go.RowKit K SH PT
theorem turn_at {n k q : Nat} (hk : k < n) (hq : q < n) : ∃ i, i < n ∧ (k + n - i) % n = q := by
 by_cases h : q ≤ k
 ·refine ⟨k - q, by omega, ?_⟩
  rw [show k + n - (k - q) = q + n by omega, Nat.add_mod_right, Nat.mod_eq_of_lt hq]
 ·refine ⟨k + n - q, by omega, ?_⟩
  rw [show k + n - (k + n - q) = q by omega, Nat.mod_eq_of_lt hq]
section
variable {m : Mem} {wI : World}
theorem c_lsame {p : Nat} {lv : Value} {L : List (By × By)} (him : Im m wI) (hp : TreeM m p (treeOf L)) (hl : LvM m lv L) (hD : Dst 0 L) (hL : L.length ≤ 1000000) :
  Ret Try.prog 23 #[ptrP p, lv] wI fun v w' => Tch wI w' [] [] ∧ v = .bool true := by
 have st := St.start him
 have hl0 := hl
 obtain ⟨l1, k1, l2, k2, rfl, hl1, hl2⟩ := hl.open
 refine ret_of Try.call23 Try.func23 rfl Try.ntmps23 Try.results23 rfl ?_
 refine wc_seq ?_
 refine wc_region ?_
 refine wl_box (v := .agg #[.slice l1 L.length k1, .slice l2 L.length k2]) rfl st rfl ?_
 intro b3 w st
 refine wl_val (v_assign' (by conv => (lhs; whnf))) rfl ?_
 refine wl_nil ?_
 refine then_go ?_
 refine wc_seq ?_
 refine wc_draw TF.mixed ?_
 have st := st.pure (touch_drew _)
 refine fl_val 0 rfl (fun _ => (v_move' (by conv => (lhs; whnf)))) rfl (by kernel_rfl) ?_
 refine fl_val 1 rfl (fun _ => (v_ne_nil (p := some ⟨p, 0, none⟩) Try.underlying25 rfl rfl)) rfl (by kernel_rfl) ?_
 refine fl_val 2 rfl (fun _ => (v_move' (by conv => (lhs; whnf)))) rfl (by kernel_rfl) ?_
 refine fl_on 3 rfl rfl rfl rfl (fun _ => (v_move' (by conv => (lhs; whnf)))) rfl (by kernel_rfl) ?_
 refine fl_on 5 rfl rfl rfl rfl (fun _ => (v_fa TF.f34_0 rfl)) rfl (by kernel_rfl) ?_
 refine fl_ond 6 rfl rfl rfl rfl (v_load rfl (st.reads (v := .slice l1 L.length k1) 0 rfl TF.t22 rfl)) rfl (by kernel_rfl) ?_
 refine fl_on 7 rfl rfl rfl rfl (fun _ => (v_len_s Try.underlying22 rfl)) rfl (by kernel_rfl) ?_
 refine fl_eff1 4 [7, 5, 1, 0] [6] (by kernel_rfl) ⟨obl_on rfl rfl rfl rfl rfl (v_load rfl (st.reads (v := .slice l1 L.length k1) 0 rfl TF.t22 rfl)), trivial⟩ rfl ?_
 refine wl_on rfl rfl ?_
 refine wl_call rfl (c_tlen st.im hp) rfl ?_
 rintro v9 w ⟨t9, rfl⟩
 have st := st.pure t9
 refine wl_nil ⟨rfl, ?_⟩
 refine fl_on 8 rfl rfl rfl rfl (fun _ => (v_eqlT (a := ((treeOf L).n : Int)) (b := (L.length : Int)) (by rw [(treeOf_fine hD (by omega)).2.1]) rfl rfl)) rfl (by kernel_rfl) ?_
 refine fl_val 9 rfl (fun _ => (v_pick rfl)) rfl (by kernel_rfl) ?_
 refine fl_val 10 rfl (fun _ => (v_move' (by conv => (lhs; whnf)))) rfl (by kernel_rfl) ?_
 refine fl_on 11 rfl rfl rfl rfl (fun _ => (v_move' (by conv => (lhs; whnf)))) rfl (by kernel_rfl) ?_
 refine fl_ond 13 rfl rfl rfl rfl (v_load rfl (st.reads (v := .agg #[.slice l1 L.length k1, .slice l2 L.length k2]) 0 rfl TF.t34 (getV_all rfl))) rfl (by kernel_rfl) ?_
 refine fl_eff1 12 [9, 8, 7, 5, 1, 0] [13, 6] (by kernel_rfl) ⟨obl_on rfl rfl rfl rfl rfl (v_load rfl (st.reads (v := .agg #[.slice l1 L.length k1, .slice l2 L.length k2]) 0 rfl TF.t34 (getV_all rfl))), obl_on rfl rfl rfl rfl rfl (v_load rfl (st.reads (v := .slice l1 L.length k1) 0 rfl TF.t22 rfl)), trivial⟩ rfl ?_
 refine wl_on rfl rfl ?_
 refine wl_call rfl (c_troot st.im hp) rfl ?_
 rintro v17 w ⟨t17, rfl⟩
 have st := st.pure t17
 refine wl_nil ⟨rfl, ?_⟩
 refine fl_eff1 14 [9, 8, 7, 5, 1, 0] [6] (by kernel_rfl) ⟨obl_on rfl rfl rfl rfl rfl (v_load rfl (st.reads (v := .agg #[.slice l1 L.length k1, .slice l2 L.length k2]) 0 rfl TF.t34 (getV_all rfl))), obl_on rfl rfl rfl rfl rfl (v_load rfl (st.reads (v := .slice l1 L.length k1) 0 rfl TF.t22 rfl)), trivial⟩ rfl ?_
 refine wl_on rfl rfl ?_
 refine wl_call rfl (c_rroot' st.im hl0 hD (by omega)) rfl ?_
 rintro v19 w ⟨t19, rfl⟩
 have st := st.pure t19
 refine wl_nil ⟨rfl, ?_⟩
 refine fl_on 15 rfl rfl rfl rfl (fun _ => (wl_valD (v_eq_arr Try.underlying28 TF.t5 Try.underlying5 TF.e28 rfl rfl (length_root _) (length_root _)) (decide_eq_true rfl))) rfl (by kernel_rfl) ?_
 refine fl_val 16 rfl (fun _ => (v_pick rfl)) rfl (by kernel_rfl) ?_
 refine fl_eff1 17 [] [] (by kernel_rfl) ⟨obl_on rfl rfl rfl rfl rfl (v_load rfl (st.reads (v := .slice l1 L.length k1) 0 rfl TF.t22 rfl)), trivial⟩ rfl ?_
 refine wl_val (v_assign' (by conv => (lhs; whnf))) rfl ?_
 refine wl_nil ⟨rfl, ?_⟩
 refine fl_nil (by kernel_rfl) trivial ?_
 refine then_go ?_
 refine wc_ret ?_
 exact ret1 rfl ⟨(st.keepOnly (l := []) (List.nil_sublist _)).touch, rfl⟩
structure Gath (N O : List (By × Value)) (k i : Nat) (T : List (By × Value)) : Prop where
 sub : ∀ x ∈ T, x ∈ N ∨ x ∈ O
 all : ∀ j, j < i → ∀ (h : (k + N.length - j) % N.length < N.length), N[(k + N.length - j) % N.length] ∈ T
 len : T.length ≤ 2 * i
theorem c_pagesBack {va vv vo : Value} {A V : List By} {O : List (By × Value)} {z : Int} (him : Im m wI) (ha : DigM m va A) (hv : DigM m vv V) (hO : PcsM m vo O) (hOx : ∀ x ∈ O, x.1.length ≤ 1000000000) (hA9 : A.length ≤ 9223372036854775807) (hV9 : V.length ≤ 9223372036854775807) :
  Ret Try.prog 7 #[va, vv, .int .i64 z, vo] wI fun v w' => Tch wI w' [] [] ∧ v = .bool true := by
 have st := St.start him
 obtain ⟨a1, c1, rfl⟩ := ha.sl
 obtain ⟨a2, c2, rfl⟩ := hv.sl
 obtain ⟨oa, oc, hvo⟩ : ∃ a c, vo = .slice a O.length c := by obtain ⟨⟨_, a, c, h, _⟩, _⟩ := hO; exact ⟨a, c, h⟩
 subst hvo
 refine ret_of Try.call7 Try.func7 rfl Try.ntmps7 Try.results7 rfl ?_
 refine wc_seq ?_
 refine wc_region ?_
 refine wl_val (v_assign' (by conv => (lhs; whnf))) rfl ?_
 refine wl_nil ?_
 refine then_go ?_
 refine wc_seq ?_
 refine wc_seq ?_
 refine wc_region ?_
 refine wl_val (v_move' (by conv => (lhs; whnf))) rfl ?_
 refine wl_call rfl (c_few17 st.im) rfl ?_
 rintro v18 w ⟨t18, rfl⟩
 have st := st.pure t18
 refine wl_val (v_not rfl) rfl ?_
 refine wl_val (v_move' (by conv => (lhs; whnf))) rfl ?_
 rcases Bool.eq_false_or_eq_true (!decide ((A.length : Int) ≤ 40)) with hg3 | hg3
 ·rw [hg3]
  refine wl_off rfl rfl rfl rfl ?_
  refine wl_off rfl rfl rfl rfl ?_
  refine wl_off rfl rfl rfl rfl ?_
  refine wl_val (v_pick rfl) rfl ?_
  refine wl_nil ?_
  refine then_go ?_
  refine wc_true rfl ?_
  refine wc_seq ?_
  refine wc_region ?_
  refine wl_call rfl (c_works17 st.im) rfl ?_
  rintro v25 w ⟨t25, rfl⟩
  have st := st.pure t25
  refine wl_val (v_assign' (by conv => (lhs; whnf))) rfl ?_
  refine wl_nil ?_
  refine then_go ?_
  refine wc_ret (then_ret ?_)
  exact ret1 rfl ⟨(st.keepOnly (l := []) (List.nil_sublist _)).touch, rfl⟩
 ·rw [hg3]
  refine wl_on rfl rfl ?_
  refine wl_val (v_move' (by conv => (lhs; whnf))) rfl ?_
  refine wl_on rfl rfl ?_
  refine wl_val (v_len_s Try.underlying29 rfl) rfl ?_
  refine wl_on rfl rfl ?_
  refine wl_val (v_gtr rfl rfl) rfl ?_
  refine wl_val (v_pick rfl) rfl ?_
  refine wl_nil ?_
  refine then_go ?_
  refine wc_cond rfl (fun h24 => ?_) (fun h24 => ?_)
  ·refine wc_seq ?_
   refine wc_region ?_
   refine wl_call rfl (c_works17 st.im) rfl ?_
   rintro v25 w ⟨t25, rfl⟩
   have st := st.pure t25
   refine wl_val (v_assign' (by conv => (lhs; whnf))) rfl ?_
   refine wl_nil ?_
   refine then_go ?_
   refine wc_ret (then_ret ?_)
   exact ret1 rfl ⟨(st.keepOnly (l := []) (List.nil_sublist _)).touch, rfl⟩
  ·refine wc_skip ?_
   refine then_go ?_
   refine wc_seq ?_
   refine wc_region ?_
   refine wl_val (v_move' (by conv => (lhs; whnf))) rfl ?_
   refine wl_val (v_move' (by conv => (lhs; whnf))) rfl ?_
   have hA : A.length ≤ 40 := by simp at hg3; omega
   have hO20 : O.length ≤ 20 := by simp at h24; omega
   have hz : (A.zip V).length ≤ 40 := by simp; omega
   have hol := length_ofLv (A.zip V)
   obtain ⟨hfD, hfU, hfd⟩ := ofLv_fine (d32_zip ha.1 hv.1)
   refine wl_call rfl (c_tof' st.im ha hv (by omega)) rfl ?_
   rintro v28 w ⟨t28, m1, hg1, hi1, p, rfl, hp⟩
   have st := st.grown hg1 t28 hi1
   have ha := ha.mono hg1.le
   have hv := hv.mono hg1.le
   have hO := hO.mono hg1.le
   obtain ⟨L, hL⟩ : ∃ L, L = ofLv (A.zip V) := ⟨_, rfl⟩
   rw [← hL] at hp hol hfD hfU hfd
   refine wl_val (v_assign' (by conv => (lhs; whnf))) rfl ?_
   refine wl_nil ?_
   refine then_go ?_
   refine wc_seq ?_
   refine wc_seq ?_
   refine wc_region ?_
   refine wl_val (v_move' (by conv => (lhs; whnf))) rfl ?_
   refine wl_val (v_eq_nil Try.underlying25 rfl rfl) rfl ?_
   refine wl_nil ?_
   refine then_go ?_
   refine wc_false rfl ?_
   refine wc_skip ?_
   refine then_go ?_
   refine wc_seq ?_
   refine wc_region ?_
   refine wl_val (v_move' (by conv => (lhs; whnf))) rfl ?_
   refine wl_call rfl (c_save st.im hp hfD hfU hfd (by omega)) rfl ?_
   rintro v33 w ⟨t33, m2, hg2, hi2, lv1, N, rfl, hN, hs1⟩
   have st := st.grown hg2 t33 hi2
   have ha := ha.mono hg2.le
   have hv := hv.mono hg2.le
   have hO := hO.mono hg2.le
   obtain ⟨na, nc, hlv1⟩ : ∃ a c, lv1 = .slice a N.length c := by obtain ⟨⟨_, a, c, h, _⟩, _⟩ := hN; exact ⟨a, c, h⟩
   subst hlv1
   have hNS : N.length = (sv 256 0 L).length := by rw [← hs1, List.length_map]
   have hN1 : 1 ≤ N.length := by rw [hNS, sv_eq]; simp
   have hNl : N.length ≤ 100000 := by have h := sv_len (g := 256) (d := 0) (L := L); omega
   have hok := sv_ok hfd hfD (g := 256) rfl
   have hNx : ∀ x ∈ N, x.1.length ≤ 1000000000 := fun x hx => by have := (hok x.1 (by rw [← hs1]; exact List.mem_map.2 ⟨x, hx, rfl⟩)).2; omega
   refine wl_val (v_move' (by conv => (lhs; whnf))) rfl ?_
   refine wl_val (v_extract rfl rfl) rfl ?_
   refine wl_val (v_extract rfl rfl) rfl ?_
   refine wl_alloc TF.z28 st rfl ?_
   intro b10 w st
   refine wl_storeW (cs := (bs (sum (pg1 256 0 L))).toArray) 0 st rfl TF.t28 rfl rfl (by rw [List.size_toArray, length_bs, length_sum]) rfl (one_bs _) ?_
   intro w st
   refine wl_val (v_assign' (by conv => (lhs; whnf))) rfl ?_
   refine wl_nil ?_
   refine then_go ?_
   refine wc_seq ?_
   refine wc_seq ?_
   refine wc_region ?_
   refine wl_val (v_move' (by conv => (lhs; whnf))) rfl ?_
   refine wl_val (v_len_s Try.underlying29 rfl) rfl ?_
   refine wl_val (v_eql rfl rfl) rfl ?_
   refine wl_nil ?_
   refine then_go ?_
   refine wc_false (congrArg Value.bool (decide_eq_false (by omega))) ?_
   refine wc_skip ?_
   refine then_go ?_
   refine wc_seq ?_
   obtain ⟨u, hu⟩ : ∃ u, u = IntKind.u64.wrap z := ⟨_, rfl⟩
   have hu0 : 0 ≤ u := by rw [hu, IntKind.wrap_u64]; omega
   obtain ⟨k, hk⟩ : ∃ k : Nat, u % (N.length : Int) = k := ⟨(u % (N.length : Int)).toNat, (Int.toNat_of_nonneg (Int.emod_nonneg _ (by omega))).symm⟩
   have hkl : k < N.length := by have := Int.emod_lt_of_pos u (show (0 : Int) < N.length by omega); omega
   refine wc_region ?_
   refine wl_val (v_move' (by conv => (lhs; whnf))) rfl ?_
   refine wl_val (v_to (v' := .int .u64 u) (v_conv Try.underlying3 Try.underlying39 rfl) (by rw [hu])) rfl ?_
   refine wl_val (v_move' (by conv => (lhs; whnf))) rfl ?_
   refine wl_val (v_len_s Try.underlying29 rfl) rfl ?_
   refine wl_val (v_to (v' := .int .u64 (N.length : Nat)) (v_conv Try.underlying3 Try.underlying39 rfl) (by rw [wrap_u64_small (by omega)])) rfl ?_
   refine wl_val (v_rem' rfl rfl hu0 (by omega) hk) rfl ?_
   refine wl_val (v_to (v' := .int .i64 (k : Nat)) (v_conv Try.underlying39 Try.underlying3 rfl) (by rw [wrap_i64 (by omega) (by omega)])) rfl ?_
   refine wl_val (v_assign' (by conv => (lhs; whnf))) rfl ?_
   refine wl_nil ?_
   refine then_go ?_
   refine wc_seq ?_
   refine wc_region ?_
   refine wl_val (v_assign' (by conv => (lhs; whnf))) rfl ?_
   refine wl_nil ?_
   refine then_go ?_
   refine wc_seq ?_
   refine wc_seq ?_
   refine wc_region ?_
   refine wl_val (v_assign' (by conv => (lhs; whnf))) rfl ?_
   refine wl_nil ?_
   refine then_go ?_
   refine wc_block ?_
   have st := nilRow st 37 1
   obtain ⟨d0, hd0⟩ : ∃ d0 : List Ent, d0 = [K.blk b10 (bs (sum (pg1 256 0 L))).toArray 28] := ⟨_, rfl⟩
   have st : St m m2 [] wI w (rowE (.slice none 0 0) 37 1 ([] : List (By × Value)).length (([] : List (By × Value)).map (·.2)) :: d0) := hd0 ▸ st
   refine wc_loop (S := Nat) (fun q r w' => ∃ (i : Nat) (v : Value) (T : List (By × Value)), q + i = N.length ∧ r 0 = .slice a1 A.length c1 ∧ r 1 = .slice a2 V.length c2 ∧ r 3 = .slice oa O.length oc ∧ r 10 = .pointer (some ⟨b10, 0, none⟩) ∧ r 11 = .slice na N.length nc ∧ r 12 = .int .i64 k ∧ r 13 = v ∧ r 14 = .int .i64 i ∧ Gath N O k i T ∧ St m m2 [] wI w' (rowE v 37 1 T.length (T.map (·.2)) :: d0)) id N.length ⟨0, _, [], by omega, rfl, rfl, rfl, rfl, rfl, rfl, rfl, rfl, ⟨by simp, by omega, by simp⟩, st⟩ ?_
   clear st
   rintro q r w2 ⟨i, v, T, hqi, g0, g1, g3, g10, g11, g12, g13, g14, hT, st⟩
   refine wc_o 0 g0 (wc_o 1 g1 (wc_o 3 g3 (wc_o 10 g10 (wc_o 11 g11 (wc_o 12 g12 (wc_o 13 g13 (wc_o 14 g14 ?_)))))))
   refine wc_seq ?_
   refine wc_seq ?_
   refine wc_region ?_
   refine wl_val (v_move' (by conv => (lhs; whnf))) rfl ?_
   refine wl_val (v_move' (by conv => (lhs; whnf))) rfl ?_
   refine wl_val (v_len_s Try.underlying29 rfl) rfl ?_
   refine wl_val (v_lss rfl rfl) rfl ?_
   refine wl_nil ?_
   refine then_go ?_
   refine wc_if rfl (fun h49 => ?_) (fun h49 => ?_)
   ·refine wc_skip ?_
    refine then_go ?_
    refine wc_seq ?_
    refine wc_block ?_
    refine wc_seq ?_
    have hi : i < N.length := by omega
    obtain ⟨j, hj⟩ : ∃ j, j = (k + N.length - i) % N.length := ⟨_, rfl⟩
    have hjl : j < N.length := by rw [hj]; exact Nat.mod_lt _ hN1
    have hjz : ((k : Int) + N.length - i) % N.length = j := by rw [hj, Int.natCast_emod]; congr 1; omega
    obtain ⟨nb, no, _, hnv, hsj, hrj⟩ := hN.elem hjl
    cases hnv
    obtain ⟨_, qa, qc, hqv, _⟩ := id hsj
    have hTl := hT.len
    refine wc_region ?_
    refine wl_val (v_move' (by conv => (lhs; whnf))) rfl ?_
    refine wl_val (v_move' (by conv => (lhs; whnf))) rfl ?_
    refine wl_val (v_move' (by conv => (lhs; whnf))) rfl ?_
    refine wl_val (v_move' (by conv => (lhs; whnf))) rfl ?_
    refine wl_val (v_len_s Try.underlying29 rfl) rfl ?_
    refine wl_val (v_add' rfl rfl rfl (by first | omega | (dsimp only at *; omega)) (by first | omega | (dsimp only at *; omega))) rfl ?_
    refine wl_val (v_move' (by conv => (lhs; whnf))) rfl ?_
    refine wl_val (v_sub' rfl rfl rfl (by first | omega | (dsimp only at *; omega)) (by first | omega | (dsimp only at *; omega))) rfl ?_
    refine wl_val (v_move' (by conv => (lhs; whnf))) rfl ?_
    refine wl_val (v_len_s Try.underlying29 rfl) rfl ?_
    refine wl_val (v_rem' rfl rfl (by omega) (by omega) hjz) rfl ?_
    refine wl_val (v_ias j Try.underlying29 TF.t37 rfl rfl (by first | rfl | omega) (by first | omega | (dsimp only at *; omega))) rfl ?_
    refine wl_val (v_load rfl (hrj st.im)) rfl ?_
    refine wl_svOne (v := N[j].2) Try.underlying29 TF.t37 TF.z37 (SlM.one1 hsj) rfl st rfl ?_
    intro b65 w st
    refine wl_append (news := [N[j].2]) 1 st rfl Try.underlying29 Try.underlying29 (.inr ⟨_, rfl⟩) TF.t37 TF.z37 rfl rfl rfl (st.srcArr (off := 0) 0 rfl rfl (fun j u hj => by simpa using hj) (fun u hu => by rw [List.mem_singleton.1 hu]; exact SlM.one1 hsj)) (by omega) (by omega) rfl ?_
    clear st
    intro v66 w _ st
    obtain ⟨T1, hT1⟩ : ∃ T1, T1 = T ++ [N[j]] := ⟨_, rfl⟩
    have st : St m m2 [] wI w (rowE v66 37 1 T1.length (T1.map (·.2)) :: d0) := by
     have e1 : T1.length = T.length + 1 := by rw [hT1, List.length_append]; rfl
     have e2 : T1.map (·.2) = T.map (·.2) ++ [N[j].2] := by rw [hT1, List.map_append]; rfl
     rw [e1, e2]
     exact st.drop 0
    have hG1 : Gath N O k (i + 1) T1 := by
     rw [hT1]
     refine ⟨fun x hx => ?_, fun a ha h => ?_, by rw [List.length_append]; show T.length + 1 ≤ _; omega⟩
     ·rcases List.mem_append.1 hx with hx | hx
      ·exact hT.sub x hx
      ·rw [List.mem_singleton.1 hx]; exact .inl (List.getElem_mem _)
     ·rcases Nat.lt_or_ge a i with h' | h'
      ·exact List.mem_append_left _ (hT.all a h' h)
      ·have : a = i := by omega
       subst this
       refine List.mem_append_right _ (List.mem_singleton.2 ?_)
       congr 1
       exact hj.symm
    have hT1l : T1.length = T.length + 1 := by rw [hT1, List.length_append]; rfl
    refine wl_val (v_assign' (by conv => (lhs; whnf))) rfl ?_
    refine wl_nil ?_
    refine then_go ?_
    refine wc_seq ?_
    refine wc_region ?_
    refine wl_val (v_move' (by conv => (lhs; whnf))) rfl ?_
    refine wl_val (v_move' (by conv => (lhs; whnf))) rfl ?_
    refine wl_val (v_len_s Try.underlying29 rfl) rfl ?_
    refine wl_val (v_lss rfl rfl) rfl ?_
    refine wl_nil ?_
    refine then_go ?_
    refine wc_cond rfl (fun h70 => ?_) (fun h70 => ?_)
    ·refine wc_seq ?_
     refine wc_seq ?_
     have hiO : i < O.length := by simp at h70; omega
     obtain ⟨ob, oo, _, hov, hso, hro⟩ := hO.elem hiO
     cases hov
     refine wc_region ?_
     refine wl_val (v_move' (by conv => (lhs; whnf))) rfl ?_
     refine wl_val (v_move' (by conv => (lhs; whnf))) rfl ?_
     refine wl_val (v_ias i Try.underlying29 TF.t37 rfl rfl (by first | rfl | omega) (by first | omega | (dsimp only at *; omega))) rfl ?_
     refine wl_val (v_load rfl (hro st.im)) rfl ?_
     refine wl_val (v_move' (by conv => (lhs; whnf))) rfl ?_
     refine wl_call rfl (c_clash st.im hN hso hNx (hOx _ (List.getElem_mem hiO)) (by omega)) rfl ?_
     rintro v76 w ⟨t76, ⟨c76, rfl, _⟩⟩
     have st := st.pure t76
     refine wl_nil ?_
     refine then_go ?_
     refine wc_cond rfl (fun h76 => ?_) (fun h76 => ?_)
     ·refine wc_seq ?_
      refine wc_region ?_
      refine wl_call rfl (c_works17 st.im) rfl ?_
      rintro v77 w ⟨t77, rfl⟩
      have st := st.pure t77
      refine wl_val (v_assign' (by conv => (lhs; whnf))) rfl ?_
      refine wl_nil ?_
      refine then_go ?_
      refine wc_ret (then_ret (block_ret (then_ret (then_ret (block_ret (then_ret ?_))))))
      exact ret1 rfl ⟨(st.keepOnly (l := []) (List.nil_sublist _)).touch, rfl⟩
     ·refine wc_skip ?_
      refine then_go ?_
      refine wc_region ?_
      refine wl_val (v_move' (by conv => (lhs; whnf))) rfl ?_
      refine wl_val (v_move' (by conv => (lhs; whnf))) rfl ?_
      refine wl_val (v_move' (by conv => (lhs; whnf))) rfl ?_
      refine wl_val (v_ias i Try.underlying29 TF.t37 rfl rfl (by first | rfl | omega) (by first | omega | (dsimp only at *; omega))) rfl ?_
      refine wl_val (v_load rfl (hro st.im)) rfl ?_
      refine wl_svOne (v := O[i].2) Try.underlying29 TF.t37 TF.z37 (SlM.one1 hso) rfl st rfl ?_
      intro b83 w st
      refine wl_append (news := [O[i].2]) 1 st rfl Try.underlying29 Try.underlying29 (.inr ⟨_, rfl⟩) TF.t37 TF.z37 rfl rfl rfl (st.srcArr (off := 0) 0 rfl rfl (fun j u hj => by simpa using hj) (fun u hu => by rw [List.mem_singleton.1 hu]; exact SlM.one1 hso)) (by omega) (by omega) rfl ?_
      clear st
      intro v84 w _ st
      obtain ⟨T2, hT2⟩ : ∃ T2, T2 = T1 ++ [O[i]] := ⟨_, rfl⟩
      have st : St m m2 [] wI w (rowE v84 37 1 T2.length (T2.map (·.2)) :: d0) := by
       have e1 : T2.length = T1.length + 1 := by rw [hT2, List.length_append]; rfl
       have e2 : T2.map (·.2) = T1.map (·.2) ++ [O[i].2] := by rw [hT2, List.map_append]; rfl
       rw [e1, e2]
       exact st.drop 0
      have hG2 : Gath N O k (i + 1) T2 := by
       rw [hT2]
       refine ⟨fun x hx => ?_, fun a ha h => List.mem_append_left _ (hG1.all a ha h), by rw [List.length_append]; show T1.length + 1 ≤ _; omega⟩
       rcases List.mem_append.1 hx with hx | hx
       ·exact hG1.sub x hx
       ·rw [List.mem_singleton.1 hx]; exact .inr (List.getElem_mem _)
      refine wl_val (v_assign' (by conv => (lhs; whnf))) rfl ?_
      refine wl_nil ?_
      refine block_go (then_go ?_)
      refine wc_region ?_
      refine wl_val (v_move' (by conv => (lhs; whnf))) rfl ?_
      refine wl_val (v_add' (c := ((i + 1 : Nat) : Int)) rfl rfl (by omega) (by omega) (by omega)) rfl ?_
      refine wl_val (v_assign' (by conv => (lhs; whnf))) rfl ?_
      refine wl_nil ?_
      refine then_go ?_
      first
      | exact ⟨q - 1, by simp; omega, i + 1, _, T2, by omega, rfl, rfl, rfl, rfl, rfl, rfl, rfl, rfl, hG2, st⟩
      | exact ⟨q - 1, by simp; omega, i + 1, _, T1, by omega, rfl, rfl, rfl, rfl, rfl, rfl, rfl, rfl, hG1, st⟩
    ·refine wc_skip ?_
     refine block_go (then_go ?_)
     refine wc_region ?_
     refine wl_val (v_move' (by conv => (lhs; whnf))) rfl ?_
     refine wl_val (v_add' (c := ((i + 1 : Nat) : Int)) rfl rfl (by omega) (by omega) (by omega)) rfl ?_
     refine wl_val (v_assign' (by conv => (lhs; whnf))) rfl ?_
     refine wl_nil ?_
     refine then_go ?_
     first
     | exact ⟨q - 1, by simp; omega, i + 1, _, T2, by omega, rfl, rfl, rfl, rfl, rfl, rfl, rfl, rfl, hG2, st⟩
     | exact ⟨q - 1, by simp; omega, i + 1, _, T1, by omega, rfl, rfl, rfl, rfl, rfl, rfl, rfl, rfl, hG1, st⟩
   ·refine wc_exit (then_exit (then_exit (block_hit ?_)))
    refine then_go ?_
    refine wc_seq ?_
    refine wc_seq ?_
    have hiN : i = N.length := by omega
    subst hiN
    subst hd0
    obtain ⟨ta, tc, hvt⟩ := row_sl (st.at (i := 0) rfl)
    subst hvt
    have hTl := hT.len
    have hTx : ∀ x ∈ T, x.1.length ≤ 1000000000 := fun x hx => (hT.sub x hx).elim (hNx x) (hOx x)
    have hTM : ∀ {w' : World}, St m m2 [] wI w' [rowE (.slice ta T.length tc) 37 1 T.length (T.map (·.2)), K.blk b10 (bs (sum (pg1 256 0 L))).toArray 28] → PcsM (heapM w') (.slice ta T.length tc) T := fun st => ⟨row_SlM (m := heapM _) (st.at (i := 0) rfl) (fun _ _ _ h => h), fun x hx => ((hT.sub x hx).elim (hN.2 x) (hO.2 x)).mono fun q o h => st.im q o h⟩
    refine wc_region ?_
    refine wl_val (v_move' (by conv => (lhs; whnf))) rfl ?_
    refine wl_call rfl (c_any17 (im_heapM _) (hTM st) hTx (by omega)) rfl ?_
    rintro v86 w ⟨t86, c86, rfl, hany⟩
    have st := st.pure t86
    refine wl_nil ?_
    refine then_go ?_
    refine wc_cond rfl (fun h86 => ?_) (fun h86 => ?_)
    ·refine wc_seq ?_
     refine wc_region ?_
     refine wl_call rfl (c_works17 st.im) rfl ?_
     rintro v87 w ⟨t87, rfl⟩
     have st := st.pure t87
     refine wl_val (v_assign' (by conv => (lhs; whnf))) rfl ?_
     refine wl_nil ?_
     refine then_go ?_
     refine wc_ret (then_ret ?_)
     exact ret1 rfl ⟨(st.keepOnly (l := []) (List.nil_sublist _)).touch, rfl⟩
    ·refine wc_skip ?_
     refine then_go ?_
     refine wc_seq ?_
     refine wc_region ?_
     refine wl_val (v_load rfl (st.reads (v := arr (sum (pg1 256 0 L))) 1 rfl TF.t28 (getV_all (by rw [List.size_toArray, length_bs, length_sum])))) rfl ?_
     refine wl_val (v_move' (by conv => (lhs; whnf))) rfl ?_
     have hS : ∀ p ∈ sv 256 0 L, p ∈ T.map (·.1) := fun p hp => by
      rw [← hs1] at hp
      obtain ⟨y, hy, rfl⟩ := List.mem_map.1 hp
      obtain ⟨c, hc, rfl⟩ := List.getElem_of_mem hy
      obtain ⟨i, hi, he⟩ := turn_at hkl hc
      have := hT.all i hi (Nat.mod_lt _ hN1)
      exact List.mem_map.2 ⟨_, this, by simp only [he]⟩
     have hfull := full_map (hany h86) hS
     have hld := (ld_back hfD hfU hfd (fun q hq => .inr (hfull q hq))).1 hfull
     refine wl_call rfl (c_load (d := sum (pg1 256 0 L)) (im_heapM _) (length_sum _) (hTM st) hTx (by omega) (by rw [hld]; show L.length ≤ _; omega)) rfl ?_
     rintro v91 w ⟨t91, m3, hg3, hi3, hv91⟩
     unfold LdOut at hv91
     rw [hld, if_neg (fun h => h rfl), ofLv_self hfD hfU hfd, if_pos rfl] at hv91
     obtain ⟨p2, rfl, hp2⟩ := hv91
     have hlv : (∀ k o, m2 k = some o → m3 k = some o) := fun k o h => hg3.le k o (st.im k o h)
     have st := st.pure t91
     have ha := ha.mono hlv
     have hv := hv.mono hlv
     refine wl_val (v_move' (by conv => (lhs; whnf))) rfl ?_
     refine wl_val (v_extract rfl rfl) rfl ?_
     refine wl_val (v_extract rfl rfl) rfl ?_
     refine wl_val (v_assign' (by conv => (lhs; whnf))) rfl ?_
     refine wl_val (v_assign' (by conv => (lhs; whnf))) rfl ?_
     refine wl_nil ?_
     refine then_go ?_
     refine wc_seq ?_
     refine wc_region ?_
     refine wl_val (v_move' (by conv => (lhs; whnf))) rfl ?_
     refine wl_val (v_eqlT rfl rfl rfl) rfl ?_
     refine wl_val (v_move' (by conv => (lhs; whnf))) rfl ?_
     refine wl_on rfl rfl ?_
     refine wl_val (v_move' (by conv => (lhs; whnf))) rfl ?_
     refine wl_on rfl rfl ?_
     refine wl_val (v_move' (by conv => (lhs; whnf))) rfl ?_
     refine wl_on rfl rfl ?_
     refine wl_val (v_move' (by conv => (lhs; whnf))) rfl ?_
     refine wl_on rfl rfl ?_
     refine wl_call rfl (c_rof hi3 ha hv (Nat.le_trans hA (by decide)) hV9) rfl ?_
     rintro v100 w ⟨t100, m4, hg4, hi4, hl⟩
     have st := st.pure t100
     have hp2 := hp2.mono hg4.le
     rw [← hL] at hl
     refine wl_on rfl rfl ?_
     refine wl_call rfl (c_lsame hi4 hp2 hl hfD (by omega)) rfl ?_
     rintro v101 w ⟨t101, rfl⟩
     have st := st.pure t101
     refine wl_val (v_pick rfl) rfl ?_
     refine wl_val (v_move' (by conv => (lhs; whnf))) rfl ?_
     refine wl_on rfl rfl ?_
     refine wl_call rfl (c_works17 st.im) rfl ?_
     rintro v104 w ⟨t104, rfl⟩
     have st := st.pure t104
     refine wl_val (v_pick rfl) rfl ?_
     refine wl_val (v_assign' (by conv => (lhs; whnf))) rfl ?_
     refine wl_nil ?_
     refine then_go ?_
     refine wc_ret ?_
     exact ret1 rfl ⟨(st.keepOnly (l := []) (List.nil_sublist _)).touch, rfl⟩
end
end Go.Proofs.Ytonlmjpenonabaa

namespace Go.Proofs.Ytonlmjpenonabaa
open Go Go.ChangeShapes Go.WideShapes Go.ChangeAt Go.RowKit K SH PT
theorem Try.ownpe : ownKnob Try.prog.godebug = none := by kernel_rfl
theorem Try.laidOutpe : laidOutB Try.prog = true := by kernel_rfl
theorem Try.trodAllpe {H : Type} {enc : TypeId × Value → H} {w : World} {held : Bool} {P : Program} {base : Nat} {spare : Nat → Bool} {t0 t1 t2 t3 : TypeId} {args : Array Value} {ds : List (DataW H)} {ps : List MemPlace} (h : DataW.TrodAll enc P w base spare held [t0, t1, t2, t3] args.toList ds ps) :
  ∃ v0 v1 v2 v3 d0 d1 d2 d3 p0 p1 p2 p3, args = #[v0, v1, v2, v3] ∧ ds = [d0, d1, d2, d3] ∧ ps = p0 ++ p1 ++ p2 ++ p3 ∧ DataW.Trod enc P w base spare held t0 v0 d0 p0 ∧ DataW.Trod enc P w base spare held t1 v1 d1 p1 ∧ DataW.Trod enc P w base spare held t2 v2 d2 p2 ∧ DataW.Trod enc P w base spare held t3 v3 d3 p3 := by
 obtain ⟨v0, vs0, d0, ds0, p0, q0, hargs, rfl, rfl, hd0, h⟩ := trodAll_cons h
 obtain ⟨v1, vs1, d1, ds1, p1, q1, rfl, rfl, rfl, hd1, h⟩ := trodAll_cons h
 obtain ⟨v2, vs2, d2, ds2, p2, q2, rfl, rfl, rfl, hd2, h⟩ := trodAll_cons h
 obtain ⟨v3, vs3, d3, ds3, p3, q3, rfl, rfl, rfl, hd3, h⟩ := trodAll_cons h
 obtain ⟨rfl, rfl, rfl⟩ := trodAll_nil h
 exact ⟨v0, v1, v2, v3, d0, d1, d2, d3, p0, p1, p2, p3, by cases args; simp_all, rfl, by simp, hd0, hd1, hd2, hd3⟩
set_option maxRecDepth 100000 in
theorem pagesBack_lifted (os : Os) (started : os.Started) (H : Type) (enc : TypeId × Value → H) (Fi : Stop.Interp) :
  ReturnsInHanded {} Try.checked os 7 .any ((Rows.OpenSpec.upto Rows.pagesBackSpec).pre6 enc Try.prog Try.f7 Rows.pagesBackUptoRow.domain false) (((Rows.OpenSpec.upto Rows.pagesBackSpec).at Fi).post enc Try.prog Try.f7 false true false false) := by
 refine returnsInHanded_of_cond (C := Try.checked) (s := (Rows.OpenSpec.upto Rows.pagesBackSpec)) (k := Rows.uptoSmall) rfl Try.ownpe started (by kernel_rfl) Try.func7
  (OpenSpec.witness (enc := enc) (C := Try.checked) (s := (Rows.OpenSpec.upto Rows.pagesBackSpec)) (k := Rows.uptoSmall) rfl false ⟨#[], #[.slice none 0 0, .slice none 0 0, .int .i64 0, .slice none 0 0], []⟩ 12 (by kernel_rfl) (by kernel_rfl) (by kernel_rfl) (x := ([.nil, .nil, .lit (.int .i64 0), .nil], [], [])) (by kernel_rfl) rfl (by kernel_rfl)) ?_
 intro W base args ds gs before hval0 hW _ hk _
 have hval : ∀ (j : Nat) t v, Try.f7.params[j]? = some t → args[j]? = some v → Value.okWide Try.prog W .any base t v := hval0
 have hW' := hW
 obtain ⟨p, q, hA0, hV, rfl, hfz, hnd⟩ := hW
 have hkb := bulk_of hk
 have hA : DataW.TrodAll enc Try.prog W 0 (fun _ => true) true Try.f7.params.toList args.toList ds p := hA0
 rw [Try.params7] at hA hval
 obtain ⟨v0, v1, v2, v3, d0, d1, d2, d3, p0, p1, p2, p3, rfl, rfl, rfl, h0, h1, h2, h3⟩ := Try.trodAllpe hA
 obtain ⟨fu0, hf0⟩ := h0
 obtain ⟨sa0, sl0, sc0, rfl⟩ := okWide_slice Try.underlying22 (hval 0 22 v0 rfl rfl)
 obtain ⟨l0, hl0, hn0⟩ := open_digs hf0
 obtain ⟨fu1, hf1⟩ := h1
 obtain ⟨sa1, sl1, sc1, rfl⟩ := okWide_slice Try.underlying22 (hval 1 22 v1 rfl rfl)
 obtain ⟨l1, hl1, hn1⟩ := open_digs hf1
 obtain ⟨a2, rfl, rfl, rfl, wa2⟩ := open_int Try.underlying3 (hval 2 3 v2 rfl rfl) h2
 obtain ⟨fu3, hf3⟩ := h3
 obtain ⟨sa3, sl3, sc3, rfl⟩ := okWide_slice Try.underlying29 (hval 3 29 v3 rfl rfl)
 have hb3 := hkb d3 (by simp)
 obtain ⟨l3, hl3, hu3⟩ := open_rowsB hf3
 refine Calls.mono (P := Try.prog) (c_pagesBack (im_heapM W) hl0 hl1 hl3 (fun x hx => Nat.le_trans (hu3.1 x hx) (Nat.le_trans hb3 (by decide))) hn0 hn1).2 fun e W1 ⟨v, he, t, hv⟩ => ?_
 subst hv
 subst he
 exact ⟨_, rfl, post_true Try.laidOutpe (by kernel_rfl) rfl hW' t rfl rfl Try.underlying4⟩
theorem pagesBackUpto_holds : Rows.PagesBackUptoSaid :=
 OpenClaim.holds_of_cond 7 Try.f7 rfl rfl rfl rfl rfl rfl rfl ⟨rfl, rfl, rfl, rfl, rfl⟩ rfl rfl rfl rfl rfl (by kernel_rfl) Try.func7 (by kernel_rfl)
  (of_decide_eq_true (by kernel_rfl)) (by unfold Func.isWrapper; first | (rw [if_pos (by decide +kernel)]; kernel_rfl) | (rw [if_neg (by decide +kernel)]; exact ⟨rfl, rfl⟩))
  (fun os started H enc _ Fi => pagesBack_lifted os started H enc Fi)
end Go.Proofs.Ytonlmjpenonabaa
