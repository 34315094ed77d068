/-
  Several texts as one: Eh Ei Ej Ek Ba El Em La Ee Ef En Ia Ha Zj Zk Lay Hb Bb Ib Ic Iu Ep.
-/
import Derived.Lib.BytesEntry
import Derived.Laws.Externs
import Derived.Shelf.SlSortCmp.NoneTotal
import Derived.Lib.Bytealg
import Derived.Shelf.SlLaysF0
import Derived.Test.YtonlmjpenonabaaProg
import Derived.Tactics
import Derived.Tactics2
import Derived.Test.YtonlmjpenonabaaAgain3

namespace Go.Proofs.Ytonlmjpenonabaa
open Go Go.RowKit K SH PT
abbrev PgMap := List (By × (By × Value))
def pgM (MM : PgMap) (d : By) : Option By := (getKV d MM).map (·.1)
def pgF (M : By → Option By) (rd : By → By → Nat → List (By × By) → Nat → By × List (By × By) × Nat) (d p : By) (n : Nat) (l : List (By × By)) (e : Nat) : List (By × By) × Nat :=
 if e ≠ 0 then (l, e) else
 match M d with
 | none => (l, failE e 7)
 | some b =>
  if 0 < b.length ∧ b.headD 0 = 3 then (l, failE e 15) else
  if 0 < (rd b p n l e).1.length ∨ (0 < n ∧ (rd b p n l e).2.1.length < l.length + 2) then ((rd b p n l e).2.1, failE (rd b p n l e).2.2 15) else (rd b p n l e).2
def rdF (M : By → Option By) : Nat → By → By → Nat → List (By × By) → Nat → By × List (By × By) × Nat
 | 0, _, _, _, l, e => ([], l, e)
 | _ + 1, [], _, _, l, e => ([], l, failE e 15)
 | g + 1, k :: b, p, n, l, e =>
  if e ≠ 0 ∨ 256 < n then ([], l, failE e 15) else
  if k = 0 then (b, l, e) else
  if k = 1 then
   ((dgF (dgF b e).2.1 (dgF b e).2.2).2.1, l ++ [((dgF b e).1, (dgF (dgF b e).2.1 (dgF b e).2.2).1)],
    if n ≤ common (dgF b e).1 p then (dgF (dgF b e).2.1 (dgF b e).2.2).2.2 else failE (dgF (dgF b e).2.1 (dgF b e).2.2).2.2 15) else
  if k = 2 then
   rdF M g (rdF M g b (setB p n false) (n + 1) l e).1 (setB p n true) (n + 1) (rdF M g b (setB p n false) (n + 1) l e).2.1 (rdF M g b (setB p n false) (n + 1) l e).2.2 else
  if k = 3 then
   ((dgF b e).2.1, pgF M (rdF M g) (dgF b e).1 p n l (dgF b e).2.2) else
  (b, l, failE e 15)
theorem pgF_grow {M : By → Option By} {rd : By → By → Nat → List (By × By) → Nat → By × List (By × By) × Nat} {d p : By} {n : Nat} {l : List (By × By)} {e : Nat} (h : ∀ b p n e, l.length ≤ (rd b p n l e).2.1.length) : l.length ≤ (pgF M rd d p n l e).1.length := by
 unfold pgF
 split
 ·exact Nat.le_refl _
 ·split
  ·exact Nat.le_refl _
  ·split
   ·exact Nat.le_refl _
   ·split <;> exact h _ _ _ _
theorem rdF_grow {M : By → Option By} : ∀ {g : Nat} {b p : By} {n : Nat} {l : List (By × By)} {e : Nat}, l.length ≤ (rdF M g b p n l e).2.1.length
 | 0, _, _, _, _, _ => Nat.le_refl _
 | _ + 1, [], _, _, _, _ => Nat.le_refl _
 | g + 1, k :: b, p, n, l, e => by
  unfold rdF
  split
  ·exact Nat.le_refl _
  ·split
   ·exact Nat.le_refl _
   ·split
    ·simp
    ·split
     ·exact Nat.le_trans (rdF_grow (g := g)) (rdF_grow (g := g))
     ·split
      ·exact pgF_grow fun _ _ _ _ => rdF_grow (g := g)
      ·exact Nat.le_refl _
section
variable {M : By → Option By} {rd : By → By → Nat → List (By × By) → Nat → By × List (By × By) × Nat} {d p b : By} {n : Nat} {l : List (By × By)} {e : Nat}
theorem pgF_err (h : e ≠ 0) : pgF M rd d p n l e = (l, e) := by rw [pgF, if_pos h]
theorem pgF_none (h : e = 0) (hM : M d = none) : pgF M rd d p n l e = (l, failE e 7) := by rw [pgF, if_neg (by simpa using h), hM]
theorem pgF_link (h : e = 0) (hM : M d = some b) (hb : 0 < b.length ∧ b.headD 0 = 3) : pgF M rd d p n l e = (l, failE e 15) := by rw [pgF, if_neg (by simpa using h), hM]; exact if_pos hb
theorem pgF_bad (h : e = 0) (hM : M d = some b) (hb : ¬ (0 < b.length ∧ b.headD 0 = 3)) (hq : 0 < (rd b p n l e).1.length ∨ (0 < n ∧ (rd b p n l e).2.1.length < l.length + 2)) : pgF M rd d p n l e = ((rd b p n l e).2.1, failE (rd b p n l e).2.2 15) := by
 rw [pgF, if_neg (by simpa using h), hM]; exact (if_neg hb).trans (if_pos hq)
theorem pgF_ok (h : e = 0) (hM : M d = some b) (hb : ¬ (0 < b.length ∧ b.headD 0 = 3)) (hq : ¬ (0 < (rd b p n l e).1.length ∨ (0 < n ∧ (rd b p n l e).2.1.length < l.length + 2))) : pgF M rd d p n l e = (rd b p n l e).2 := by
 rw [pgF, if_neg (by simpa using h), hM]; exact (if_neg hb).trans (if_neg hq)
end
theorem dgF_rest {b : By} {e : Nat} : (dgF b e).2.1.length ≤ b.length := by
 unfold dgF; split <;> simp
theorem rdF_rest {M : By → Option By} : ∀ {g : Nat} {b p : By} {n : Nat} {l : List (By × By)} {e : Nat}, (rdF M g b p n l e).1.length ≤ b.length
 | 0, _, _, _, _, _ => Nat.zero_le _
 | _ + 1, [], _, _, _, _ => Nat.le_refl _
 | g + 1, k :: b, p, n, l, e => by
  unfold rdF
  split
  ·exact Nat.zero_le _
  ·split
   ·simp
   ·split
    ·exact Nat.le_trans dgF_rest (Nat.le_trans dgF_rest (by simp))
    ·split
     ·exact Nat.le_trans (rdF_rest (g := g)) (Nat.le_trans (rdF_rest (g := g)) (by simp))
     ·split
      ·exact Nat.le_trans dgF_rest (by simp)
      ·simp
structure PgOk (m : Mem) (mb : Nat) (MM : PgMap) : Prop where
 map : MapM m arr (fun x : By × Value => x.2) mb MM
 len : ∀ x ∈ MM, x.1.length = 32
 text : ∀ x ∈ MM, SlM m x.2.2 1 x.2.1.length (bs x.2.1) ∧ x.2.1.length ≤ 1000000000
theorem PgOk.mono {m m' : Mem} {mb : Nat} {MM : PgMap} (h : PgOk m mb MM) (hm : ∀ k o, m k = some o → m' k = some o) : PgOk m' mb MM := ⟨h.map.mono hm, h.len, fun x hx => ⟨(h.text x hx).1.mono hm, (h.text x hx).2⟩⟩
theorem dig_keyT : KeyT Try.prog 28 arr fun l => l.length = 32 :=
 arr_keyT Try.underlying28 Try.underlying5 (by decide +kernel) (by decide +kernel) (by decide +kernel) (by decide +kernel) (by decide +kernel) (by decide +kernel)
theorem v_mapGet2 {P : Program} {α β : Type} [DecidableEq α] {kv : α → Value} {vv : β → Value} {b : Nat} {L : List (α × β)} {KT VT T : TypeId} {ok : α → Prop} {m : Mem} {w : World} {r : Fr} {ty : TypeId} {x y : Operand} {kk : α} {z u : Value} {o : Bool} (hM : MapM m kv vv b L) (him : Im m w) (K : KeyT P KT kv ok) (hT : P.underlying T = some (.map KT VT)) (hz : TyZ P VT z) (hok : ∀ x ∈ L, ok x.1) (hk : ok kk) (hx : ev r x = .map (some b)) (hy : ev r y = kv kk)
  (hu : ((getKV kk L).map vv).getD z = u) (ho : (getKV kk L).isSome = o) : Val P (.lookup T x y true) ty r w (.tuple #[u, .bool o]) w := by
 subst hu; subst ho
 exact v_mapGet hM him K hT hz hok hk hx hy
abbrev rdL (rb mb : Nat) (lv : Value) (l : List (By × By)) (e : Nat) : List Ent := [rdB rb mb lv e, lsE 72 64 prC2 lv l]
def need (n : Nat) (b : By) : Nat := 2 * (257 - n) + 1 + (if b.headD 0 = 3 then 1 else 0)
def RdOut (w w' : World) (foot : List Nat) (rb mb : Nat) (x : List (By × By) × Nat) : Prop :=
 ∃ lv', Tch w w' foot (joinE (rdL rb mb lv' x.1 x.2)).foot ∧ (joinE (rdL rb mb lv' x.1 x.2)).holds w'
def RdC (MM : PgMap) (g : Nat) : Prop := ∀ {b p : By} {n : Nat} {l : List (By × By)} {e rb mb : Nat} {lv bv : Value} {m : Mem} {w : World}, Im m w → PgOk m mb MM → (joinE (rdL rb mb lv l e)).holds w → (∀ k ∈ (joinE (rdL rb mb lv l e)).foot, m k = none) → SlM m bv 1 b.length (bs b) → b.length ≤ 1000000000 → p.length = 32 → n ≤ 257 → need n b ≤ g → (rdF (pgM MM) g b p n l e).2.1.length ≤ 1000000000 →
 Ret Try.prog 64 #[.pointer (some ⟨rb, 0, none⟩), bv, arr p, .int .i64 n] w fun v' w' => RdOut w w' (joinE (rdL rb mb lv l e)).foot rb mb (rdF (pgM MM) g b p n l e).2 ∧ SlM m v' 1 (rdF (pgM MM) g b p n l e).1.length (bs (rdF (pgM MM) g b p n l e).1)
theorem rd_out {m : Mem} {F : List Nat} {wI w : World} {rb mb : Nat} {x : List (By × By) × Nat} {lv' : Value} {A B : Ent} (st : St m m F wI w [A, B, rdB rb mb lv' x.2, lsE 72 64 prC2 lv' x.1]) : RdOut wI w F rb mb x :=
 have st2 : St m m F wI w (rdL rb mb lv' x.1 x.2) := (st.drop 0).drop 0
 ⟨lv', (St.finish (Es := []) (l := rdL rb mb lv' x.1 x.2) st2).1, (St.finish (Es := []) (l := rdL rb mb lv' x.1 x.2) st2).2⟩
section
variable {m : Mem} {wI : World}
theorem c_rpage {MM : PgMap} {g : Nat} {d p : By} {n : Nat} {l : List (By × By)} {e rb mb : Nat} {lv : Value} (hrd : RdC MM g) (him : Im m wI) (hM : PgOk m mb MM) (hE : (joinE (rdL rb mb lv l e)).holds wI) (hm : ∀ k ∈ (joinE (rdL rb mb lv l e)).foot, m k = none) (hd : d.length = 32) (hp : p.length = 32) (hn : n ≤ 257) (hg : 2 * (257 - n) + 1 ≤ g) (hl : (pgF (pgM MM) (rdF (pgM MM) g) d p n l e).1.length ≤ 1000000000) :
  Ret Try.prog 39 #[.pointer (some ⟨rb, 0, none⟩), arr d, arr p, .int .i64 n] wI fun _ w' => RdOut wI w' (joinE (rdL rb mb lv l e)).foot rb mb (pgF (pgM MM) (rdF (pgM MM) g) d p n l e) := by
 have st := St.begin him hE hm
 have hl0 : l.length ≤ 1000000000 := Nat.le_trans (pgF_grow fun _ _ _ _ => rdF_grow) hl
 obtain ⟨la, lc, hlv⟩ := row_sl (st.at (i := 1) rfl)
 subst hlv
 refine ret_of Try.call39 Try.func39 rfl Try.ntmps39 Try.results39 rfl ?_
 refine wc_seq ?_
 refine wc_region ?_
 refine wl_box (v := arr d) rfl st rfl ?_
 intro b5 w st
 refine wl_box (v := arr p) rfl st rfl ?_
 intro b6 w st
 refine wl_nil ?_
 refine then_go ?_
 refine wc_seq ?_
 rcases hgk : getKV d MM with _ | ⟨bt, bw⟩
 ·refine wc_draw TF.mixed ?_
  have st := st.pure (touch_drew _)
  refine fl_val 0 rfl (fun _ => (v_move' (by conv => (lhs; whnf)))) rfl (by kernel_rfl) ?_
  refine fl_val 1 rfl (fun _ => (v_nil rfl)) rfl (by kernel_rfl) ?_
  refine fl_val 2 rfl (fun _ => (v_fa TF.f84_0 rfl)) rfl (by kernel_rfl) ?_
  refine fl_ld 3 rfl (v_load rfl (st.reads 2 rfl TF.t82 rfl)) (by kernel_rfl) ?_
  refine fl_ld 4 rfl (v_load rfl (st.reads (v := arr d) 1 rfl TF.t28 (getV_all (by rw [size_arr]; exact hd)))) (by kernel_rfl) ?_
  refine fl_ld 5 rfl (v_mapGet2 hM.map st.im dig_keyT Try.underlying82 TF.z37 hM.len hd rfl rfl (u := .slice none 0 0) (o := false) (by rw [hgk]; rfl) (by rw [hgk]; rfl)) (by kernel_rfl) ?_
  refine fl_val 6 rfl (fun _ => (v_move' (by conv => (lhs; whnf)))) rfl (by kernel_rfl) ?_
  refine fl_val 7 rfl (fun _ => (v_extract rfl rfl)) rfl (by kernel_rfl) ?_
  refine fl_val 8 rfl (fun _ => (v_extract rfl rfl)) rfl (by kernel_rfl) ?_
  refine fl_eff1 9 [8] [] (by kernel_rfl) ⟨obl_ld rfl rfl rfl (v_mapGet2 hM.map st.im dig_keyT Try.underlying82 TF.z37 hM.len hd rfl rfl (u := .slice none 0 0) (o := false) (by rw [hgk]; rfl) (by rw [hgk]; rfl)), obl_ld rfl rfl rfl (v_load rfl (st.reads (v := arr d) 1 rfl TF.t28 (getV_all (by rw [size_arr]; exact hd)))), obl_ld rfl rfl rfl (v_load rfl (st.reads 2 rfl TF.t82 rfl)), trivial⟩ rfl ?_
  refine wl_val (v_assign' (by conv => (lhs; whnf))) rfl ?_
  refine wl_nil ⟨rfl, ?_⟩
  refine fl_eff1 10 [] [] (by kernel_rfl) trivial rfl ?_
  refine wl_val (v_assign' (by conv => (lhs; whnf))) rfl ?_
  refine wl_nil ⟨rfl, ?_⟩
  refine fl_nil (by kernel_rfl) trivial ?_
  refine then_go ?_
  refine wc_seq ?_
  refine wc_region ?_
  refine wl_val (v_move' (by conv => (lhs; whnf))) rfl ?_
  refine wl_val (v_nil rfl) rfl ?_
  refine wl_val (v_fa TF.f84_1 rfl) rfl ?_
  refine wl_val (v_load rfl (st.reads 2 rfl TF.t67 rfl)) rfl ?_
  refine wl_val (v_len_s Try.underlying67 rfl) rfl ?_
  refine wl_val (v_assign' (by conv => (lhs; whnf))) rfl ?_
  refine wl_nil ?_
  refine then_go ?_
  refine wc_seq ?_
  refine wc_block ?_
  refine wc_seq ?_
  refine wc_region ?_
  refine wl_val (v_move' (by conv => (lhs; whnf))) rfl ?_
  refine wl_val (v_nil rfl) rfl ?_
  refine wl_val (v_fa TF.f84_2 rfl) rfl ?_
  refine wl_val (v_load rfl (st.reads 2 rfl TF.t41 rfl)) rfl ?_
  refine wl_val (v_neq rfl rfl) rfl ?_
  refine wl_val (v_assign' (by conv => (lhs; whnf))) rfl ?_
  refine wl_nil ?_
  refine then_go ?_
  refine wc_cond rfl (fun h25 => ?_) (fun h25 => ?_)
  ·refine wc_ret (block_ret (then_ret ?_))
   exact ret0 (by rw [pgF_err (by simpa using h25)]; exact rd_out st)
  ·refine wc_seq ?_
   refine wc_region ?_
   refine wl_val (v_move' (by conv => (lhs; whnf))) rfl ?_
   refine wl_val (v_not rfl) rfl ?_
   refine wl_val (v_assign' (by conv => (lhs; whnf))) rfl ?_
   refine wl_nil ?_
   refine then_go ?_
   refine wc_true rfl ?_
   refine wc_seq ?_
   refine wc_region ?_
   refine wl_val (v_move' (by conv => (lhs; whnf))) rfl ?_
   have e0 : e = 0 := by simpa using h25
   refine wl_call rfl (c_rfail (c := 7) st.im (st.at (i := 2) rfl) (st.none (i := 2) rfl)) rfl ?_
   rintro v35 w ⟨t35, hE35⟩
   have st := st.step 2 rfl t35 hE35
   refine wl_nil ?_
   refine then_go ?_
   refine wc_ret (block_ret (then_ret ?_))
   exact ret0 (by rw [pgF_none e0 (by simp [pgM, hgk])]; exact rd_out st)
 ·refine wc_draw TF.mixed ?_
  have st := st.pure (touch_drew _)
  refine fl_val 0 rfl (fun _ => (v_move' (by conv => (lhs; whnf)))) rfl (by kernel_rfl) ?_
  refine fl_val 1 rfl (fun _ => (v_nil rfl)) rfl (by kernel_rfl) ?_
  refine fl_val 2 rfl (fun _ => (v_fa TF.f84_0 rfl)) rfl (by kernel_rfl) ?_
  refine fl_ld 3 rfl (v_load rfl (st.reads 2 rfl TF.t82 rfl)) (by kernel_rfl) ?_
  refine fl_ld 4 rfl (v_load rfl (st.reads (v := arr d) 1 rfl TF.t28 (getV_all (by rw [size_arr]; exact hd)))) (by kernel_rfl) ?_
  refine fl_ld 5 rfl (v_mapGet2 hM.map st.im dig_keyT Try.underlying82 TF.z37 hM.len hd rfl rfl (u := bw) (o := true) (by rw [hgk]; rfl) (by rw [hgk]; rfl)) (by kernel_rfl) ?_
  refine fl_val 6 rfl (fun _ => (v_move' (by conv => (lhs; whnf)))) rfl (by kernel_rfl) ?_
  refine fl_val 7 rfl (fun _ => (v_extract rfl rfl)) rfl (by kernel_rfl) ?_
  refine fl_val 8 rfl (fun _ => (v_extract rfl rfl)) rfl (by kernel_rfl) ?_
  refine fl_eff1 9 [8] [] (by kernel_rfl) ⟨obl_ld rfl rfl rfl (v_mapGet2 hM.map st.im dig_keyT Try.underlying82 TF.z37 hM.len hd rfl rfl (u := bw) (o := true) (by rw [hgk]; rfl) (by rw [hgk]; rfl)), obl_ld rfl rfl rfl (v_load rfl (st.reads (v := arr d) 1 rfl TF.t28 (getV_all (by rw [size_arr]; exact hd)))), obl_ld rfl rfl rfl (v_load rfl (st.reads 2 rfl TF.t82 rfl)), trivial⟩ rfl ?_
  refine wl_val (v_assign' (by conv => (lhs; whnf))) rfl ?_
  refine wl_nil ⟨rfl, ?_⟩
  refine fl_eff1 10 [] [] (by kernel_rfl) trivial rfl ?_
  refine wl_val (v_assign' (by conv => (lhs; whnf))) rfl ?_
  refine wl_nil ⟨rfl, ?_⟩
  refine fl_nil (by kernel_rfl) trivial ?_
  refine then_go ?_
  refine wc_seq ?_
  obtain ⟨hbt, hbl⟩ := hM.text _ (getKV_mem hgk)
  obtain ⟨wa, wcc, hbw⟩ : ∃ a c, bw = .slice a bt.length c := by obtain ⟨_, a, c, h, _⟩ := hbt; exact ⟨a, c, h⟩
  subst hbw
  refine wc_region ?_
  refine wl_val (v_move' (by conv => (lhs; whnf))) rfl ?_
  refine wl_val (v_nil rfl) rfl ?_
  refine wl_val (v_fa TF.f84_1 rfl) rfl ?_
  refine wl_val (v_load rfl (st.reads 2 rfl TF.t67 rfl)) rfl ?_
  refine wl_val (v_len_s Try.underlying67 rfl) rfl ?_
  refine wl_val (v_assign' (by conv => (lhs; whnf))) rfl ?_
  refine wl_nil ?_
  refine then_go ?_
  refine wc_seq ?_
  refine wc_block ?_
  refine wc_seq ?_
  refine wc_region ?_
  refine wl_val (v_move' (by conv => (lhs; whnf))) rfl ?_
  refine wl_val (v_nil rfl) rfl ?_
  refine wl_val (v_fa TF.f84_2 rfl) rfl ?_
  refine wl_val (v_load rfl (st.reads 2 rfl TF.t41 rfl)) rfl ?_
  refine wl_val (v_neq rfl rfl) rfl ?_
  refine wl_val (v_assign' (by conv => (lhs; whnf))) rfl ?_
  refine wl_nil ?_
  refine then_go ?_
  refine wc_cond rfl (fun h25 => ?_) (fun h25 => ?_)
  ·refine wc_ret (block_ret (then_ret ?_))
   exact ret0 (by rw [pgF_err (by simpa using h25)]; exact rd_out st)
  ·refine wc_seq ?_
   refine wc_region ?_
   refine wl_val (v_move' (by conv => (lhs; whnf))) rfl ?_
   refine wl_val (v_not rfl) rfl ?_
   refine wl_val (v_assign' (by conv => (lhs; whnf))) rfl ?_
   refine wl_nil ?_
   refine then_go ?_
   refine wc_false rfl ?_
   refine wc_seq ?_
   have e0 : e = 0 := by simpa using h25
   have hMd : pgM MM d = some bt := by simp [pgM, hgk]
   rcases bt with _ | ⟨k0, bt⟩
   ·refine wc_region ?_
    refine wl_val (v_move' (by conv => (lhs; whnf))) rfl ?_
    refine wl_val (v_len_s Try.underlying37 rfl) rfl ?_
    refine wl_val (v_gtr rfl rfl) rfl ?_
    rw [show decide ((0 : Int) < ((([] : By).length : Nat) : Int)) = false from by decide]
    refine wl_val (v_move' (by conv => (lhs; whnf))) rfl ?_
    refine wl_off rfl rfl rfl rfl ?_
    refine wl_off rfl rfl rfl rfl ?_
    refine wl_off rfl rfl rfl rfl ?_
    refine wl_off rfl rfl rfl rfl ?_
    refine wl_val (v_pick rfl) rfl ?_
    refine wl_val (v_assign' (by conv => (lhs; whnf))) rfl ?_
    refine wl_nil ?_
    refine then_go ?_
    refine wc_false rfl ?_
    refine wc_skip ?_
    refine block_go (then_go ?_)
    refine wc_seq ?_
    have hnl : ¬ (0 < ([] : By).length ∧ ([] : By).headD 0 = 3) := by simp
    have hneed : need n ([] : By) ≤ g := by
     unfold need
     rw [if_neg (by decide)]
     exact hg
    have hlq : (rdF (pgM MM) g ([] : By) p n l e).2.1.length ≤ 1000000000 := by
     by_cases hq : 0 < (rdF (pgM MM) g ([] : By) p n l e).1.length ∨ (0 < n ∧ (rdF (pgM MM) g ([] : By) p n l e).2.1.length < l.length + 2)
     ·rw [pgF_bad e0 hMd hnl hq] at hl; exact hl
     ·rw [pgF_ok e0 hMd hnl hq] at hl; exact hl
    refine wc_region ?_
    refine wl_val (v_move' (by conv => (lhs; whnf))) rfl ?_
    refine wl_val (v_move' (by conv => (lhs; whnf))) rfl ?_
    refine wl_val (v_load rfl (by first | exact st.rdp 0 rfl (by exact rfl) TF.t28 (by exact (getV_all (by rw [size_arr]; assumption))))) rfl ?_
    refine wl_val (v_move' (by conv => (lhs; whnf))) rfl ?_
    have st := K.St.joinLast (pre := [_, _]) (l := rdL rb mb (.slice la l.length lc) l e) st
    refine wl_call rfl (hrd st.im hM (st.at (i := 2) rfl) (st.none (i := 2) rfl) hbt hbl hp hn hneed hlq) rfl ?_
    rintro v52 w ⟨⟨lv1, t52, hE52⟩, hs52⟩
    have st := st.step 2 rfl t52 hE52
    have st := K.St.splitLast (pre := [_, _]) (l := rdL rb mb lv1 _ _) st
    obtain ⟨_, ra, rc, hra, _⟩ := id hs52
    subst hra
    obtain ⟨la1, lc1, hlv1⟩ := row_sl (st.at (i := 3) rfl)
    subst hlv1
    refine wl_val (v_assign' (by conv => (lhs; whnf))) rfl ?_
    refine wl_nil ?_
    refine then_go ?_
    refine wc_seq ?_
    by_cases hr : 0 < (rdF (pgM MM) g ([] : By) p n l e).1.length
    ·refine wc_region ?_
     refine wl_val (v_move' (by conv => (lhs; whnf))) rfl ?_
     refine wl_val (v_len_s Try.underlying37 rfl) rfl ?_
     refine wl_val (v_gtr rfl rfl) rfl ?_
     rw [decide_eq_true (show (0 : Int) < ((rdF (pgM MM) g ([] : By) p n l e).1.length : Int) by omega)]
     refine wl_val (v_move' (by conv => (lhs; whnf))) rfl ?_
     refine wl_off rfl rfl rfl rfl ?_
     refine wl_off rfl rfl rfl rfl ?_
     refine wl_off rfl rfl rfl rfl ?_
     refine offU rfl rfl rfl ?_
     refine offU rfl rfl rfl ?_
     refine offU rfl rfl rfl ?_
     refine offU rfl rfl rfl ?_
     refine offU rfl rfl rfl ?_
     refine offU rfl rfl rfl ?_
     refine offU rfl rfl rfl ?_
     refine offU rfl rfl rfl ?_
     refine wl_off rfl rfl rfl rfl ?_
     refine wl_val (v_pick rfl) rfl ?_
     refine wl_nil ?_
     refine then_go ?_
     refine wc_true rfl ?_
     refine wc_region ?_
     refine wl_val (v_move' (by conv => (lhs; whnf))) rfl ?_
     refine wl_call rfl (c_rfail (c := 15) st.im (st.at (i := 2) rfl) (st.none (i := 2) rfl)) rfl ?_
     rintro v71 w ⟨t71, hE71⟩
     have st := st.step 2 rfl t71 hE71
     refine wl_nil ?_
     refine end0 ?_
     first
     | (rw [pgF_bad e0 hMd hnl (.inl hr)]; exact rd_out st)
     | (rw [pgF_bad e0 hMd hnl (.inr (by simp at h69; omega))]; exact rd_out st)
     | (rw [pgF_ok e0 hMd hnl (by simp at h69; omega)]; exact rd_out st)
    ·refine wc_region ?_
     refine wl_val (v_move' (by conv => (lhs; whnf))) rfl ?_
     refine wl_val (v_len_s Try.underlying37 rfl) rfl ?_
     refine wl_val (v_gtr rfl rfl) rfl ?_
     rw [decide_eq_false (show ¬ (0 : Int) < ((rdF (pgM MM) g ([] : By) p n l e).1.length : Int) by omega)]
     refine wl_val (v_move' (by conv => (lhs; whnf))) rfl ?_
     refine wl_on rfl rfl ?_
     refine wl_val (v_move' (by conv => (lhs; whnf))) rfl ?_
     refine wl_on rfl rfl ?_
     refine wl_val (v_gtr rfl rfl) rfl ?_
     refine wl_on rfl rfl ?_
     refine wl_val (v_move' (by conv => (lhs; whnf))) rfl ?_
     refine wl_valg rfl rfl (fun e => (v_move' (by conv => (lhs; whnf)))) rfl ?_
     refine wl_valg rfl rfl (fun e => (v_nil (by first | rfl | exact gx e rfl))) rfl ?_
     refine wl_valg rfl rfl (fun e => (v_fa TF.f84_1 (by first | rfl | exact gx e rfl))) rfl ?_
     refine wl_valg rfl rfl (fun e => (v_load (by first | rfl | exact gx e rfl) (st.reads 2 (by first | rfl | exact gx e rfl) TF.t67 (by first | rfl | exact gx e rfl)))) rfl ?_
     refine wl_valg rfl rfl (fun e => (v_len_s Try.underlying67 (by first | rfl | exact gx e rfl))) rfl ?_
     refine wl_valg rfl rfl (fun e => (v_move' (by conv => (lhs; whnf)))) rfl ?_
     refine wl_valg rfl rfl (fun e => (v_add' (c := ((l.length + 2 : Nat) : Int)) (gx e (by first | rfl | exact gx e rfl)) (by first | rfl | exact gx e rfl) (by omega) (by omega) (by omega))) rfl ?_
     refine wl_valg rfl rfl (fun e => (v_lss (by first | rfl | exact gx e rfl) (by first | rfl | exact gx e rfl))) rfl ?_
     refine wl_on rfl rfl ?_
     refine wl_val (v_pickA rfl rfl rfl) rfl ?_
     refine wl_val (v_pick rfl) rfl ?_
     refine wl_nil ?_
     refine then_go ?_
     refine wc_cond rfl (fun h69 => ?_) (fun h69 => ?_)
     ·refine wc_region ?_
      refine wl_val (v_move' (by conv => (lhs; whnf))) rfl ?_
      refine wl_call rfl (c_rfail (c := 15) st.im (st.at (i := 2) rfl) (st.none (i := 2) rfl)) rfl ?_
      rintro v71 w ⟨t71, hE71⟩
      have st := st.step 2 rfl t71 hE71
      refine wl_nil ?_
      refine end0 ?_
      first
      | (rw [pgF_bad e0 hMd hnl (.inl hr)]; exact rd_out st)
      | (rw [pgF_bad e0 hMd hnl (.inr (by simp at h69; omega))]; exact rd_out st)
      | (rw [pgF_ok e0 hMd hnl (by simp at h69; omega)]; exact rd_out st)
     ·refine wc_skip ?_
      refine end0 ?_
      first
      | (rw [pgF_bad e0 hMd hnl (.inl hr)]; exact rd_out st)
      | (rw [pgF_bad e0 hMd hnl (.inr (by simp at h69; omega))]; exact rd_out st)
      | (rw [pgF_ok e0 hMd hnl (by simp at h69; omega)]; exact rd_out st)
   ·obtain ⟨wb, wo, _, hwa, _⟩ := SlM.ptr1 hbt (by simp) (by decide)
    cases hwa
    refine wc_region ?_
    refine wl_val (v_move' (by conv => (lhs; whnf))) rfl ?_
    refine wl_val (v_len_s Try.underlying37 rfl) rfl ?_
    refine wl_val (v_gtr rfl rfl) rfl ?_
    rw [show decide ((0 : Int) < (((k0 :: bt).length : Nat) : Int)) = true from decide_eq_true (by simp)]
    refine wl_val (v_move' (by conv => (lhs; whnf))) rfl ?_
    refine wl_on rfl rfl ?_
    refine wl_val (v_move' (by conv => (lhs; whnf))) rfl ?_
    refine wl_on rfl rfl ?_
    refine wl_val (v_ias 0 Try.underlying37 TF.t5 rfl rfl (by first | rfl | omega) (by simp)) rfl ?_
    refine wl_on rfl rfl ?_
    refine wl_val (v_load rfl (SlM.rdB TF.t5 0 hbt (by simp) st.im)) rfl ?_
    refine wl_on rfl rfl ?_
    refine wl_val (v_eql rfl rfl) rfl ?_
    refine wl_val (v_pick rfl) rfl ?_
    refine wl_val (v_assign' (by conv => (lhs; whnf))) rfl ?_
    refine wl_nil ?_
    refine then_go ?_
    refine wc_cond rfl (fun h36 => ?_) (fun h36 => ?_)
    ·refine wc_seq ?_
     refine wc_region ?_
     refine wl_val (v_move' (by conv => (lhs; whnf))) rfl ?_
     refine wl_call rfl (c_rfail (c := 15) st.im (st.at (i := 2) rfl) (st.none (i := 2) rfl)) rfl ?_
     rintro v47 w ⟨t47, hE47⟩
     have st := st.step 2 rfl t47 hE47
     refine wl_nil ?_
     refine then_go ?_
     refine wc_ret (block_ret (then_ret ?_))
     have hk3 : k0 = 3 := by
      have h : (k0.toNat : Int) = 3 := by simpa using h36
      exact UInt8.toNat_inj.mp (by have : (3 : UInt8).toNat = 3 := rfl; omega)
     exact ret0 (by rw [pgF_link e0 hMd ⟨by simp, by simpa using hk3⟩]; exact rd_out st)
    ·refine wc_skip ?_
     refine block_go (then_go ?_)
     refine wc_seq ?_
     have hnl : ¬ (0 < (k0 :: bt).length ∧ (k0 :: bt).headD 0 = 3) := by
      intro hh
      have h3 : k0 = 3 := by simpa using hh.2
      subst h3
      simp at h36
     have hneed : need n (k0 :: bt) ≤ g := by
      unfold need
      rw [if_neg (fun hh => hnl ⟨by simp, hh⟩)]
      exact hg
     have hlq : (rdF (pgM MM) g (k0 :: bt) p n l e).2.1.length ≤ 1000000000 := by
      by_cases hq : 0 < (rdF (pgM MM) g (k0 :: bt) p n l e).1.length ∨ (0 < n ∧ (rdF (pgM MM) g (k0 :: bt) p n l e).2.1.length < l.length + 2)
      ·rw [pgF_bad e0 hMd hnl hq] at hl; exact hl
      ·rw [pgF_ok e0 hMd hnl hq] at hl; exact hl
     refine wc_region ?_
     refine wl_val (v_move' (by conv => (lhs; whnf))) rfl ?_
     refine wl_val (v_move' (by conv => (lhs; whnf))) rfl ?_
     refine wl_val (v_load rfl (by first | exact st.rdp 0 rfl (by exact rfl) TF.t28 (by exact (getV_all (by rw [size_arr]; assumption))))) rfl ?_
     refine wl_val (v_move' (by conv => (lhs; whnf))) rfl ?_
     have st := K.St.joinLast (pre := [_, _]) (l := rdL rb mb (.slice la l.length lc) l e) st
     refine wl_call rfl (hrd st.im hM (st.at (i := 2) rfl) (st.none (i := 2) rfl) hbt hbl hp hn hneed hlq) rfl ?_
     rintro v52 w ⟨⟨lv1, t52, hE52⟩, hs52⟩
     have st := st.step 2 rfl t52 hE52
     have st := K.St.splitLast (pre := [_, _]) (l := rdL rb mb lv1 _ _) st
     obtain ⟨_, ra, rc, hra, _⟩ := id hs52
     subst hra
     obtain ⟨la1, lc1, hlv1⟩ := row_sl (st.at (i := 3) rfl)
     subst hlv1
     refine wl_val (v_assign' (by conv => (lhs; whnf))) rfl ?_
     refine wl_nil ?_
     refine then_go ?_
     refine wc_seq ?_
     by_cases hr : 0 < (rdF (pgM MM) g (k0 :: bt) p n l e).1.length
     ·refine wc_region ?_
      refine wl_val (v_move' (by conv => (lhs; whnf))) rfl ?_
      refine wl_val (v_len_s Try.underlying37 rfl) rfl ?_
      refine wl_val (v_gtr rfl rfl) rfl ?_
      rw [decide_eq_true (show (0 : Int) < ((rdF (pgM MM) g (k0 :: bt) p n l e).1.length : Int) by omega)]
      refine wl_val (v_move' (by conv => (lhs; whnf))) rfl ?_
      refine wl_off rfl rfl rfl rfl ?_
      refine wl_off rfl rfl rfl rfl ?_
      refine wl_off rfl rfl rfl rfl ?_
      refine offU rfl rfl rfl ?_
      refine offU rfl rfl rfl ?_
      refine offU rfl rfl rfl ?_
      refine offU rfl rfl rfl ?_
      refine offU rfl rfl rfl ?_
      refine offU rfl rfl rfl ?_
      refine offU rfl rfl rfl ?_
      refine offU rfl rfl rfl ?_
      refine wl_off rfl rfl rfl rfl ?_
      refine wl_val (v_pick rfl) rfl ?_
      refine wl_nil ?_
      refine then_go ?_
      refine wc_true rfl ?_
      refine wc_region ?_
      refine wl_val (v_move' (by conv => (lhs; whnf))) rfl ?_
      refine wl_call rfl (c_rfail (c := 15) st.im (st.at (i := 2) rfl) (st.none (i := 2) rfl)) rfl ?_
      rintro v71 w ⟨t71, hE71⟩
      have st := st.step 2 rfl t71 hE71
      refine wl_nil ?_
      refine end0 ?_
      first
      | (rw [pgF_bad e0 hMd hnl (.inl hr)]; exact rd_out st)
      | (rw [pgF_bad e0 hMd hnl (.inr (by simp at h69; omega))]; exact rd_out st)
      | (rw [pgF_ok e0 hMd hnl (by simp at h69; omega)]; exact rd_out st)
     ·refine wc_region ?_
      refine wl_val (v_move' (by conv => (lhs; whnf))) rfl ?_
      refine wl_val (v_len_s Try.underlying37 rfl) rfl ?_
      refine wl_val (v_gtr rfl rfl) rfl ?_
      rw [decide_eq_false (show ¬ (0 : Int) < ((rdF (pgM MM) g (k0 :: bt) p n l e).1.length : Int) by omega)]
      refine wl_val (v_move' (by conv => (lhs; whnf))) rfl ?_
      refine wl_on rfl rfl ?_
      refine wl_val (v_move' (by conv => (lhs; whnf))) rfl ?_
      refine wl_on rfl rfl ?_
      refine wl_val (v_gtr rfl rfl) rfl ?_
      refine wl_on rfl rfl ?_
      refine wl_val (v_move' (by conv => (lhs; whnf))) rfl ?_
      refine wl_valg rfl rfl (fun e => (v_move' (by conv => (lhs; whnf)))) rfl ?_
      refine wl_valg rfl rfl (fun e => (v_nil (by first | rfl | exact gx e rfl))) rfl ?_
      refine wl_valg rfl rfl (fun e => (v_fa TF.f84_1 (by first | rfl | exact gx e rfl))) rfl ?_
      refine wl_valg rfl rfl (fun e => (v_load (by first | rfl | exact gx e rfl) (st.reads 2 (by first | rfl | exact gx e rfl) TF.t67 (by first | rfl | exact gx e rfl)))) rfl ?_
      refine wl_valg rfl rfl (fun e => (v_len_s Try.underlying67 (by first | rfl | exact gx e rfl))) rfl ?_
      refine wl_valg rfl rfl (fun e => (v_move' (by conv => (lhs; whnf)))) rfl ?_
      refine wl_valg rfl rfl (fun e => (v_add' (c := ((l.length + 2 : Nat) : Int)) (gx e (by first | rfl | exact gx e rfl)) (by first | rfl | exact gx e rfl) (by omega) (by omega) (by omega))) rfl ?_
      refine wl_valg rfl rfl (fun e => (v_lss (by first | rfl | exact gx e rfl) (by first | rfl | exact gx e rfl))) rfl ?_
      refine wl_on rfl rfl ?_
      refine wl_val (v_pickA rfl rfl rfl) rfl ?_
      refine wl_val (v_pick rfl) rfl ?_
      refine wl_nil ?_
      refine then_go ?_
      refine wc_cond rfl (fun h69 => ?_) (fun h69 => ?_)
      ·refine wc_region ?_
       refine wl_val (v_move' (by conv => (lhs; whnf))) rfl ?_
       refine wl_call rfl (c_rfail (c := 15) st.im (st.at (i := 2) rfl) (st.none (i := 2) rfl)) rfl ?_
       rintro v71 w ⟨t71, hE71⟩
       have st := st.step 2 rfl t71 hE71
       refine wl_nil ?_
       refine end0 ?_
       first
       | (rw [pgF_bad e0 hMd hnl (.inl hr)]; exact rd_out st)
       | (rw [pgF_bad e0 hMd hnl (.inr (by simp at h69; omega))]; exact rd_out st)
       | (rw [pgF_ok e0 hMd hnl (by simp at h69; omega)]; exact rd_out st)
      ·refine wc_skip ?_
       refine end0 ?_
       first
       | (rw [pgF_bad e0 hMd hnl (.inl hr)]; exact rd_out st)
       | (rw [pgF_bad e0 hMd hnl (.inr (by simp at h69; omega))]; exact rd_out st)
       | (rw [pgF_ok e0 hMd hnl (by simp at h69; omega)]; exact rd_out st)
end
end Go.Proofs.Ytonlmjpenonabaa

namespace Go.Proofs.Ytonlmjpenonabaa
open Go Go.RowKit K SH PT
section
variable {M : By → Option By} {g : Nat} {k : UInt8} {b p : By} {n : Nat} {l : List (By × By)} {e : Nat}
theorem rdF_nil : rdF M (g + 1) [] p n l e = ([], l, failE e 15) := rfl
theorem rdF_bad (h : e ≠ 0 ∨ 256 < n) : rdF M (g + 1) (k :: b) p n l e = ([], l, failE e 15) := by rw [rdF, if_pos h]
theorem rdF_0 (h : ¬ (e ≠ 0 ∨ 256 < n)) (hk : k = 0) : rdF M (g + 1) (k :: b) p n l e = (b, l, e) := by rw [rdF, if_neg h, if_pos hk]
theorem rdF_1 (h : ¬ (e ≠ 0 ∨ 256 < n)) (hk : k = 1) : rdF M (g + 1) (k :: b) p n l e =
      ((dgF (dgF b e).2.1 (dgF b e).2.2).2.1, l ++ [((dgF b e).1, (dgF (dgF b e).2.1 (dgF b e).2.2).1)],
        if n ≤ common (dgF b e).1 p then (dgF (dgF b e).2.1 (dgF b e).2.2).2.2 else failE (dgF (dgF b e).2.1 (dgF b e).2.2).2.2 15) := by
  subst hk; rw [rdF, if_neg h, if_neg (by decide), if_pos rfl]
theorem rdF_2 (h : ¬ (e ≠ 0 ∨ 256 < n)) (hk : k = 2) : rdF M (g + 1) (k :: b) p n l e =
      rdF M g (rdF M g b (setB p n false) (n + 1) l e).1 (setB p n true) (n + 1) (rdF M g b (setB p n false) (n + 1) l e).2.1 (rdF M g b (setB p n false) (n + 1) l e).2.2 := by
  subst hk; rw [rdF, if_neg h, if_neg (by decide), if_neg (by decide), if_pos rfl]
theorem rdF_3 (h : ¬ (e ≠ 0 ∨ 256 < n)) (hk : k = 3) : rdF M (g + 1) (k :: b) p n l e = ((dgF b e).2.1, pgF M (rdF M g) (dgF b e).1 p n l (dgF b e).2.2) := by
 subst hk; rw [rdF, if_neg h, if_neg (by decide), if_neg (by decide), if_neg (by decide), if_pos rfl]
theorem rdF_x (h : ¬ (e ≠ 0 ∨ 256 < n)) (h0 : k ≠ 0) (h1 : k ≠ 1) (h2 : k ≠ 2) (h3 : k ≠ 3) : rdF M (g + 1) (k :: b) p n l e = (b, l, failE e 15) := by
 rw [rdF, if_neg h, if_neg h0, if_neg h1, if_neg h2, if_neg h3]
end
theorem rd_outL {m : Mem} {F : List Nat} {wI w : World} {rb mb : Nat} {x : List (By × By) × Nat} {lv' : Value} (A : List Ent) (st : St m m F wI w (A ++ rdL rb mb lv' x.1 x.2)) : RdOut wI w F rb mb x :=
 have st2 : St m m F wI w (rdL rb mb lv' x.1 x.2) := st.keepOnly (List.sublist_append_right _ _)
 ⟨lv', (St.finish (Es := []) (l := rdL rb mb lv' x.1 x.2) st2).1, (St.finish (Es := []) (l := rdL rb mb lv' x.1 x.2) st2).2⟩
theorem pr_at {a : By} (h : a.length = 32) : setSeg (prC2 (z32, z32)).toArray 0 (bs a) = (prC2 (a, z32)).toArray := by
 have := setSeg_mid (a := []) (b := bs z32) (c := bs z32) (l := bs a) (o := 0) rfl (by rw [length_bs, length_bs, h]; rfl)
 simpa [prC2] using this
theorem pr_val {a v : By} (ha : a.length = 32) (h : v.length = 32) : setSeg (prC2 (a, z32)).toArray 32 (bs v) = (prC2 (a, v)).toArray := by
 have := setSeg_mid (a := bs a) (b := bs z32) (c := []) (l := bs v) (o := 32) (by rw [length_bs, ha]) (by rw [length_bs, length_bs, h]; rfl)
 simpa [prC2] using this
theorem kind_ne {k : UInt8} {c : Nat} (hc : c < 256) (h : ¬ ((k.toNat : Int) = (c : Int))) : k ≠ UInt8.ofNat c := fun e => h (by
 rw [e, UInt8.toNat_ofNat', Nat.mod_eq_of_lt hc])
theorem kind_eq {k : UInt8} {c : Nat} (hc : c < 256) (h : (k.toNat : Int) = (c : Int)) : k = UInt8.ofNat c := UInt8.toNat_inj.mp (by
 rw [UInt8.toNat_ofNat', Nat.mod_eq_of_lt hc]; omega)
section
variable {m : Mem} {wI : World}
theorem c_read1 {MM : PgMap} {g : Nat} {b p : By} {n : Nat} {l : List (By × By)} {e rb mb : Nat} {lv bv : Value} (ih : RdC MM g) (him : Im m wI) (hM : PgOk m mb MM) (hE : (joinE (rdL rb mb lv l e)).holds wI) (hm : ∀ k ∈ (joinE (rdL rb mb lv l e)).foot, m k = none) (hb : SlM m bv 1 b.length (bs b)) (hbl : b.length ≤ 1000000000) (hp : p.length = 32) (hn : n ≤ 257) (hg : need n b ≤ g + 1) (hl : (rdF (pgM MM) (g + 1) b p n l e).2.1.length ≤ 1000000000) :
  Ret Try.prog 64 #[.pointer (some ⟨rb, 0, none⟩), bv, arr p, .int .i64 n] wI fun v' w' => RdOut wI w' (joinE (rdL rb mb lv l e)).foot rb mb (rdF (pgM MM) (g + 1) b p n l e).2 ∧ SlM m v' 1 (rdF (pgM MM) (g + 1) b p n l e).1.length (bs (rdF (pgM MM) (g + 1) b p n l e).1) := by
 have st := St.begin him hE hm
 have hl0 : l.length ≤ 1000000000 := Nat.le_trans rdF_grow hl
 obtain ⟨la, lc, hlv⟩ := row_sl (st.at (i := 1) rfl)
 subst hlv
 obtain ⟨ba, bc, hbv, hbc⟩ : ∃ a c, bv = .slice a b.length c ∧ b.length ≤ c := by obtain ⟨_, a, c, h, h2, _⟩ := hb; exact ⟨a, c, h, h2⟩
 subst hbv
 refine ret_of Try.call64 Try.func64 rfl Try.ntmps64 Try.results64 rfl ?_
 refine wc_seq ?_
 refine wc_region ?_
 refine wl_box (v := arr p) rfl st rfl ?_
 intro b6 w st
 refine wl_val (v_assign' (by conv => (lhs; whnf))) rfl ?_
 refine wl_nil ?_
 refine then_go ?_
 refine wc_seq ?_
 refine wc_seq ?_
 refine wc_region ?_
 refine wl_val (v_move' (by conv => (lhs; whnf))) rfl ?_
 refine wl_val (v_nil rfl) rfl ?_
 refine wl_val (v_fa TF.f84_2 rfl) rfl ?_
 refine wl_val (v_load rfl (st.reads 1 rfl TF.t41 rfl)) rfl ?_
 refine wl_val (v_neq rfl rfl) rfl ?_
 refine wl_val (v_move' (by conv => (lhs; whnf))) rfl ?_
 refine wl_valg rfl rfl (fun e => (v_move' (by conv => (lhs; whnf)))) rfl ?_
 refine wl_valg rfl rfl (fun e => (v_len_s Try.underlying37 (by first | rfl | exact gx e rfl))) rfl ?_
 refine wl_valg rfl rfl (fun e => (v_eql (by first | rfl | exact gx e rfl) (by first | rfl | exact gx e rfl))) rfl ?_
 refine wl_val (v_pickO rfl rfl rfl) rfl ?_
 refine wl_val (v_move' (by conv => (lhs; whnf))) rfl ?_
 refine wl_valg rfl rfl (fun e => (v_move' (by conv => (lhs; whnf)))) rfl ?_
 refine wl_valg rfl rfl (fun e => (v_gtr (by first | rfl | exact gx e rfl) (by first | rfl | exact gx e rfl))) rfl ?_
 refine wl_val (v_pickO rfl rfl rfl) rfl ?_
 refine wl_nil ?_
 refine then_go ?_
 refine wc_cond rfl (fun h25 => ?_) (fun h25 => ?_)
 ·refine wc_seq ?_
  refine wc_region ?_
  refine wl_val (v_move' (by conv => (lhs; whnf))) rfl ?_
  have ebad : rdF (pgM MM) (g + 1) b p n l e = ([], l, failE e 15) := by
   match b, h25 with
   | [], _ => rfl
   | k :: b, h => exact rdF_bad (by simp at h; omega)
  refine wl_call rfl (c_rfail (c := 15) st.im (st.at (i := 1) rfl) (st.none (i := 1) rfl)) rfl ?_
  rintro v27 w ⟨t27, hE27⟩
  have st := st.step 1 rfl t27 hE27
  refine wl_nil ?_
  refine then_go ?_
  refine wc_seq ?_
  refine wc_region ?_
  refine wl_val (v_assign' (by conv => (lhs; whnf))) rfl ?_
  refine wl_nil ?_
  refine then_go ?_
  refine wc_ret (then_ret ?_)
  rw [ebad]
  exact ret1 rfl ⟨rd_outL (x := (l, failE e 15)) [_] st, SlM.nil⟩
 ·refine wc_skip ?_
  refine then_go ?_
  refine wc_seq ?_
  obtain ⟨k0, b', hbb⟩ : ∃ k0 b', b = k0 :: b' := by
   cases b with
   | nil => simp at h25
   | cons k b => exact ⟨k, b, rfl⟩
  subst hbb
  have hok : ¬ (e ≠ 0 ∨ 256 < n) := by simp at h25; omega
  have e0 : e = 0 := by omega
  have hn6 : n ≤ 256 := by omega
  obtain ⟨bb, bo, _, hba, _⟩ := SlM.ptr1 hb (by simp) (by decide)
  cases hba
  have hb' := hb.subB 1 (k0 :: b').length (by simp) (Nat.le_refl _)
  rw [show ((k0 :: b').drop 1).take ((k0 :: b').length - 1) = b' by simp] at hb'
  have hbl' : b'.length ≤ 1000000000 := by simp at hbl; omega
  refine wc_region ?_
  refine wl_val (v_move' (by conv => (lhs; whnf))) rfl ?_
  refine wl_val (v_ias 0 Try.underlying37 TF.t5 rfl rfl (by first | rfl | omega) (by simp)) rfl ?_
  refine wl_val (v_load rfl (SlM.rdB TF.t5 0 hb (by simp) st.im)) rfl ?_
  refine wl_val (v_assign' (by conv => (lhs; whnf))) rfl ?_
  refine wl_nil ?_
  refine then_go ?_
  refine wc_seq ?_
  refine wc_region ?_
  refine wl_val (v_move' (by conv => (lhs; whnf))) rfl ?_
  refine wl_val (v_sls 1 (k0 :: b').length Try.underlying37 TF.t5 rfl ⟨_, _, rfl, rfl⟩ rfl (by simp) hbc) rfl ?_
  refine wl_val (v_assign' (by conv => (lhs; whnf))) rfl ?_
  refine wl_nil ?_
  refine then_go ?_
  refine wc_seq ?_
  refine wc_seq ?_
  refine wc_region ?_
  refine wl_val (v_move' (by conv => (lhs; whnf))) rfl ?_
  refine wl_nil ?_
  refine then_go ?_
  refine wc_block ?_
  refine wc_seq ?_
  refine wc_region ?_
  refine wl_val (v_eql rfl rfl) rfl ?_
  refine wl_val (v_assign' (by conv => (lhs; whnf))) rfl ?_
  refine wl_nil ?_
  refine then_go ?_
  refine wc_cond rfl (fun h36 => ?_) (fun h36 => ?_)
  ·refine wc_skip ?_
   refine block_go (then_go ?_)
   refine wc_seq ?_
   refine wc_region ?_
   refine wl_val (v_move' (by conv => (lhs; whnf))) rfl ?_
   refine wl_val (v_assign' (by conv => (lhs; whnf))) rfl ?_
   refine wl_nil ?_
   refine then_go ?_
   refine wc_ret ?_
   rw [rdF_0 hok (kind_eq (c := 0) (by decide) (by simpa using h36))]
   exact ret1 rfl ⟨rd_outL (x := (l, e)) [_] st, hb'⟩
  ·refine wc_seq ?_
   refine wc_region ?_
   refine wl_val (v_eql rfl rfl) rfl ?_
   refine wl_val (v_assign' (by conv => (lhs; whnf))) rfl ?_
   refine wl_nil ?_
   refine then_go ?_
   refine wc_cond rfl (fun h38 => ?_) (fun h38 => ?_)
   ·refine wc_seq ?_
    have hk1 : k0 = 1 := kind_eq (c := 1) (by decide) (by simpa using h38)
    have e1 := rdF_1 (M := pgM MM) (g := g) (b := b') (p := p) (l := l) hok hk1
    rw [e1] at hl ⊢
    have q1 := dgF_len (b := b') (e := e)
    have q2 := dgF_len (b := (dgF b' e).2.1) (e := (dgF b' e).2.2)
    have qr := dgF_rest (b := b') (e := e)
    refine wc_region ?_
    refine wl_alloc TF.z72 st rfl ?_
    intro b10 w st
    refine wl_nil ?_
    refine then_go ?_
    refine wc_seq ?_
    refine wc_region ?_
    refine wl_val (v_move' (by conv => (lhs; whnf))) rfl ?_
    refine wl_val (v_move' (by conv => (lhs; whnf))) rfl ?_
    refine wl_call rfl (c_rdig st.im (st.at (i := 2) rfl) (st.none (i := 2) rfl) hb' hbl') rfl ?_
    rintro v43 w ⟨t43, hE43, v2, rfl, hs2⟩
    have st := st.step 2 rfl t43 hE43
    refine wl_val (v_move' (by conv => (lhs; whnf))) rfl ?_
    refine wl_val (v_extract rfl rfl) rfl ?_
    refine wl_val (v_extract rfl rfl) rfl ?_
    refine wl_val (v_fa TF.f72_0 rfl) rfl ?_
    refine wl_store (v := arr (dgF b' e).1) 0 st rfl TF.t28 rfl rfl (by rw [size_arr, q1]) (one_bs _) (by decide) ?_
    intro w st
    change St _ _ _ _ _ [K.blk b10 (setSeg (prC2 (z32, z32)).toArray 0 (bs (dgF b' e).1)) _, _, _, _] at st
    rw [pr_at q1] at st
    refine wl_val (v_assign' (by conv => (lhs; whnf))) rfl ?_
    refine wl_nil ?_
    refine then_go ?_
    refine wc_seq ?_
    refine wc_region ?_
    refine wl_val (v_move' (by conv => (lhs; whnf))) rfl ?_
    refine wl_val (v_move' (by conv => (lhs; whnf))) rfl ?_
    refine wl_call rfl (c_rdig st.im (st.at (i := 2) rfl) (st.none (i := 2) rfl) hs2 (by omega)) rfl ?_
    rintro v50 w ⟨t50, hE50, v3, rfl, hs3⟩
    have st := st.step 2 rfl t50 hE50
    refine wl_val (v_move' (by conv => (lhs; whnf))) rfl ?_
    refine wl_val (v_extract rfl rfl) rfl ?_
    refine wl_val (v_extract rfl rfl) rfl ?_
    refine wl_val (v_fa TF.f72_1 rfl) rfl ?_
    refine wl_store (v := arr (dgF (dgF b' e).2.1 (dgF b' e).2.2).1) 0 st rfl TF.t28 rfl rfl (by rw [size_arr, q2]) (one_bs _) (by simp [prC2, length_bs, q1]; decide) ?_
    intro w st
    change St _ _ _ _ _ [K.blk b10 (setSeg (prC2 ((dgF b' e).1, z32)).toArray 32 (bs (dgF (dgF b' e).2.1 (dgF b' e).2.2).1)) _, _, _, _] at st
    rw [pr_val q1 q2] at st
    refine wl_val (v_assign' (by conv => (lhs; whnf))) rfl ?_
    refine wl_nil ?_
    refine then_go ?_
    refine wc_seq ?_
    refine wc_seq ?_
    refine wc_region ?_
    refine wl_val (v_fa TF.f72_0 rfl) rfl ?_
    refine wl_val (v_load rfl (st.reads (v := arr (dgF b' e).1) 0 rfl TF.t28 (prC2_a (x := ((dgF b' e).1, _)) q1))) rfl ?_
    refine wl_val (v_load rfl (st.reads (v := arr p) 1 rfl TF.t28 (getV_all (by rw [size_arr]; exact hp)))) rfl ?_
    refine wl_val (v_move' (by conv => (lhs; whnf))) rfl ?_
    refine wl_call rfl (c_pathunder st.im q1 hp) rfl ?_
    rintro v58 w ⟨t58, rfl⟩
    have st := st.pure t58
    refine wl_val (v_not rfl) rfl ?_
    refine wl_nil ?_
    refine then_go ?_
    refine wc_cond rfl (fun h59 => ?_) (fun h59 => ?_)
    ·refine wc_region ?_
     refine wl_val (v_move' (by conv => (lhs; whnf))) rfl ?_
     have hun : ¬ n ≤ common (dgF b' e).1 p := by simpa using h59
     rw [if_neg hun]
     refine wl_call rfl (c_rfail (c := 15) st.im (st.at (i := 2) rfl) (st.none (i := 2) rfl)) rfl ?_
     rintro v61 w ⟨t61, hE61⟩
     have st := st.step 2 rfl t61 hE61
     refine wl_nil ?_
     refine then_go ?_
     refine wc_draw TF.mixed ?_
     have st := st.pure (touch_drew _)
     refine fl_val 0 rfl (fun _ => (v_move' (by conv => (lhs; whnf)))) rfl (by kernel_rfl) ?_
     refine fl_val 1 rfl (fun _ => (v_move' (by conv => (lhs; whnf)))) rfl (by kernel_rfl) ?_
     refine fl_val 2 rfl (fun _ => (v_nil rfl)) rfl (by kernel_rfl) ?_
     refine fl_val 3 rfl (fun _ => (v_fa TF.f84_1 rfl)) rfl (by kernel_rfl) ?_
     refine fl_ld 4 rfl (v_load rfl (by first | exact st.reads 2 rfl TF.t67 rfl | exact st.reads 3 rfl TF.t67 rfl)) (by kernel_rfl) ?_
     refine fl_ld 5 rfl (v_load rfl (st.reads (v := .agg (prC2 ((dgF b' e).1, (dgF (dgF b' e).2.1 (dgF b' e).2.2).1)).toArray) 0 rfl TF.t72 (getV_all (by simp [prC2, length_bs, q1, q2])))) (by kernel_rfl) ?_
     refine fl_eff1 6 [3, 2, 1, 0] [4] (by kernel_rfl) ⟨obl_ld rfl rfl rfl (v_load rfl (st.reads (v := .agg (prC2 ((dgF b' e).1, (dgF (dgF b' e).2.1 (dgF b' e).2.2).1)).toArray) 0 rfl TF.t72 (getV_all (by simp [prC2, length_bs, q1, q2])))), obl_ld rfl rfl rfl (v_load rfl (by first | exact st.reads 2 rfl TF.t67 rfl | exact st.reads 3 rfl TF.t67 rfl)), trivial⟩ rfl ?_
     refine wl_lsOne (prC2 ((dgF b' e).1, (dgF (dgF b' e).2.1 (dgF b' e).2.2).1)) Try.underlying67 TF.t72 TF.z72 (by decide) (by decide) (len_prC2 q1 q2) rfl st rfl ?_
     intro b68 w st
     refine wl_nil ⟨rfl, ?_⟩
     refine fl_eff1 7 [3, 2, 1, 0] [] (by kernel_rfl) ⟨obl_ld rfl rfl rfl (v_load rfl (by first | exact st.reads 2 rfl TF.t67 rfl | exact st.reads 3 rfl TF.t67 rfl)), trivial⟩ rfl ?_
     refine wl_lsApp 3 (c := prC2) (e := ((dgF b' e).1, (dgF (dgF b' e).2.1 (dgF b' e).2.2).1)) st rfl Try.underlying67 TF.t72 TF.z72 rfl (len_prC2 q1 q2) one_prC2 rfl rfl (by omega) (by omega) rfl ?_
     intro lv2 w st hlv2
     refine wl_nil ⟨rfl, ?_⟩
     refine fl_val 8 rfl (fun _ => (v_nil rfl)) rfl (by kernel_rfl) ?_
     refine fl_val 9 rfl (fun _ => (v_fa TF.f84_1 rfl)) rfl (by kernel_rfl) ?_
     refine fl_eff1 10 [8] [] (by kernel_rfl) trivial rfl ?_
     refine wl_store1 2 st rfl TF.t67 rfl rfl hlv2 (lt_ok rfl) ?_
     intro w st
     refine wl_nil ⟨rfl, ?_⟩
     refine fl_nil (by kernel_rfl) trivial ?_
     refine block_go (then_go ?_)
     refine wc_seq ?_
     refine wc_region ?_
     refine wl_val (v_move' (by conv => (lhs; whnf))) rfl ?_
     refine wl_val (v_assign' (by conv => (lhs; whnf))) rfl ?_
     refine wl_nil ?_
     refine then_go ?_
     refine wc_ret ?_
     exact ret1 rfl ⟨rd_outL (x := (_, _)) [_, _] st, hs3⟩
    ·refine wc_skip ?_
     refine then_go ?_
     refine wc_draw TF.mixed ?_
     have st := st.pure (touch_drew _)
     refine fl_val 0 rfl (fun _ => (v_move' (by conv => (lhs; whnf)))) rfl (by kernel_rfl) ?_
     refine fl_val 1 rfl (fun _ => (v_move' (by conv => (lhs; whnf)))) rfl (by kernel_rfl) ?_
     refine fl_val 2 rfl (fun _ => (v_nil rfl)) rfl (by kernel_rfl) ?_
     refine fl_val 3 rfl (fun _ => (v_fa TF.f84_1 rfl)) rfl (by kernel_rfl) ?_
     refine fl_ld 4 rfl (v_load rfl (by first | exact st.reads 2 rfl TF.t67 rfl | exact st.reads 3 rfl TF.t67 rfl)) (by kernel_rfl) ?_
     refine fl_ld 5 rfl (v_load rfl (st.reads (v := .agg (prC2 ((dgF b' e).1, (dgF (dgF b' e).2.1 (dgF b' e).2.2).1)).toArray) 0 rfl TF.t72 (getV_all (by simp [prC2, length_bs, q1, q2])))) (by kernel_rfl) ?_
     refine fl_eff1 6 [3, 2, 1, 0] [4] (by kernel_rfl) ⟨obl_ld rfl rfl rfl (v_load rfl (st.reads (v := .agg (prC2 ((dgF b' e).1, (dgF (dgF b' e).2.1 (dgF b' e).2.2).1)).toArray) 0 rfl TF.t72 (getV_all (by simp [prC2, length_bs, q1, q2])))), obl_ld rfl rfl rfl (v_load rfl (by first | exact st.reads 2 rfl TF.t67 rfl | exact st.reads 3 rfl TF.t67 rfl)), trivial⟩ rfl ?_
     refine wl_lsOne (prC2 ((dgF b' e).1, (dgF (dgF b' e).2.1 (dgF b' e).2.2).1)) Try.underlying67 TF.t72 TF.z72 (by decide) (by decide) (len_prC2 q1 q2) rfl st rfl ?_
     intro b68 w st
     refine wl_nil ⟨rfl, ?_⟩
     refine fl_eff1 7 [3, 2, 1, 0] [] (by kernel_rfl) ⟨obl_ld rfl rfl rfl (v_load rfl (by first | exact st.reads 2 rfl TF.t67 rfl | exact st.reads 3 rfl TF.t67 rfl)), trivial⟩ rfl ?_
     refine wl_lsApp 3 (c := prC2) (e := ((dgF b' e).1, (dgF (dgF b' e).2.1 (dgF b' e).2.2).1)) st rfl Try.underlying67 TF.t72 TF.z72 rfl (len_prC2 q1 q2) one_prC2 rfl rfl (by omega) (by omega) rfl ?_
     intro lv2 w st hlv2
     refine wl_nil ⟨rfl, ?_⟩
     refine fl_val 8 rfl (fun _ => (v_nil rfl)) rfl (by kernel_rfl) ?_
     refine fl_val 9 rfl (fun _ => (v_fa TF.f84_1 rfl)) rfl (by kernel_rfl) ?_
     refine fl_eff1 10 [8] [] (by kernel_rfl) trivial rfl ?_
     refine wl_store1 2 st rfl TF.t67 rfl rfl hlv2 (lt_ok rfl) ?_
     intro w st
     refine wl_nil ⟨rfl, ?_⟩
     refine fl_nil (by kernel_rfl) trivial ?_
     refine block_go (then_go ?_)
     refine wc_seq ?_
     refine wc_region ?_
     refine wl_val (v_move' (by conv => (lhs; whnf))) rfl ?_
     refine wl_val (v_assign' (by conv => (lhs; whnf))) rfl ?_
     refine wl_nil ?_
     refine then_go ?_
     refine wc_ret ?_
     have hun : n ≤ common (dgF b' e).1 p := by simpa using h59
     rw [if_pos hun]
     exact ret1 rfl ⟨rd_outL (x := (_, _)) [_, _] st, hs3⟩
   ·refine wc_seq ?_
    refine wc_region ?_
    refine wl_val (v_eql rfl rfl) rfl ?_
    refine wl_val (v_assign' (by conv => (lhs; whnf))) rfl ?_
    refine wl_nil ?_
    refine then_go ?_
    refine wc_cond rfl (fun h72 => ?_) (fun h72 => ?_)
    ·refine wc_seq ?_
     have hk2 : k0 = 2 := kind_eq (c := 2) (by decide) (by simpa using h72)
     have e2 := rdF_2 (M := pgM MM) (g := g) (b := b') (p := p) (l := l) hok hk2
     rw [e2] at hl ⊢
     have hl1 : (rdF (pgM MM) g b' (setB p n false) (n + 1) l e).2.1.length ≤ 1000000000 := Nat.le_trans rdF_grow hl
     have hr1 := rdF_rest (M := pgM MM) (g := g) (b := b') (p := setB p n false) (n := n + 1) (l := l) (e := e)
     have hnd : ∀ c : By, need (n + 1) c ≤ g := fun c => by
      unfold need at hg ⊢
      split at hg <;> split <;> omega
     refine wc_region ?_
     refine wl_val (v_move' (by conv => (lhs; whnf))) rfl ?_
     refine wl_val (v_move' (by conv => (lhs; whnf))) rfl ?_
     refine wl_val (v_load rfl (st.reads (v := arr p) 0 rfl TF.t28 (getV_all (by rw [size_arr]; exact hp)))) rfl ?_
     refine wl_val (v_move' (by conv => (lhs; whnf))) rfl ?_
     refine wl_call rfl (c_set st.im hp (by omega)) rfl ?_
     rintro v78 w ⟨t78, rfl⟩
     have st := st.pure t78
     refine wl_val (v_move' (by conv => (lhs; whnf))) rfl ?_
     refine wl_val (v_add' (c := ((n + 1 : Nat) : Int)) rfl rfl (by omega) (by omega) (by omega)) rfl ?_
     have st := K.St.joinLast (pre := [_]) (l := rdL rb mb (.slice la l.length lc) l e) st
     refine wl_call rfl (ih st.im hM (st.at (i := 1) rfl) (st.none (i := 1) rfl) hb' hbl' (len_setB.trans hp) (by omega) (hnd _) hl1) rfl ?_
     rintro v81 w ⟨⟨lv1, t81, hE81⟩, hs81⟩
     have st := st.step 1 rfl t81 hE81
     refine wl_val (v_assign' (by conv => (lhs; whnf))) rfl ?_
     refine wl_nil ?_
     refine then_go ?_
     refine wc_region ?_
     refine wl_val (v_move' (by conv => (lhs; whnf))) rfl ?_
     refine wl_val (v_move' (by conv => (lhs; whnf))) rfl ?_
     refine wl_val (v_load rfl (st.reads (v := arr p) 0 rfl TF.t28 (getV_all (by rw [size_arr]; exact hp)))) rfl ?_
     refine wl_val (v_move' (by conv => (lhs; whnf))) rfl ?_
     refine wl_call rfl (c_set st.im hp (by omega)) rfl ?_
     rintro v86 w ⟨t86, rfl⟩
     have st := st.pure t86
     refine wl_val (v_move' (by conv => (lhs; whnf))) rfl ?_
     refine wl_val (v_add' (c := ((n + 1 : Nat) : Int)) rfl rfl (by omega) (by omega) (by omega)) rfl ?_
     refine wl_call rfl (ih st.im hM (st.at (i := 1) rfl) (st.none (i := 1) rfl) hs81 (by omega) (len_setB.trans hp) (by omega) (hnd _) hl) rfl ?_
     rintro v89 w ⟨⟨lv2, t89, hE89⟩, hs89⟩
     have st := st.step 1 rfl t89 hE89
     have st := K.St.splitLast (pre := [_]) (l := rdL rb mb lv2 _ _) st
     refine wl_val (v_assign' (by conv => (lhs; whnf))) rfl ?_
     refine wl_nil ?_
     refine block_go (then_go ?_)
     refine wc_seq ?_
     refine wc_region ?_
     refine wl_val (v_move' (by conv => (lhs; whnf))) rfl ?_
     refine wl_val (v_assign' (by conv => (lhs; whnf))) rfl ?_
     refine wl_nil ?_
     refine then_go ?_
     refine wc_ret ?_
     exact ret1 rfl ⟨rd_outL [_] st, hs89⟩
    ·refine wc_seq ?_
     refine wc_region ?_
     refine wl_val (v_eql rfl rfl) rfl ?_
     refine wl_val (v_assign' (by conv => (lhs; whnf))) rfl ?_
     refine wl_nil ?_
     refine then_go ?_
     refine wc_cond rfl (fun h90 => ?_) (fun h90 => ?_)
     ·refine wc_seq ?_
      have hk3 : k0 = 3 := kind_eq (c := 3) (by decide) (by simpa using h90)
      have e3 := rdF_3 (M := pgM MM) (g := g) (b := b') (p := p) (l := l) hok hk3
      rw [e3] at hl ⊢
      have q1 := dgF_len (b := b') (e := e)
      refine wc_region ?_
      refine wl_alloc TF.z28 st rfl ?_
      intro b11 w st
      refine wl_nil ?_
      refine then_go ?_
      refine wc_seq ?_
      refine wc_region ?_
      refine wl_val (v_move' (by conv => (lhs; whnf))) rfl ?_
      refine wl_val (v_move' (by conv => (lhs; whnf))) rfl ?_
      refine wl_call rfl (c_rdig st.im (st.at (i := 2) rfl) (st.none (i := 2) rfl) hb' hbl') rfl ?_
      rintro v95 w ⟨t95, hE95, v2, rfl, hs2⟩
      have st := st.step 2 rfl t95 hE95
      refine wl_val (v_move' (by conv => (lhs; whnf))) rfl ?_
      refine wl_val (v_extract rfl rfl) rfl ?_
      refine wl_val (v_extract rfl rfl) rfl ?_
      refine wl_storeW 0 st rfl TF.t28 rfl rfl (by rw [List.size_toArray, length_bs]; exact q1) rfl (one_bs _) ?_
      intro w st
      refine wl_val (v_assign' (by conv => (lhs; whnf))) rfl ?_
      refine wl_nil ?_
      refine then_go ?_
      refine wc_region ?_
      refine wl_val (v_move' (by conv => (lhs; whnf))) rfl ?_
      refine wl_val (v_load rfl (st.reads (v := arr (dgF b' e).1) 0 rfl TF.t28 (getV_all (by rw [List.size_toArray, length_bs]; exact q1)))) rfl ?_
      refine wl_val (v_load rfl (st.reads (v := arr p) 1 rfl TF.t28 (getV_all (by rw [size_arr]; exact hp)))) rfl ?_
      refine wl_val (v_move' (by conv => (lhs; whnf))) rfl ?_
      have st := K.St.joinLast (pre := [_, _]) (l := rdL rb mb (.slice la l.length lc) l (dgF b' e).2.2) st
      refine wl_call rfl (c_rpage ih st.im hM (st.at (i := 2) rfl) (st.none (i := 2) rfl) q1 hp hn (by unfold need at hg; rw [hk3] at hg; simp at hg; omega) hl) rfl ?_
      rintro v102 w ⟨lv1, t102, hE102⟩
      have st := st.step 2 rfl t102 hE102
      have st := K.St.splitLast (pre := [_, _]) (l := rdL rb mb lv1 _ _) st
      refine wl_nil ?_
      refine block_go (then_go ?_)
      refine wc_seq ?_
      refine wc_region ?_
      refine wl_val (v_move' (by conv => (lhs; whnf))) rfl ?_
      refine wl_val (v_assign' (by conv => (lhs; whnf))) rfl ?_
      refine wl_nil ?_
      refine then_go ?_
      refine wc_ret ?_
      exact ret1 rfl ⟨rd_outL [_, _] st, hs2⟩
     ·refine wc_region ?_
      refine wl_val (v_move' (by conv => (lhs; whnf))) rfl ?_
      refine wl_call rfl (c_rfail (c := 15) st.im (st.at (i := 1) rfl) (st.none (i := 1) rfl)) rfl ?_
      rintro v35 w ⟨t35, hE35⟩
      have st := st.step 1 rfl t35 hE35
      refine wl_nil ?_
      refine block_go (then_go ?_)
      refine wc_seq ?_
      refine wc_region ?_
      refine wl_val (v_move' (by conv => (lhs; whnf))) rfl ?_
      refine wl_val (v_assign' (by conv => (lhs; whnf))) rfl ?_
      refine wl_nil ?_
      refine then_go ?_
      refine wc_ret ?_
      rw [rdF_x hok (kind_ne (c := 0) (by decide) (by simpa using h36)) (kind_ne (c := 1) (by decide) (by simpa using h38)) (kind_ne (c := 2) (by decide) (by simpa using h72)) (kind_ne (c := 3) (by decide) (by simpa using h90))]
      exact ret1 rfl ⟨rd_outL (x := (l, failE e 15)) [_] st, hb'⟩
theorem c_read {MM : PgMap} : ∀ {g : Nat}, RdC MM g := by
 intro g
 induction g with
 | zero =>
  intro b p n l e rb mb lv bv m w _ _ _ _ _ _ _ _ hg _
  exfalso
  unfold need at hg
  omega
 | succ g ih =>
  intro b p n l e rb mb lv bv m w him hM hE hm hb hbl hp hn hg hl
  exact c_read1 ih him hM hE hm hb hbl hp hn hg hl
end
end Go.Proofs.Ytonlmjpenonabaa

namespace Go.Proofs.Ytonlmjpenonabaa
open Go Go.RowKit K SH PT
def mapOf (N : List (By × Value)) : PgMap := N.foldl (fun M x => insKV (sum x.1) x M) []
theorem mapOf_snoc {N : List (By × Value)} {x : By × Value} : mapOf (N ++ [x]) = insKV (sum x.1) x (mapOf N) := by simp [mapOf]
theorem mapOf_mem : ∀ {N : List (By × Value)} {y : By × (By × Value)}, y ∈ mapOf N → y.1 = sum y.2.1 ∧ y.2 ∈ N := by
 intro N
 induction h : N.length generalizing N with
 | zero => intro y hy; have := List.eq_nil_of_length_eq_zero h; subst this; cases hy
 | succ k ih =>
  intro y hy
  have hne : N ≠ [] := by intro e; subst e; simp at h
  rw [← List.dropLast_concat_getLast hne, mapOf_snoc] at hy
  rcases mem_insKV hy with e | hy
  ·subst e
   exact ⟨rfl, List.getLast_mem hne⟩
  ·have := ih (N := N.dropLast) (by simp [h]) hy
   exact ⟨this.1, (List.dropLast_sublist N).subset this.2⟩
theorem mapOf_keys {N : List (By × Value)} : ∀ x ∈ mapOf N, x.1.length = 32 := fun x hx => by rw [(mapOf_mem hx).1, length_sum]
theorem pgF_d32 {M : By → Option By} {rd : By → By → Nat → List (By × By) → Nat → By × List (By × By) × Nat} {d p : By} {n : Nat} {l : List (By × By)} {e : Nat} (hl : D32p l) (h : ∀ b p n e, D32p (rd b p n l e).2.1) : D32p (pgF M rd d p n l e).1 := by
 unfold pgF
 split
 ·exact hl
 ·split
  ·exact hl
  ·split
   ·exact hl
   ·split <;> exact h _ _ _ _
theorem rdF_d32 {M : By → Option By} : ∀ {g : Nat} {b p : By} {n : Nat} {l : List (By × By)} {e : Nat}, D32p l → D32p (rdF M g b p n l e).2.1
 | 0, _, _, _, _, _, h => h
 | _ + 1, [], _, _, _, _, h => h
 | g + 1, k :: b, p, n, l, e, h => by
  unfold rdF
  split
  ·exact h
  ·split
   ·exact h
   ·split
    ·intro x hx
     rcases List.mem_append.1 hx with hx | hx
     ·exact h x hx
     ·rw [List.mem_singleton.1 hx]
      exact ⟨dgF_len, dgF_len⟩
    ·split
     ·exact rdF_d32 (g := g) (rdF_d32 (g := g) h)
     ·split
      ·exact pgF_d32 h fun _ _ _ _ => rdF_d32 (g := g) h
      ·exact h
def ldF (M : By → Option By) (d : By) : List (By × By) × Nat := pgF M (rdF M 515) d z32 0 [] 0
theorem ldF_d32 {M : By → Option By} {d : By} : D32p (ldF M d).1 := pgF_d32 (by intro x hx; cases hx) fun _ _ _ _ => rdF_d32 (by intro x hx; cases hx)
def LdOut (m : Mem) (v : Value) (M : By → Option By) (d : By) : Prop :=
 if (ldF M d).2 ≠ 0 then v = .tuple #[.pointer none, .int .i64 (ldF M d).2] else
 if sum (pg1 256 0 (ofLv (ldF M d).1)) = d then ∃ p, v = .tuple #[ptrP p, .int .i64 0] ∧ TreeM m p (treeOf (ofLv (ldF M d).1)) else v = .tuple #[.pointer none, .int .i64 15]
theorem ofLv_fine {Z : List (By × By)} (h : D32p Z) : Dst 0 (ofLv Z) ∧ Up (ofLv Z) ∧ D32p (ofLv Z) := ⟨(ofLv_dst fun x hx => (h x hx).1).1, up_ofLv h, ofLv_d32 h⟩
section
variable {m : Mem} {wI : World}
theorem c_load {d : By} {lv : Value} {N : List (By × Value)} (him : Im m wI) (hd : d.length = 32) (hN : PcsM m lv N) (hNl : ∀ x ∈ N, x.1.length ≤ 1000000000) (hNn : N.length ≤ 1000000000) (hl : (ldF (pgM (mapOf N)) d).1.length ≤ 100000) :
  Ret Try.prog 20 #[arr d, lv] wI fun v' w' => Out m wI w' fun m' => LdOut m' v' (pgM (mapOf N)) d := by
 have st := St.start him
 have hXd := ldF_d32 (M := pgM (mapOf N)) (d := d)
 unfold LdOut
 obtain ⟨X, hX⟩ : ∃ X, X = ldF (pgM (mapOf N)) d := ⟨_, rfl⟩
 have hX' : pgF (pgM (mapOf N)) (rdF (pgM (mapOf N)) 515) d z32 0 [] 0 = X := hX.symm
 rw [← hX] at hl hXd
 rw [← hX]
 obtain ⟨na, nc, hlv⟩ : ∃ a c, lv = .slice a N.length c := by obtain ⟨⟨_, a, c, h, _⟩, _⟩ := hN; exact ⟨a, c, h⟩
 subst hlv
 refine ret_of Try.call20 Try.func20 rfl Try.ntmps20 Try.results20 rfl ?_
 refine wc_seq ?_
 refine wc_region ?_
 refine wl_box (v := arr d) rfl st rfl ?_
 intro b2 w st
 refine wl_val (v_assign' (by conv => (lhs; whnf))) rfl ?_
 refine wl_val (v_assign' (by conv => (lhs; whnf))) rfl ?_
 refine wl_nil ?_
 refine then_go ?_
 refine wc_seq ?_
 refine wc_region ?_
 refine wl_makeMap arr (fun x : By × Value => x.2) st rfl ?_
 intro b14 w hb14 st
 refine wl_val (v_build (c' := #[.map (some b14), .slice none 0 0, .int .i64 0]) [(0, .map (some b14))] TF.z84 TF.p84 rfl ⟨0, 1, rfl, rfl, by decide, rfl⟩) rfl ?_
 refine wl_box (v := .agg #[.map (some b14), .slice none 0 0, .int .i64 0]) rfl st rfl ?_
 intro b16 w st
 refine wl_val (v_assign' (by conv => (lhs; whnf))) rfl ?_
 refine wl_nil ?_
 refine then_go ?_
 refine wc_seq ?_
 refine wc_seq ?_
 refine wc_region ?_
 refine wl_val (v_move' (by conv => (lhs; whnf))) rfl ?_
 refine wl_val (v_len_s Try.underlying29 rfl) rfl ?_
 refine wl_val (v_move' (by conv => (lhs; whnf))) rfl ?_
 refine wl_nil ?_
 refine then_go ?_
 refine wc_block ?_
 refine wc_loop (S := Nat) (fun q r w' => ∃ (i : Nat), q + i = N.length ∧ r 2 = .pointer (some ⟨b2, 0, none⟩) ∧ r 6 = .pointer (some ⟨b16, 0, none⟩) ∧ r 17 = .slice na N.length nc ∧ r 18 = .int .i64 N.length ∧ r 19 = .int .i64 i ∧ St m m [] wI w' [rdB b16 b14 (.slice none 0 0) 0, mapE arr (fun x : By × Value => x.2) b14 (mapOf (N.take i)), K.blk b2 (bs d).toArray 28]) id N.length ⟨0, by omega, rfl, rfl, rfl, rfl, rfl, st⟩ ?_
 clear st
 rintro q r w2 ⟨i, hqi, g2, g6, g17, g18, g19, st⟩
 refine wc_o 2 g2 (wc_o 6 g6 (wc_o 17 g17 (wc_o 18 g18 (wc_o 19 g19 ?_))))
 refine wc_seq ?_
 refine wc_region ?_
 refine wl_val (v_lss rfl rfl) rfl ?_
 refine wl_nil ?_
 refine then_go ?_
 refine wc_seq ?_
 refine wc_if rfl (fun h20 => ?_) (fun h20 => ?_)
 ·refine wc_skip ?_
  refine then_go ?_
  refine wc_seq ?_
  refine wc_block ?_
  refine wc_seq ?_
  have hi : i < N.length := by omega
  obtain ⟨nb, no, _, hnv, hs0, hrd⟩ := hN.elem hi
  cases hnv
  have hsl := hNl _ (List.getElem_mem hi)
  refine wc_region ?_
  refine wl_val (v_ias i Try.underlying29 TF.t37 rfl rfl (by first | rfl | omega) (by first | omega | (dsimp only at *; omega))) rfl ?_
  refine wl_val (v_load rfl (hrd st.im)) rfl ?_
  refine wl_val (v_assign' (by conv => (lhs; whnf))) rfl ?_
  refine wl_nil ?_
  refine then_go ?_
  refine wc_draw TF.mixed ?_
  have st := st.pure (touch_drew _)
  refine fl_val 0 rfl (fun _ => (v_move' (by conv => (lhs; whnf)))) rfl (by kernel_rfl) ?_
  refine fl_val 1 rfl (fun _ => (v_nil rfl)) rfl (by kernel_rfl) ?_
  refine fl_val 2 rfl (fun _ => (v_fa TF.f84_0 rfl)) rfl (by kernel_rfl) ?_
  refine fl_ld 3 rfl (v_load rfl (st.reads 0 rfl TF.t82 rfl)) (by kernel_rfl) ?_
  refine fl_val 4 rfl (fun _ => (v_move' (by conv => (lhs; whnf)))) rfl (by kernel_rfl) ?_
  refine fl_val 6 rfl (fun _ => (v_move' (by conv => (lhs; whnf)))) rfl (by kernel_rfl) ?_
  refine fl_eff1 5 [6, 2, 1, 0] [3] (by kernel_rfl) ⟨obl_ld rfl rfl rfl (v_load rfl (st.reads 0 rfl TF.t82 rfl)), trivial⟩ rfl ?_
  refine wl_call rfl (c_tagsof st.im hs0 (by omega)) rfl ?_
  rintro v28 w ⟨t28, rfl⟩
  have st := st.pure t28
  refine wl_nil ⟨rfl, ?_⟩
  refine fl_eff1 7 [] [] (by kernel_rfl) ⟨obl_ld rfl rfl rfl (v_load rfl (st.reads 0 rfl TF.t82 rfl)), trivial⟩ rfl ?_
  refine wl_mapPut (v := N[i]) 1 st rfl dig_keyT Try.underlying82 mapOf_keys (length_sum _) rfl rfl rfl ?_
  intro w st
  refine wl_nil ⟨rfl, ?_⟩
  refine fl_nil (by kernel_rfl) trivial ?_
  refine block_go (then_go ?_)
  refine wc_region ?_
  refine wl_val (v_add' (c := ((i + 1 : Nat) : Int)) rfl rfl (by omega) (by omega) (by omega)) rfl ?_
  refine wl_val (v_move' (by conv => (lhs; whnf))) rfl ?_
  refine wl_nil ?_
  refine then_go ?_
  refine ⟨q - 1, by simp; omega, i + 1, by omega, rfl, rfl, rfl, rfl, rfl, ?_⟩
  rw [List.take_succ_eq_append_getElem hi, mapOf_snoc]
  exact st
 ·refine wc_exit (then_exit (then_exit (block_hit ?_)))
  refine then_go ?_
  refine wc_seq ?_
  have hiN : i = N.length := by omega
  subst hiN
  rw [List.take_length] at st
  obtain ⟨m1, hg1, hmap, st⟩ := st.freezeMap (i := 1) rfl (by simp)
  have hN := hN.mono hg1.le
  have hM : PgOk m1 b14 (mapOf N) := ⟨hmap, mapOf_keys, fun x hx => ⟨hN.2 _ (mapOf_mem hx).2, hNl _ (mapOf_mem hx).2⟩⟩
  have st : St m m1 [] wI w2 [rdB b16 b14 (.slice none 0 0) 0, K.blk b2 (bs d).toArray 28] := st
  have st := nilRow st 72 64
  have st : St m m1 [] wI w2 [rdB b16 b14 (.slice none 0 0) 0, lsE 72 64 prC2 (.slice none 0 0) [], K.blk b2 (bs d).toArray 28] := st.perm (List.Perm.swap _ _ _)
  have st := K.St.join (l := rdL b16 b14 (.slice none 0 0) [] 0) st
  refine wc_region ?_
  refine wl_val (v_move' (by conv => (lhs; whnf))) rfl ?_
  refine wl_val (v_load rfl (st.reads (v := arr d) 1 rfl TF.t28 (getV_all (by rw [List.size_toArray, length_bs]; exact hd)))) rfl ?_
  refine wl_val (v_build_a (c' := (bs z32).toArray) [] TF.z28 Try.underlying28 TF.t5 rfl rfl) rfl ?_
  refine wl_call rfl (c_rpage (g := 515) (n := 0) (p := z32) c_read st.im hM (st.at (i := 0) rfl) (st.none (i := 0) rfl) hd rfl (by omega) (by decide) (by rw [hX']; omega)) rfl ?_
  rintro v34 w ⟨lv1, t34, hE34⟩
  have st := st.step 0 rfl t34 hE34
  rw [hX'] at st
  have st := K.St.split (l := rdL b16 b14 lv1 X.1 X.2) st
  obtain ⟨m2, hg2, hls, st⟩ := st.keepLs (i := 1) rfl (fun x hx => len_prC2 (hXd x hx).1 (hXd x hx).2)
  have st : St m m2 [] wI w [rdB b16 b14 lv1 X.2, K.blk b2 (bs d).toArray 28] := st
  obtain ⟨xa, xc, hxv⟩ := hls.sl
  subst hxv
  refine wl_nil ?_
  refine then_go ?_
  refine wc_seq ?_
  refine wc_seq ?_
  refine wc_region ?_
  refine wl_val (v_move' (by conv => (lhs; whnf))) rfl ?_
  refine wl_val (v_nil rfl) rfl ?_
  refine wl_val (v_fa TF.f84_2 rfl) rfl ?_
  refine wl_val (v_load rfl (st.reads 0 rfl TF.t41 rfl)) rfl ?_
  refine wl_val (v_neq rfl rfl) rfl ?_
  refine wl_nil ?_
  refine then_go ?_
  refine wc_cond rfl (fun h39 => ?_) (fun h39 => ?_)
  ·refine wc_seq ?_
   refine wc_draw TF.mixed ?_
   have st := st.pure (touch_drew _)
   refine fl_val 0 rfl (fun _ => (v_move' (by conv => (lhs; whnf)))) rfl (by kernel_rfl) ?_
   refine fl_val 1 rfl (fun _ => (v_nil rfl)) rfl (by kernel_rfl) ?_
   refine fl_val 2 rfl (fun _ => (v_fa TF.f84_2 rfl)) rfl (by kernel_rfl) ?_
   refine fl_ld 3 rfl (v_load rfl (st.reads 0 rfl TF.t41 rfl)) (by kernel_rfl) ?_
   refine fl_eff1 4 [2, 1, 0] [3] (by kernel_rfl) ⟨obl_ld rfl rfl rfl (v_load rfl (st.reads 0 rfl TF.t41 rfl)), trivial⟩ rfl ?_
   refine wl_val (v_assign' (by conv => (lhs; whnf))) rfl ?_
   refine wl_nil ⟨rfl, ?_⟩
   refine fl_eff1 5 [] [] (by kernel_rfl) ⟨obl_ld rfl rfl rfl (v_load rfl (st.reads 0 rfl TF.t41 rfl)), trivial⟩ rfl ?_
   refine wl_val (v_assign' (by conv => (lhs; whnf))) rfl ?_
   refine wl_nil ⟨rfl, ?_⟩
   refine fl_nil (by kernel_rfl) trivial ?_
   refine then_go ?_
   refine wc_ret (then_ret ?_)
   have hx2 : X.2 ≠ 0 := by simpa using h39
   refine ret2 rfl rfl ((st.keepOnly (l := []) (List.nil_sublist _)).out ?_)
   rw [if_pos hx2]
   rfl
  ·refine wc_skip ?_
   refine then_go ?_
   refine wc_seq ?_
   refine wc_region ?_
   have hx2 : ¬ X.2 ≠ 0 := by simpa using h39
   refine wl_call rfl (c_tempty st.im) rfl ?_
   rintro v44 w ⟨t44, m3, hg3, hi3, p0, rfl, hp0⟩
   have st := st.grown hg3 t44 hi3
   have hls := hls.mono hg3.le
   refine wl_val (v_assign' (by conv => (lhs; whnf))) rfl ?_
   refine wl_nil ?_
   refine then_go ?_
   refine wc_seq ?_
   refine wc_seq ?_
   refine wc_region ?_
   refine wl_val (v_move' (by conv => (lhs; whnf))) rfl ?_
   refine wl_val (v_nil rfl) rfl ?_
   refine wl_val (v_fa TF.f84_1 rfl) rfl ?_
   refine wl_val (v_load rfl (st.reads 0 rfl TF.t67 rfl)) rfl ?_
   refine wl_val (v_len_s Try.underlying67 rfl) rfl ?_
   refine wl_val (v_move' (by conv => (lhs; whnf))) rfl ?_
   refine wl_nil ?_
   refine then_go ?_
   refine wc_block ?_
   refine wc_loop (S := Nat) (fun q r w' => ∃ (i p : Nat) (mm : Mem), q + i = X.1.length ∧ r 2 = .pointer (some ⟨b2, 0, none⟩) ∧ r 9 = ptrP p ∧ r 48 = .slice xa X.1.length xc ∧ r 49 = .int .i64 X.1.length ∧ r 50 = .int .i64 i ∧ LsM mm (.slice xa X.1.length xc) prC2 64 X.1 ∧ TreeM mm p (treeOf (ofLv (X.1.take i))) ∧ St m mm [] wI w' [rdB b16 b14 (.slice xa X.1.length xc) X.2, K.blk b2 (bs d).toArray 28]) id X.1.length ⟨0, p0, m3, by omega, rfl, rfl, rfl, rfl, rfl, hls, by simpa [ofLv, treeOf, canon_nil] using hp0, st⟩ ?_
   clear st hls hp0
   rintro q r w2 ⟨i, p, mm, hqi, g2, g9, g48, g49, g50, hls, hp, st⟩
   refine wc_o 2 g2 (wc_o 9 g9 (wc_o 48 g48 (wc_o 49 g49 (wc_o 50 g50 ?_))))
   refine wc_seq ?_
   refine wc_region ?_
   refine wl_val (v_lss rfl rfl) rfl ?_
   refine wl_nil ?_
   refine then_go ?_
   refine wc_seq ?_
   refine wc_if rfl (fun h51 => ?_) (fun h51 => ?_)
   ·refine wc_skip ?_
    refine then_go ?_
    refine wc_seq ?_
    refine wc_block ?_
    refine wc_seq ?_
    have hi : i < X.1.length := by omega
    obtain ⟨q1, q2⟩ := hXd _ (List.getElem_mem hi)
    obtain ⟨xb, xo, hxa⟩ := hls.ptr (by omega) (by decide)
    subst hxa
    refine wc_region ?_
    refine wl_val (v_ias i Try.underlying67 TF.t72 rfl rfl (by first | rfl | omega) (by first | omega | (dsimp only at *; omega))) rfl ?_
    refine wl_val (v_load rfl (hls.rd0 rfl hi (by decide) TF.t72 (v' := .agg (prC2 X.1[i]).toArray) (getV_all (by rw [List.size_toArray]; exact len_prC2 q1 q2)) st.im)) rfl ?_
    refine wl_alloc TF.z72 st rfl ?_
    intro b11 w st
    refine wl_storeW (cs := (prC2 X.1[i]).toArray) 0 st rfl TF.t72 rfl rfl (by rw [List.size_toArray]; exact len_prC2 q1 q2) rfl one_prC2 ?_
    intro w st
    refine wl_nil ?_
    refine then_go ?_
    refine wc_region ?_
    refine wl_val (v_move' (by conv => (lhs; whnf))) rfl ?_
    refine wl_val (v_fa TF.f72_0 rfl) rfl ?_
    refine wl_val (v_load rfl (st.reads (v := arr X.1[i].1) 0 rfl TF.t28 (prC2_a q1))) rfl ?_
    refine wl_val (v_fa TF.f72_1 rfl) rfl ?_
    refine wl_val (v_load rfl (st.reads (v := arr X.1[i].2) 0 rfl TF.t28 (prC2_v q1 q2))) rfl ?_
    have hfi := ofLv_fine (Z := X.1.take i) fun x hx => hXd x (List.mem_of_mem_take hx)
    have hle := length_ofLv (X.1.take i)
    have hz : (X.1.take i).length ≤ X.1.length := by simp; omega
    refine wl_call rfl (c_tput' st.im hp q1 q2 hfi.1 (by omega)) rfl ?_
    rintro v59 w ⟨t59, m4, hg4, hi4, p4, rfl, hp4⟩
    have st := st.grown hg4 t59 hi4
    have hls := hls.mono hg4.le
    refine wl_val (v_assign' (by conv => (lhs; whnf))) rfl ?_
    refine wl_nil ?_
    refine block_go (then_go ?_)
    refine wc_region ?_
    refine wl_val (v_add' (c := ((i + 1 : Nat) : Int)) rfl rfl (by omega) (by omega) (by omega)) rfl ?_
    refine wl_val (v_move' (by conv => (lhs; whnf))) rfl ?_
    refine wl_nil ?_
    refine then_go ?_
    refine ⟨q - 1, by simp; omega, i + 1, p4, m4, by omega, rfl, rfl, rfl, rfl, rfl, hls, ?_, st.keepOnly (List.sublist_append_right [_] [_, _])⟩
    rw [List.take_succ_eq_append_getElem hi, ofLv_snoc]
    exact hp4
   ·refine wc_exit (then_exit (then_exit (block_hit ?_)))
    refine then_go ?_
    refine wc_seq ?_
    refine wc_seq ?_
    refine wc_region ?_
    refine wl_val (v_move' (by conv => (lhs; whnf))) rfl ?_
    have hiX : i = X.1.length := by omega
    subst hiX
    rw [List.take_length] at hp
    obtain ⟨hfD, hfU, hfd⟩ := ofLv_fine hXd
    have hle := length_ofLv X.1
    refine wl_call rfl (c_save st.im hp hfD hfU hfd (by omega)) rfl ?_
    rintro v63 w ⟨t63, m5, hg5, hi5, sv2, N2, rfl, hN2, hs2⟩
    have st := st.grown hg5 t63 hi5
    have hp := hp.mono hg5.le
    refine wl_val (v_move' (by conv => (lhs; whnf))) rfl ?_
    refine wl_val (v_extract rfl rfl) rfl ?_
    refine wl_val (v_extract rfl rfl) rfl ?_
    refine wl_alloc TF.z28 st rfl ?_
    intro b12 w st
    refine wl_storeW (cs := (bs (sum (pg1 256 0 (ofLv X.1)))).toArray) 0 st rfl TF.t28 rfl rfl (by rw [List.size_toArray, length_bs, length_sum]) rfl (one_bs _) ?_
    intro w st
    refine wl_val (v_assign' (by conv => (lhs; whnf))) rfl ?_
    refine wl_nil ?_
    refine then_go ?_
    refine wc_seq ?_
    refine wc_region ?_
    refine wl_val (v_load rfl (st.reads (v := arr (sum (pg1 256 0 (ofLv X.1)))) 0 rfl TF.t28 (getV_all (by rw [List.size_toArray, length_bs, length_sum])))) rfl ?_
    refine wl_val (v_load rfl (st.reads (v := arr d) 2 rfl TF.t28 (getV_all (by rw [List.size_toArray, length_bs]; exact hd)))) rfl ?_
    refine wl_val (v_ne_arr Try.underlying28 TF.t5 Try.underlying5 TF.e28 rfl rfl (length_sum _) hd) rfl ?_
    refine wl_nil ?_
    refine then_go ?_
    refine wc_cond rfl (fun h68 => ?_) (fun h68 => ?_)
    ·refine wc_seq ?_
     refine wc_region ?_
     refine wl_val (v_assign' (by conv => (lhs; whnf))) rfl ?_
     refine wl_val (v_assign' (by conv => (lhs; whnf))) rfl ?_
     refine wl_nil ?_
     refine then_go ?_
     refine wc_ret (then_ret ?_)
     have hne : ¬ sum (pg1 256 0 (ofLv X.1)) = d := by simpa using h68
     refine ret2 rfl rfl ((st.keepOnly (l := []) (List.nil_sublist _)).out ?_)
     rw [if_neg hx2, if_neg hne]
     rfl
    ·refine wc_skip ?_
     refine then_go ?_
     refine wc_seq ?_
     refine wc_region ?_
     refine wl_val (v_move' (by conv => (lhs; whnf))) rfl ?_
     refine wl_val (v_assign' (by conv => (lhs; whnf))) rfl ?_
     refine wl_val (v_assign' (by conv => (lhs; whnf))) rfl ?_
     refine wl_nil ?_
     refine then_go ?_
     refine wc_ret ?_
     have heq : sum (pg1 256 0 (ofLv X.1)) = d := by simpa using h68
     refine ret2 rfl rfl ((st.keepOnly (l := []) (List.nil_sublist _)).out ?_)
     rw [if_neg hx2, if_pos heq]
     exact ⟨p, rfl, hp⟩
end
end Go.Proofs.Ytonlmjpenonabaa

namespace Go.Proofs.Ytonlmjpenonabaa
open Go Go.RowKit K SH PT
theorem rdF_err {M : By → Option By} {G : Nat} {b p : By} {n : Nat} {l : List (By × By)} {e : Nat} (h : e ≠ 0) : rdF M (G + 1) b p n l e = ([], l, e) := by
 have hf : failE e 15 = e := by rw [failE, if_neg h]
 cases b with
 | nil => rw [rdF_nil, hf]
 | cons k b => rw [rdF_bad (.inl h), hf]
theorem dgF_at {a t : By} {e : Nat} (h : a.length = 32) : dgF (a ++ t) e = (a, t, e) := by
 unfold dgF
 rw [if_neg (by simp; omega), List.take_left' h, List.drop_left' h]
def Pre (p : By) (d : Nat) (L : List (By × By)) : Prop := ∀ x ∈ L, ∀ k, k < d → bit x.1 k = bit p k
theorem Pre.half {p : By} {d : Nat} {L : List (By × By)} (h : Pre p d L) (hp : p.length = 32) (hd : d < 256) (on : Bool) : Pre (setB p d on) (d + 1) (halfL L d on) := by
 intro x hx k hk
 obtain ⟨hx1, hx2⟩ := (mem_half hd).1 hx
 rw [bit_setB hp hd (by omega)]
 split
 ·rename_i e; rw [e]; exact hx2
 ·exact h x hx1 k (by omega)
section
variable {M : By → Option By}
theorem rd_wh : ∀ {g d : Nat} {L : List (By × By)} {p t : By} {l : List (By × By)} {G : Nat}, g + d = 256 → Dst d L → Up L → D32p L → p.length = 32 → Pre p d L → 2 * (257 - d) + 1 ≤ G →
  rdF M G (wh g d L ++ t) p d l 0 = (t, l ++ L, 0)
 | g, d, [], p, t, l, G, hgd, _, _, _, _, _, hG => by
  obtain ⟨G, rfl⟩ : ∃ G', G = G' + 1 := ⟨G - 1, by omega⟩
  rw [wh_nil]
  show rdF M (G + 1) (0 :: t) p d l 0 = _
  rw [rdF_0 (by omega) rfl, List.append_nil]
 | g, d, [x], p, t, l, G, hgd, _, _, hL, hp, hpre, hG => by
  obtain ⟨G, rfl⟩ : ∃ G', G = G' + 1 := ⟨G - 1, by omega⟩
  obtain ⟨h1, h2⟩ := hL x (by simp)
  rw [wh_one]
  show rdF M (G + 1) (1 :: ((x.1 ++ x.2) ++ t)) p d l 0 = _
  rw [rdF_1 (by omega) rfl, List.append_assoc, dgF_at h1]
  show ((dgF (x.2 ++ t) 0).2.1, l ++ [(x.1, (dgF (x.2 ++ t) 0).1)], if d ≤ common x.1 p then (dgF (x.2 ++ t) 0).2.2 else failE (dgF (x.2 ++ t) 0).2.2 15) = _
  rw [dgF_at h2, if_pos (common_ge (fun k hk => hpre x (by simp) k hk) (by omega))]
 | 0, d, x :: y :: L, p, t, l, G, hgd, hD, _, _, _, _, hG => by
  rw [show d = 256 by omega] at hD
  exact hD.two.elim
 | g + 1, d, x :: y :: L, p, t, l, G, hgd, hD, hU, hL, hp, hpre, hG => by
  obtain ⟨G, rfl⟩ : ∃ G', G = G' + 1 := ⟨G - 1, by omega⟩
  rw [wh_more (by simp)]
  show rdF M (G + 1) (2 :: ((wh g (d + 1) (halfL (x :: y :: L) d false) ++ wh g (d + 1) (halfL (x :: y :: L) d true)) ++ t)) p d l 0 = _
  rw [rdF_2 (by omega) rfl, List.append_assoc]
  rw [rd_wh (g := g) (d := d + 1) (by omega) (hD.half (by omega) false) (up_half hU) hL.half (len_setB.trans hp) (hpre.half hp (by omega) false) (by omega)]
  show rdF M G (wh g (d + 1) (halfL (x :: y :: L) d true) ++ t) (setB p d true) (d + 1) (l ++ halfL (x :: y :: L) d false) 0 = _
  rw [rd_wh (g := g) (d := d + 1) (by omega) (hD.half (by omega) true) (up_half hU) hL.half (len_setB.trans hp) (hpre.half hp (by omega) true) (by omega)]
  rw [List.append_assoc, ← up_part hU hD (by omega)]
def FullL (M : By → Option By) (S : List By) : Prop := ∀ p ∈ S, M (sum p) = some p
def HonL (M : By → Option By) (S : List By) : Prop := ∀ p ∈ S, M (sum p) = none ∨ M (sum p) = some p
def PgS (M : By → Option By) (g : Nat) : Prop := ∀ {d : Nat} {L : List (By × By)} {p : By} {l : List (By × By)} {G : Nat}, g + d = 256 → Dst d L → Up L → D32p L → p.length = 32 → Pre p d L → (0 < d → 2 ≤ L.length) → 2 * (257 - d) + 1 ≤ G → HonL M (sv g d L) →
 (FullL M (sv g d L) → pgF M (rdF M G) (sum (pg1 g d L)) p d l 0 = (l ++ L, 0)) ∧
 (¬ FullL M (sv g d L) → (pgF M (rdF M G) (sum (pg1 g d L)) p d l 0).1.length ≤ l.length + L.length ∧ (pgF M (rdF M G) (sum (pg1 g d L)) p d l 0).2 = 7)
theorem rd_side {g d : Nat} {h : List (By × By)} {p t : By} {l : List (By × By)} {G : Nat} (ih : PgS M g) (hgd : g + d = 256) (hD : Dst d h) (hU : Up h) (hL : D32p h) (hp : p.length = 32) (hpre : Pre p d h) (hG : 2 * (257 - d) + 2 ≤ G) (hon : HonL M (restB (sv g d h) h)) :
  (FullL M (restB (sv g d h) h) → rdF M G (sideB (sv g d h) (wh g d h) h ++ t) p d l 0 = (t, l ++ h, 0)) ∧
  (¬ FullL M (restB (sv g d h) h) → (rdF M G (sideB (sv g d h) (wh g d h) h ++ t) p d l 0).2.1.length ≤ l.length + h.length ∧ (rdF M G (sideB (sv g d h) (wh g d h) h ++ t) p d l 0).2.2 = 7) := by
 by_cases h2 : h.length < 2
 ·rw [sideB, if_pos h2, restB, if_pos h2]
  exact ⟨fun _ => rd_wh hgd hD hU hL hp hpre (by omega), fun hn => (hn (by intro q hq; cases hq)).elim⟩
 ·rw [restB, if_neg h2] at hon ⊢
  rw [sideB, if_neg h2]
  obtain ⟨G, rfl⟩ : ∃ G', G = G' + 1 := ⟨G - 1, by omega⟩
  show (_ → rdF M (G + 1) (3 :: (sum (pg1 g d h) ++ t)) p d l 0 = _) ∧ (_ → (rdF M (G + 1) (3 :: (sum (pg1 g d h) ++ t)) p d l 0).2.1.length ≤ _ ∧ (rdF M (G + 1) (3 :: (sum (pg1 g d h) ++ t)) p d l 0).2.2 = 7)
  rw [rdF_3 (by omega) rfl, dgF_at (length_sum _)]
  obtain ⟨i1, i2⟩ := ih (l := l) (G := G) hgd hD hU hL hp hpre (fun _ => by omega) (by omega) hon
  exact ⟨fun hf => by rw [i1 hf], fun hn => i2 hn⟩
theorem headD_wh {g d : Nat} {L : List (By × By)} : (wh g d L).headD 0 ≠ 3 := by
 match g, L with
 | g, [] => rw [wh_nil]; decide
 | g, [x] => rw [wh_one]; exact (by decide : (1 : UInt8) ≠ 3)
 | 0, x :: y :: l => exact (by decide : (2 : UInt8) ≠ 3)
 | g + 1, x :: y :: l => rw [wh_more (by simp)]; exact (by decide : (2 : UInt8) ≠ 3)
theorem pg_all {b p : By} {n : Nat} {l L : List (By × By)} {rd : By → By → Nat → List (By × By) → Nat → By × List (By × By) × Nat} {d : By} (hM : M d = some b) (hb : b.headD 0 ≠ 3) (h2 : 0 < n → 2 ≤ L.length) (h : rd b p n l 0 = ([], l ++ L, 0)) : pgF M rd d p n l 0 = (l ++ L, 0) := by
 rw [pgF_ok rfl hM (fun hh => hb hh.2), h]
 rw [h]
 simp
 omega
theorem pg_not {b p : By} {n k : Nat} {l : List (By × By)} {rd : By → By → Nat → List (By × By) → Nat → By × List (By × By) × Nat} {d : By} (hM : M d = some b) (hb : b.headD 0 ≠ 3) (h1 : (rd b p n l 0).2.1.length ≤ k) (h : (rd b p n l 0).2.2 = 7) : (pgF M rd d p n l 0).1.length ≤ k ∧ (pgF M rd d p n l 0).2 = 7 := by
 by_cases hq : 0 < (rd b p n l 0).1.length ∨ (0 < n ∧ (rd b p n l 0).2.1.length < l.length + 2)
 ·rw [pgF_bad rfl hM (fun hh => hb hh.2) hq, h]
  exact ⟨h1, rfl⟩
 ·rw [pgF_ok rfl hM (fun hh => hb hh.2) hq]
  exact ⟨h1, h⟩
theorem pg_small {g d : Nat} {L : List (By × By)} {p : By} {l : List (By × By)} {G : Nat} (hs : (wh g d L).length ≤ 512) (hgd : g + d = 256) (hD : Dst d L) (hU : Up L) (hL : D32p L) (hp : p.length = 32) (hpre : Pre p d L) (h2 : 0 < d → 2 ≤ L.length) (hG : 2 * (257 - d) + 1 ≤ G) (hon : HonL M (sv g d L)) :
 (FullL M (sv g d L) → pgF M (rdF M G) (sum (pg1 g d L)) p d l 0 = (l ++ L, 0)) ∧
 (¬ FullL M (sv g d L) → (pgF M (rdF M G) (sum (pg1 g d L)) p d l 0).1.length ≤ l.length + L.length ∧ (pgF M (rdF M G) (sum (pg1 g d L)) p d l 0).2 = 7) := by
 have e : pg1 g d L = wh g d L := by unfold pg1; rw [sv_small hs]; rfl
 rw [e]
 rw [sv_small hs] at hon ⊢
 refine ⟨fun hf => ?_, fun hn => ?_⟩
 ·have hM := hf _ (List.mem_singleton.2 rfl)
  have hr := rd_wh (M := M) (t := []) (l := l) hgd hD hU hL hp hpre hG
  rw [List.append_nil] at hr
  exact pg_all hM headD_wh h2 hr
 ·have hM : M (sum (wh g d L)) = none := (hon _ (List.mem_singleton.2 rfl)).resolve_right fun h => hn fun q hq => by rw [List.mem_singleton.1 hq]; exact h
  rw [pgF_none rfl hM]
  exact ⟨by simp, rfl⟩
theorem pg_back : ∀ {g : Nat}, PgS M g := by
 intro g
 induction g with
 | zero =>
  intro d L p l G hgd hD hU hL hp hpre h2 hG hon
  refine pg_small ?_ hgd hD hU hL hp hpre h2 hG hon
  match L, hD with
  | [], _ => rw [wh_nil]; decide
  | [x], _ => exact Nat.le_trans (wh_lt2 (by simp) hL) (by decide)
  | x :: y :: l, hD => rw [show d = 256 by omega] at hD; exact hD.two.elim
 | succ g ih =>
  intro d L p l G hgd hD hU hL hp hpre h2 hG hon
  by_cases hs : (wh (g + 1) d L).length ≤ 512
  ·exact pg_small hs hgd hD hU hL hp hpre h2 hG hon
  ·have hsv := sv_big hs
   obtain ⟨h0, e0⟩ : ∃ h0, h0 = halfL L d false := ⟨_, rfl⟩
   obtain ⟨h1, e1⟩ : ∃ h1, h1 = halfL L d true := ⟨_, rfl⟩
   have hpg : pg1 (g + 1) d L = 2 :: (sideB (sv g (d + 1) h0) (wh g (d + 1) h0) h0 ++ sideB (sv g (d + 1) h1) (wh g (d + 1) h1) h1) := by unfold pg1; rw [hsv, e0, e1]; rfl
   rw [← e0, ← e1] at hsv
   have hLs : L = h0 ++ h1 := by rw [e0, e1]; exact up_part hU hD (by omega)
   have hD0 : Dst (d + 1) h0 := e0 ▸ hD.half (by omega) false
   have hD1 : Dst (d + 1) h1 := e1 ▸ hD.half (by omega) true
   have hU0 : Up h0 := e0 ▸ up_half hU
   have hU1 : Up h1 := e1 ▸ up_half hU
   have hL0 : D32p h0 := e0 ▸ hL.half
   have hL1 : D32p h1 := e1 ▸ hL.half
   have hP0 : Pre (setB p d false) (d + 1) h0 := e0 ▸ hpre.half hp (by omega) false
   have hP1 : Pre (setB p d true) (d + 1) h1 := e1 ▸ hpre.half hp (by omega) true
   have hh : (pg1 (g + 1) d L).headD 0 ≠ 3 := by rw [hpg]; exact (by decide : (2 : UInt8) ≠ 3)
   have hm1 : pg1 (g + 1) d L ∈ sv (g + 1) d L := by rw [sv_eq]; exact List.mem_cons_self
   have hon0 : HonL M (restB (sv g (d + 1) h0) h0) := fun q hq => hon q (by rw [hsv]; exact List.mem_cons_of_mem _ (List.mem_append_left _ hq))
   have hon1 : HonL M (restB (sv g (d + 1) h1) h1) := fun q hq => hon q (by rw [hsv]; exact List.mem_cons_of_mem _ (List.mem_append_right _ hq))
   have hfull : FullL M (sv (g + 1) d L) ↔ M (sum (pg1 (g + 1) d L)) = some (pg1 (g + 1) d L) ∧ FullL M (restB (sv g (d + 1) h0) h0) ∧ FullL M (restB (sv g (d + 1) h1) h1) := by
    rw [hsv, hpg]
    unfold FullL
    simp only [List.mem_cons, List.mem_append]
    refine ⟨fun h => ⟨h _ (.inl rfl), fun q hq => h q (.inr (.inl hq)), fun q hq => h q (.inr (.inr hq))⟩, fun h q hq => ?_⟩
    rcases hq with rfl | hq | hq
    ·exact h.1
    ·exact h.2.1 q hq
    ·exact h.2.2 q hq
   rcases hon _ hm1 with hM | hM
   ·refine ⟨fun hf => absurd ((hfull.1 hf).1.symm.trans hM) (by simp), fun _ => ?_⟩
    rw [pgF_none rfl hM]
    exact ⟨by simp, rfl⟩
   ·obtain ⟨G, rfl⟩ : ∃ G', G = G' + 1 := ⟨G - 1, by omega⟩
    obtain ⟨G, rfl⟩ : ∃ G', G = G' + 1 := ⟨G - 1, by omega⟩
    obtain ⟨a1, a2⟩ := rd_side (M := M) (l := l) (t := sideB (sv g (d + 1) h1) (wh g (d + 1) h1) h1) (G := G + 1) ih (by omega) hD0 hU0 hL0 (len_setB.trans hp) hP0 (by omega) hon0
    have hr : rdF M (G + 1 + 1) (pg1 (g + 1) d L) p d l 0 = rdF M (G + 1) (rdF M (G + 1) (sideB (sv g (d + 1) h0) (wh g (d + 1) h0) h0 ++ sideB (sv g (d + 1) h1) (wh g (d + 1) h1) h1) (setB p d false) (d + 1) l 0).1 (setB p d true) (d + 1) (rdF M (G + 1) (sideB (sv g (d + 1) h0) (wh g (d + 1) h0) h0 ++ sideB (sv g (d + 1) h1) (wh g (d + 1) h1) h1) (setB p d false) (d + 1) l 0).2.1 (rdF M (G + 1) (sideB (sv g (d + 1) h0) (wh g (d + 1) h0) h0 ++ sideB (sv g (d + 1) h1) (wh g (d + 1) h1) h1) (setB p d false) (d + 1) l 0).2.2 := by
     rw [hpg]
     exact rdF_2 (by omega) rfl
    have hlen : L.length = h0.length + h1.length := by rw [hLs, List.length_append]
    by_cases f0 : FullL M (restB (sv g (d + 1) h0) h0)
    ·rw [a1 f0] at hr
     obtain ⟨b1, b2⟩ := rd_side (M := M) (l := l ++ h0) (t := []) (G := G + 1) ih (by omega) hD1 hU1 hL1 (len_setB.trans hp) hP1 (by omega) hon1
     rw [List.append_nil] at b1 b2
     by_cases f1 : FullL M (restB (sv g (d + 1) h1) h1)
     ·refine ⟨fun _ => ?_, fun hn => (hn (hfull.2 ⟨hM, f0, f1⟩)).elim⟩
      refine pg_all hM hh h2 (hr.trans ?_)
      rw [hLs, ← List.append_assoc]
      exact b1 f1
     ·refine ⟨fun hf => (f1 (hfull.1 hf).2.2).elim, fun _ => pg_not hM hh ?_ ?_⟩
      ·rw [hr]
       have := (b2 f1).1
       rw [List.length_append] at this
       show (rdF M (G + 1) (sideB (sv g (d + 1) h1) (wh g (d + 1) h1) h1) (setB p d true) (d + 1) (l ++ h0) 0).2.1.length ≤ _
       omega
      ·rw [hr]; exact (b2 f1).2
    ·obtain ⟨c1, c2⟩ := a2 f0
     rw [c2, rdF_err (e := 7) (by decide)] at hr
     refine ⟨fun hf => (f0 (hfull.1 hf).2.1).elim, fun _ => pg_not hM hh ?_ ?_⟩
     ·rw [hr]
      show (rdF M (G + 1) (sideB (sv g (d + 1) h0) (wh g (d + 1) h0) h0 ++ sideB (sv g (d + 1) h1) (wh g (d + 1) h1) h1) (setB p d false) (d + 1) l 0).2.1.length ≤ _
      omega
     ·rw [hr]
theorem ld_back {L : List (By × By)} (hD : Dst 0 L) (hU : Up L) (hL : D32p L) (hon : HonL M (sv 256 0 L)) :
  (FullL M (sv 256 0 L) → ldF M (sum (pg1 256 0 L)) = (L, 0)) ∧ (¬ FullL M (sv 256 0 L) → (ldF M (sum (pg1 256 0 L))).1.length ≤ L.length ∧ (ldF M (sum (pg1 256 0 L))).2 = 7) := by
 have h := pg_back (M := M) (g := 256) (d := 0) (L := L) (p := z32) (l := []) (G := 515) rfl hD hU hL rfl (fun _ _ k hk => by omega) (fun h => by omega) (by decide) hon
 simpa [ldF] using h
end
end Go.Proofs.Ytonlmjpenonabaa

namespace Go.Proofs.Ytonlmjpenonabaa
open Go Go.RowKit K SH
theorem ret3 {P : Program} {R : Value → World → Prop} {r : Fr} {w : World} {t u s : Nat} {v v' v'' : Value} (ht : r t = v) (hu : r u = v') (hs : r s = v'') (h : R (.tuple #[v, v', v'']) w) : bodyQ P [.tmp t, .tmp u, .tmp s] R .ret r w :=
 ⟨[v, v', v''], ⟨ht, hu, hs, trivial⟩, h⟩
section
variable {m : Mem} {wI : World}
theorem c_same17 {av bv : Value} {a b : List UInt8} (him : Im m wI) (ha : SlM m av 1 a.length (bs a)) (hb : SlM m bv 1 b.length (bs b)) :
  Ret Try.prog 37 #[av, bv] wI fun v w' => Tch wI w' [] [] ∧ v = .bool (decide (a = b)) := by
 refine ret_of Try.call37 Try.func37 rfl Try.ntmps37 Try.results37 rfl ?_
 refine wc_seq ?_
 refine wc_region ?_
 refine wl_val (v_assign' (by conv => (lhs; whnf))) rfl ?_
 refine wl_nil ?_
 refine then_go ?_
 refine wc_seq ?_
 refine wc_region ?_
 refine wl_val (v_move' (by conv => (lhs; whnf))) rfl ?_
 refine wl_val (v_b2s Try.underlying37 Try.underlying5 Try.underlying9 him ha rfl) rfl ?_
 refine wl_val (v_move' (by conv => (lhs; whnf))) rfl ?_
 refine wl_val (v_b2s Try.underlying37 Try.underlying5 Try.underlying9 him hb rfl) rfl ?_
 refine wl_val (v_eqs rfl rfl) rfl ?_
 refine wl_val (v_assign' (by conv => (lhs; whnf))) rfl ?_
 refine wl_nil ?_
 refine then_go ?_
 refine wc_ret ?_
 exact ret1 rfl ⟨Tch.refl _ _, rfl⟩
theorem c_sametexts {av bv : Value} {A B : List (List UInt8 × Value)} (him : Im m wI) (ha : PcsM m av A) (hb : PcsM m bv B) (hAB : A.map (·.1) = B.map (·.1)) (hA : A.length ≤ 1000000000) :
  Ret Try.prog 18 #[av, bv] wI fun v w' => Tch wI w' [] [] ∧ v = .bool true := by
 have st := St.start him
 have hlen : A.length = B.length := by have := congrArg List.length hAB; simpa using this
 obtain ⟨na, nc, hlv⟩ : ∃ a c, av = .slice a A.length c := by obtain ⟨⟨_, a, c, h, _⟩, _⟩ := ha; exact ⟨a, c, h⟩
 obtain ⟨nb, nd, hlb⟩ : ∃ a c, bv = .slice a B.length c := by obtain ⟨⟨_, a, c, h, _⟩, _⟩ := hb; exact ⟨a, c, h⟩
 subst hlv hlb
 refine ret_of Try.call18 Try.func18 rfl Try.ntmps18 Try.results18 rfl ?_
 refine wc_seq ?_
 refine wc_region ?_
 refine wl_val (v_assign' (by conv => (lhs; whnf))) rfl ?_
 refine wl_nil ?_
 refine then_go ?_
 refine wc_seq ?_
 refine wc_seq ?_
 refine wc_region ?_
 refine wl_val (v_move' (by conv => (lhs; whnf))) rfl ?_
 refine wl_val (v_len_s Try.underlying29 rfl) rfl ?_
 refine wl_val (v_move' (by conv => (lhs; whnf))) rfl ?_
 refine wl_val (v_len_s Try.underlying29 rfl) rfl ?_
 refine wl_val (v_neqF (a := (A.length : Int)) (b := (B.length : Int)) (by omega) rfl rfl) rfl ?_
 refine wl_nil ?_
 refine then_go ?_
 refine wc_false rfl ?_
 refine wc_skip ?_
 refine then_go ?_
 refine wc_seq ?_
 refine wc_seq ?_
 refine wc_region ?_
 refine wl_val (v_assign' (by conv => (lhs; whnf))) rfl ?_
 refine wl_nil ?_
 refine then_go ?_
 refine wc_block ?_
 refine wc_loop (S := Nat) (fun q r w' => ∃ (i : Nat), q + i = A.length ∧ r 0 = .slice na A.length nc ∧ r 1 = .slice nb B.length nd ∧ r 5 = .int .i64 i ∧ St m m [] wI w' []) id A.length ⟨0, by omega, rfl, rfl, rfl, st⟩ ?_
 clear st
 rintro q r w2 ⟨i, hqi, g0, g1, g5, st⟩
 refine wc_o 0 g0 (wc_o 1 g1 (wc_o 5 g5 ?_))
 refine wc_seq ?_
 refine wc_seq ?_
 refine wc_region ?_
 refine wl_val (v_move' (by conv => (lhs; whnf))) rfl ?_
 refine wl_val (v_move' (by conv => (lhs; whnf))) rfl ?_
 refine wl_val (v_len_s Try.underlying29 rfl) rfl ?_
 refine wl_val (v_lss rfl rfl) rfl ?_
 refine wl_nil ?_
 refine then_go ?_
 refine wc_if rfl (fun h14 => ?_) (fun h14 => ?_)
 ·refine wc_skip ?_
  refine then_go ?_
  refine wc_seq ?_
  refine wc_block ?_
  refine wc_seq ?_
  have hi : i < A.length := by omega
  have hj : i < B.length := by omega
  obtain ⟨ab, ao, _, hav, hs0, hra⟩ := ha.elem hi
  obtain ⟨bb, bo, _, hbv, hs1, hrb⟩ := hb.elem hj
  cases hav
  cases hbv
  have heq : A[i].1 = B[i].1 := by
   have := congrArg (fun l => l[i]?) hAB
   simpa [hi, hj] using this
  refine wc_draw TF.mixed ?_
  have st := st.pure (touch_drew _)
  refine fl_val 0 rfl (fun _ => (v_move' (by conv => (lhs; whnf)))) rfl (by kernel_rfl) ?_
  refine fl_val 1 rfl (fun _ => (v_move' (by conv => (lhs; whnf)))) rfl (by kernel_rfl) ?_
  refine fl_val 2 rfl (fun _ => (v_ias i Try.underlying29 TF.t37 rfl rfl (by first | rfl | omega) (by first | omega | (dsimp only at *; omega)))) rfl (by kernel_rfl) ?_
  refine fl_ld 3 rfl (v_load rfl (hra st.im)) (by kernel_rfl) ?_
  refine fl_val 4 rfl (fun _ => (v_move' (by conv => (lhs; whnf)))) rfl (by kernel_rfl) ?_
  refine fl_val 5 rfl (fun _ => (v_move' (by conv => (lhs; whnf)))) rfl (by kernel_rfl) ?_
  refine fl_val 6 rfl (fun _ => (v_ias i Try.underlying29 TF.t37 rfl rfl (by first | rfl | omega) (by first | omega | (dsimp only at *; omega)))) rfl (by kernel_rfl) ?_
  refine fl_ld 7 rfl (v_load rfl (hrb st.im)) (by kernel_rfl) ?_
  refine fl_eff1 8 [6, 5, 4, 2, 1, 0] [] (by kernel_rfl) ⟨obl_ld rfl rfl rfl (v_load rfl (hrb st.im)), obl_ld rfl rfl rfl (v_load rfl (hra st.im)), trivial⟩ rfl ?_
  refine wl_call rfl (c_same17 st.im hs0 hs1) rfl ?_
  rintro v25 w ⟨t25, rfl⟩
  have st := st.pure t25
  refine wl_nil ⟨rfl, ?_⟩
  refine fl_val 9 rfl (fun _ => (v_not rfl)) rfl (by kernel_rfl) ?_
  refine fl_nil (by kernel_rfl) trivial ?_
  refine then_go ?_
  refine wc_false (by rw [heq]; simp; rfl) ?_
  refine wc_skip ?_
  refine block_go (then_go ?_)
  refine wc_region ?_
  refine wl_val (v_move' (by conv => (lhs; whnf))) rfl ?_
  refine wl_val (v_add' (c := ((i + 1 : Nat) : Int)) rfl rfl (by omega) (by omega) (by omega)) rfl ?_
  refine wl_val (v_assign' (by conv => (lhs; whnf))) rfl ?_
  refine wl_nil ?_
  refine then_go ?_
  exact ⟨q - 1, by simp; omega, i + 1, by omega, rfl, rfl, rfl, st⟩
 ·refine wc_exit (then_exit (then_exit (block_hit ?_)))
  refine then_go ?_
  refine wc_seq ?_
  refine wc_region ?_
  refine wl_val (v_assign' (by conv => (lhs; whnf))) rfl ?_
  refine wl_nil ?_
  refine then_go ?_
  refine wc_ret ?_
  exact ret1 rfl ⟨st.touch, rfl⟩
theorem c_bclone {v : Value} {l : List UInt8} (him : Im m wI) (hv : SlM m v 1 l.length (bs l)) (hL : l.length ≤ 1099511627776) :
  Ret Try.prog 44 #[v] wI fun v' w' => Out m wI w' fun m' => SlM m' v' 1 l.length (bs l) := by
 have st := St.start him
 obtain ⟨_, a, cap, rfl, _⟩ := id hv
 refine ret_of Try.call44 Try.func44 rfl Try.ntmps44 Try.results44 rfl ?_
 refine wc_seq ?_
 refine wc_region ?_
 refine wl_val (v_assign' (by conv => (lhs; whnf))) rfl ?_
 refine wl_nil ?_
 refine then_go ?_
 refine wc_seq ?_
 refine wc_seq ?_
 refine wc_region ?_
 refine wl_val (v_move' (by conv => (lhs; whnf))) rfl ?_
 refine wl_val (v_eq_nilS Try.underlying37 rfl rfl) rfl ?_
 refine wl_nil ?_
 refine then_go ?_
 refine wc_cond rfl (fun h4 => ?_) (fun h4 => ?_)
 ·refine wc_seq ?_
  refine wc_region ?_
  refine wl_val (v_assign' (by conv => (lhs; whnf))) rfl ?_
  refine wl_nil ?_
  refine then_go ?_
  refine wc_ret (then_ret ?_)
  have hL0 : l = [] := by
   obtain ⟨_, a', c', he, hk, hn, _⟩ := hv
   cases he
   have := hn (by simpa using h4)
   exact List.eq_nil_of_length_eq_zero (by omega)
  subst hL0
  exact ret1 rfl (st.out SlM.nil)
 ·refine wc_skip ?_
  refine then_go ?_
  refine wc_seq ?_
  refine wc_region ?_
  refine wl_buildSlice0 (size := 1) Try.underlying37 TF.t5 st rfl ?_
  intro v5 w st
  have st : St m m [] wI w [rowE v5 5 1 ([] : List UInt8).length (bs [])] := st
  refine wl_val (v_move' (by conv => (lhs; whnf))) rfl ?_
  refine wl_appB (l2 := l) st Try.underlying37 Try.underlying37 (.inr ⟨_, rfl⟩) TF.t5 TF.z5 rfl rfl (hv.src st.im (one_bs _)) (by simp; omega) (by simp; omega) rfl ?_
  intro v7 w st hv7
  refine wl_val (v_assign' (by conv => (lhs; whnf))) rfl ?_
  refine wl_nil ?_
  refine then_go ?_
  refine wc_ret ?_
  exact ret1 rfl st.bytesOut
end
end Go.Proofs.Ytonlmjpenonabaa

namespace Go.Proofs.Ytonlmjpenonabaa
open Go Go.RowKit K SH PT
theorem ofLv_self {L : List (By × By)} (hD : Dst 0 L) (hU : Up L) (hL : D32p L) : ofLv L = L := by
 induction h : L.length generalizing L with
 | zero => have := List.eq_nil_of_length_eq_zero h; subst this; rfl
 | succ k ih =>
  have hne : L ≠ [] := by intro e; subst e; simp at h
  obtain ⟨x, hx⟩ : ∃ x, x = L.getLast hne := ⟨_, rfl⟩
  have hLx : L = L.dropLast ++ [x] := by rw [hx]; exact (List.dropLast_concat_getLast hne).symm
  have hD' : Dst 0 L.dropLast := ⟨hD.nodup.sublist (List.Sublist.map _ (List.dropLast_sublist L)), fun y hy => hD.len y ((List.dropLast_sublist L).subset hy), fun y _ z _ k hk => by omega⟩
  have hU' : Up L.dropLast := List.Pairwise.sublist (List.dropLast_sublist L) hU
  have hL' : D32p L.dropLast := fun y hy => hL y ((List.dropLast_sublist L).subset hy)
  have ih' := ih hD' hU' hL' (by simp [h])
  refine up_eq (up_ofLv hL) hU ?_
  rw [hLx, ofLv_snoc]
  rw [ih']
  refine (putL_perm x.1 x.2 L.dropLast).trans ?_
  have hf : L.dropLast.filter (fun y => decide (y.1 ≠ x.1)) = L.dropLast := List.filter_eq_self.2 fun y hy => by
   have hn := hD.nodup
   rw [hLx, List.map_append, List.nodup_append] at hn
   have := hn.2.2 y.1 (List.mem_map.2 ⟨y, hy, rfl⟩) x.1 (by simp)
   simpa using this
  rw [hf]
  exact (List.perm_append_comm (l₁ := [x]) (l₂ := L.dropLast))
end Go.Proofs.Ytonlmjpenonabaa

namespace Go.Proofs.Ytonlmjpenonabaa
open Go Go.RowKit K SH PT
theorem one_map {b : By} {v : Value} {d : By} : pgM (mapOf [(b, v)]) d = if sum b = d then some b else none := by
 simp only [mapOf, List.foldl_cons, List.foldl_nil, insKV, pgM, getKV]
 split <;> rfl
theorem one_no {b : By} {v : Value} {d : By} (h : sum b ≠ d) : ldF (pgM (mapOf [(b, v)])) d = ([], 7) := by
 unfold ldF
 rw [pgF_none rfl (by rw [one_map, if_neg h])]
 rfl
end Go.Proofs.Ytonlmjpenonabaa

namespace Go.Proofs.Ytonlmjpenonabaa
open Go Go.RowKit K SH
theorem fill_ones {z : Value} (hz : z.oneCell' = true) : ∀ (vs pre : List Value), (∀ v ∈ vs, v.oneCell' = true) →
  FillR (fun i => some (i * 1, 1)) (pre ++ List.replicate vs.length z).toArray ((vs.zipIdx pre.length).map fun p : Value × Nat => (p.2, p.1)) (pre ++ vs).toArray
 | [], pre, _ => by simp [FillR]
 | v :: vs, pre, h => by
  have hv := h v (by simp)
  simp only [List.zipIdx_cons, List.map_cons]
  refine fill_one pre [z] (List.replicate vs.length z) (by simp [List.replicate_succ]) (by simp) (by rw [cells_one hv]; rfl) ?_
  rw [cells_one hv]
  have ih := fill_ones hz vs (pre ++ [v]) fun u hu => h u (by simp [hu])
  simpa using ih
section
variable {P : Program} {n : Nat} {ops : Array Oper} {Q : Po} {rest : List Oper} {r : Fr} {w : World} {d : Nat} {ty : TypeId} {pos : String} {after : Array Edge} {m0 m : Mem} {F : List Nat} {w0 : World} {Es : List Ent}
theorem wl_pcsN {k : Nat} {parts : Array (Nat × Operand)} (L : List (List UInt8 × Value)) (st : St m0 m [] w0 w Es) (hk : L.length = k) (hk0 : 0 < k) (hk1 : k ≤ 1000) (hvs : (parts.toList.map fun p => (p.1, ev r p.2)) = ((L.map fun x => x.2).zipIdx.map fun p : Value × Nat => (p.2, p.1)))
  (hL : ∀ x ∈ L, SlM m x.2 1 x.1.length (bs x.1)) (hd : Nat.blt d n = true)
  (kk : ∀ m' v' w', (∀ k o, m k = some o → m' k = some o) → St m0 m' [] w0 w' Es → PcsM m' v' L → WL Try.prog n ops Q rest (upd d v' r) w') :
  WL Try.prog n ops Q (⟨some d, .buildSlice 29 k parts, ty, pos, after, none⟩ :: rest) r w := by
 have hone : ∀ v ∈ L.map (·.2), v.oneCell' = true := by
  intro v hv
  obtain ⟨x, hx, rfl⟩ := List.mem_map.1 hv
  obtain ⟨_, a, c, h, _⟩ := hL x hx
  rw [h]
  rfl
 have hfill := fill_ones (z := .slice none 0 0) rfl (L.map (·.2)) [] hone
 refine wl_buildSlice (c' := (L.map (·.2)).toArray) _ Try.underlying29 TF.t37 TF.z37 (by omega) (by omega) hvs ?_ st hd ?_
 ·have e : madeCells (Value.slice none 0 0).cells (k * 1) = ([] ++ List.replicate (L.map fun x : List UInt8 × Value => x.2).length (Value.slice none 0 0)).toArray := by
   rw [show (Value.slice none 0 0).cells = Array.replicate (0 + 1) (Value.slice none 0 0) from rfl, madeCells_rep]
   simp [hk]
  rw [e]
  exact hfill
 ·intro b w' st'
  obtain ⟨m1, hg1, hm1, st1⟩ := st'.freeze (i := 0) rfl (by simp)
  refine kk m1 _ w' hg1.le st1 ⟨?_, fun z hz => (hL z hz).mono hg1.le⟩
  rw [← hk]
  exact SlM.of hm1 (by simp) (Nat.le_refl _) (fun j u hj => by simpa using hj)
variable {T U : TypeId} {x y : Operand}
end
section
variable {m : Mem} {wI : World}
structure Rt where
 epoch : UInt64
 prev : List UInt8
 tree : List UInt8
 next : List UInt8
deriving DecidableEq
def Rt.ok (t : Rt) : Prop := t.prev.length = 32 ∧ t.tree.length = 32 ∧ t.next.length = 32
end
end Go.Proofs.Ytonlmjpenonabaa

namespace Go.Proofs.Ytonlmjpenonabaa
open Go Go.RowKit K SH PT
theorem wh_len : ∀ {g d : Nat} {L : List (By × By)}, D32p L → (wh g d L).length ≤ 1 + (66 + 2 * g) * L.length
 | g, d, [], _ => by rw [wh_nil]; simp
 | g, d, [x], h => by rw [wh_one]; have := h x (by simp); simp [this.1, this.2]; omega
 | 0, d, x :: y :: l, _ => Nat.le_add_right 1 _
 | g + 1, d, x :: y :: l, h => by
  rw [wh_halves (by simp)]
  have h1 := wh_len (g := g) (d := d + 1) (h.half (d := d) (b := false))
  have h2 := wh_len (g := g) (d := d + 1) (h.half (d := d) (b := true))
  have h3 : (halfL (x :: y :: l) d false).length + (halfL (x :: y :: l) d true).length = (x :: y :: l).length := by
   have q0 : halfL (x :: y :: l) d false = (x :: y :: l).filter fun x => !bitI x.1 d := List.filter_congr fun x _ => by cases bitI x.1 d <;> rfl
   have q1 : halfL (x :: y :: l) d true = (x :: y :: l).filter fun x => bitI x.1 d := List.filter_congr fun x _ => by cases bitI x.1 d <;> rfl
   rw [q0, q1]
   exact length_split (fun x : By × By => bitI x.1 d) _
  have e2 : (66 + 2 * g) * (halfL (x :: y :: l) d false).length + (66 + 2 * g) * (halfL (x :: y :: l) d true).length = (66 + 2 * g) * (x :: y :: l).length := by rw [← Nat.mul_add, h3]
  have e3 : (66 + 2 * (g + 1)) * (x :: y :: l).length = (66 + 2 * g) * (x :: y :: l).length + 2 * (x :: y :: l).length := by rw [← Nat.add_mul]; congr 1
  have e4 : 2 ≤ (x :: y :: l).length := by simp
  omega
theorem wh_le9 {g d : Nat} {L : List (By × By)} (h : D32p L) (hg : g ≤ 256) (hL : L.length ≤ 1000000) : (wh g d L).length ≤ 1000000000 := by
 have := wh_len (g := g) (d := d) h
 have h2 : (66 + 2 * g) * L.length ≤ 578 * 1000000 := Nat.mul_le_mul (by omega) hL
 omega
theorem DigM.sl1 {m : Mem} {b o k cap i : Nat} {L : List By} (h : DigM m (.slice (some ⟨b, o, none⟩) k cap) L) (hi : i < L.length) : SlM m (.slice (some ⟨b, o + i * 32 + 0 * 1, none⟩) (32 - 0) (32 - 0)) 1 L[i].length (bs L[i]) := by
 have hl : L[i].length = 32 := h.1 _ (List.getElem_mem hi)
 obtain ⟨_, a', c', he, _, _, hc⟩ := h.2
 cases he
 rw [hl]
 refine ⟨by rw [length_bs, hl], _, _, rfl, Nat.le_refl _, by simp, fun j u hj => ?_⟩
 have hj32 : j < 32 := by
  rcases Nat.lt_or_ge j 32 with h' | h'
  ·exact h'
  ·rw [List.getElem?_eq_none (by rw [length_bs, hl]; exact h')] at hj; cases hj
 have e := cells_digs h.1 hi
 have e2 : (digs L)[i * 32 + j]? = some u := by
  rw [← e] at hj
  simp only [cellsAt] at hj
  rw [List.getElem?_take_of_lt hj32, List.getElem?_drop] at hj
  exact hj
 obtain ⟨b', o', c, t, fr, e3, e4, e5⟩ := hc _ _ e2
 cases e3
 exact ⟨b, _, c, t, fr, rfl, e4, by rw [show o + i * 32 + 0 * 1 + j = o + (i * 32 + j) by omega]; exact e5⟩
section
variable {m : Mem} {wI : World}
theorem c_half17 {lv : Value} {L : List (By × By)} {d : Int} {on : Bool} (him : Im m wI) (hl : LvM m lv L) (hL : L.length ≤ 1099511627776) :
  Ret Try.prog 35 #[lv, .int .i64 d, .bool on] wI fun v w' => Out m wI w' fun m' => LvM m' v (halfL L d on) := by
 have st := St.start him
 obtain ⟨a1, c1, a2, c2, rfl, h1, h2⟩ := hl.open
 have hd1 : ∀ M : List (By × By), M ⊆ L → D32 (M.map (·.1)) := fun M hM x hx => by
  obtain ⟨y, hy, rfl⟩ := List.mem_map.1 hx
  exact h1.1 _ (List.mem_map.2 ⟨y, hM hy, rfl⟩)
 have hd2 : ∀ M : List (By × By), M ⊆ L → D32 (M.map (·.2)) := fun M hM x hx => by
  obtain ⟨y, hy, rfl⟩ := List.mem_map.1 hx
  exact h2.1 _ (List.mem_map.2 ⟨y, hM hy, rfl⟩)
 refine ret_of Try.call35 Try.func35 rfl Try.ntmps35 Try.results35 rfl ?_
 refine wc_seq ?_
 refine wc_region ?_
 refine wl_box (v := .agg #[.slice a1 L.length c1, .slice a2 L.length c2]) rfl st rfl ?_
 intro b3 w st
 refine wl_alloc TF.z34 st rfl ?_
 intro b6 w st
 refine wl_nil ?_
 refine then_go ?_
 refine wc_seq ?_
 refine wc_region ?_
 refine wl_val (v_build (c' := #[.slice none 0 0, .slice none 0 0]) [] TF.z34 TF.p34 rfl rfl) rfl ?_
 refine wl_alloc TF.z34 st rfl ?_
 intro b7 w st
 refine wl_storeW (cs := #[.slice none 0 0, .slice none 0 0]) 0 st rfl TF.t34 rfl rfl rfl rfl (by simp [Value.oneCell']) ?_
 intro w st
 refine wl_nil ?_
 refine then_go ?_
 refine wc_seq ?_
 refine wc_seq ?_
 refine wc_region ?_
 refine wl_val (v_assign' (by conv => (lhs; whnf))) rfl ?_
 refine wl_nil ?_
 refine then_go ?_
 refine wc_block ?_
 have st := st.nilDig.nilDig
 refine wc_loop (S := Nat) (fun q r w' => ∃ (i : Nat) (v1 v2 : Value), q + i = L.length ∧ r 1 = .int .i64 d ∧ r 2 = .bool on ∧ r 3 = .pointer (some ⟨b3, 0, none⟩) ∧ r 6 = .pointer (some ⟨b6, 0, none⟩) ∧ r 7 = .pointer (some ⟨b7, 0, none⟩) ∧ r 8 = .int .i64 i ∧ St m m [] wI w' [digE v1 ((halfL (L.take i) d on).map (·.1)), digE v2 ((halfL (L.take i) d on).map (·.2)), K.blk b7 #[v1, v2] 34, K.blk b6 #[.slice none 0 0, .slice none 0 0] 34, K.blk b3 #[.slice a1 L.length c1, .slice a2 L.length c2] 34]) id L.length ⟨0, _, _, by omega, rfl, rfl, rfl, rfl, rfl, rfl, st⟩ ?_
 rintro q r w2 ⟨i, v1, v2, hqi, g1, g2, g3, g6, g7, g8, st⟩
 refine wc_o 1 g1 (wc_o 2 g2 (wc_o 3 g3 (wc_o 6 g6 (wc_o 7 g7 (wc_o 8 g8 ?_)))))
 refine wc_seq ?_
 refine wc_seq ?_
 refine wc_region ?_
 refine wl_val (v_move' (by conv => (lhs; whnf))) rfl ?_
 refine wl_val (v_fa TF.f34_0 rfl) rfl ?_
 refine wl_val (v_load rfl (st.reads 4 rfl TF.t22 rfl)) rfl ?_
 refine wl_val (v_len_s Try.underlying22 rfl) rfl ?_
 refine wl_val (v_lss rfl rfl) rfl ?_
 refine wl_nil ?_
 refine then_go ?_
 refine wc_if rfl (fun h14 => ?_) (fun h14 => ?_)
 ·refine wc_skip ?_
  refine then_go ?_
  refine wc_seq ?_
  refine wc_block ?_
  refine wc_seq ?_
  have hi : i < L.length := by omega
  have hm1 : i < (L.map (·.1)).length := by rw [List.length_map]; exact hi
  have hm2 : i < (L.map (·.2)).length := by rw [List.length_map]; exact hi
  have hle := halfL_le (L := L.take i) (d := d) (on := on)
  have htl : (L.take i).length ≤ L.length := by simp; omega
  have e1 : (L.map (·.1))[i] = L[i].1 := by simp
  have e2 : (L.map (·.2))[i] = L[i].2 := by simp
  have l1 : L[i].1.length = 32 := by rw [← e1]; exact h1.1.get hm1
  have l2 : L[i].2.length = 32 := by rw [← e2]; exact h2.1.get hm2
  have htk := halfL_take (d := d) (on := on) hi
  obtain ⟨ba, oa, hba⟩ := h1.ptr (by omega)
  obtain ⟨bv, ov, hbv⟩ := h2.ptr (by omega)
  subst hba
  subst hbv
  refine wc_region ?_
  refine wl_val (v_fa TF.f34_0 rfl) rfl ?_
  refine wl_val (v_load rfl (st.reads 4 rfl TF.t22 rfl)) rfl ?_
  refine wl_val (v_move' (by conv => (lhs; whnf))) rfl ?_
  refine wl_val (v_ias i Try.underlying22 TF.t28 rfl rfl (by first | rfl | omega) (by first | omega | (dsimp only at *; omega))) rfl ?_
  refine wl_val (v_load rfl (h1.rd rfl hm1 e1 st.im)) rfl ?_
  refine wl_val (v_move' (by conv => (lhs; whnf))) rfl ?_
  refine wl_call rfl (c_rbit st.im l1) rfl ?_
  rintro v23 w ⟨t23, rfl⟩
  have st := st.pure t23
  refine wl_val (v_move' (by conv => (lhs; whnf))) rfl ?_
  refine wl_val (v_eqb Try.underlying4 rfl rfl) rfl ?_
  refine wl_nil ?_
  refine then_go ?_
  refine wc_cond rfl (fun h25 => ?_) (fun h25 => ?_)
  ·refine wc_seq ?_
   refine wc_draw TF.mixed ?_
   have st := st.pure (touch_drew _)
   refine fl_val 0 rfl (fun _ => (v_fa TF.f34_0 rfl)) rfl (by kernel_rfl) ?_
   refine fl_ld 1 rfl (v_load rfl (by first | exact st.reads 2 rfl TF.t22 rfl | exact st.reads 3 rfl TF.t22 rfl)) (by kernel_rfl) ?_
   refine fl_val 2 rfl (fun _ => (v_fa TF.f34_0 rfl)) rfl (by kernel_rfl) ?_
   refine fl_ld 3 rfl (v_load rfl (by first | exact st.reads 4 rfl TF.t22 rfl | exact st.reads 5 rfl TF.t22 rfl)) (by kernel_rfl) ?_
   refine fl_val 4 rfl (fun _ => (v_move' (by conv => (lhs; whnf)))) rfl (by kernel_rfl) ?_
   refine fl_val 5 rfl (fun _ => (v_ias i Try.underlying22 TF.t28 rfl rfl (by first | rfl | omega) (by first | omega | (dsimp only at *; omega)))) rfl (by kernel_rfl) ?_
   refine fl_ld 6 rfl (v_load rfl (h1.rd rfl hm1 e1 st.im)) (by kernel_rfl) ?_
   refine fl_eff1 7 [5, 4, 2, 0] [3, 1] (by kernel_rfl) ⟨obl_ld rfl rfl rfl (v_load rfl (h1.rd rfl hm1 e1 st.im)), obl_ld rfl rfl rfl (v_load rfl (by first | exact st.reads 4 rfl TF.t22 rfl | exact st.reads 5 rfl TF.t22 rfl)), obl_ld rfl rfl rfl (v_load rfl (by first | exact st.reads 2 rfl TF.t22 rfl | exact st.reads 3 rfl TF.t22 rfl)), trivial⟩ rfl ?_
   refine wl_digOne _ l1 rfl st rfl ?_
   intro b33 w st
   refine wl_nil ⟨rfl, ?_⟩
   refine fl_eff1 8 [5, 4, 2, 0] [3] (by kernel_rfl) ⟨obl_ld rfl rfl rfl (v_load rfl (by first | exact st.reads 4 rfl TF.t22 rfl | exact st.reads 5 rfl TF.t22 rfl)), obl_ld rfl rfl rfl (v_load rfl (by first | exact st.reads 2 rfl TF.t22 rfl | exact st.reads 3 rfl TF.t22 rfl)), trivial⟩ rfl ?_
   refine wl_digApp 0 st rfl l1 rfl rfl (by rw [List.length_map]; omega) rfl ?_
   intro v1' w st hv1
   refine wl_nil ⟨rfl, ?_⟩
   refine fl_val 9 rfl (fun _ => (v_fa TF.f34_0 rfl)) rfl (by kernel_rfl) ?_
   refine fl_eff1 10 [] [] (by kernel_rfl) ⟨obl_ld rfl rfl rfl (v_load rfl (by first | exact st.reads 4 rfl TF.t22 rfl | exact st.reads 5 rfl TF.t22 rfl)), trivial⟩ rfl ?_
   refine wl_store1 2 st rfl TF.t22 rfl (by conv => (lhs; whnf)) hv1 (by first | exact lt_ok rfl | decide | simp) ?_
   intro w st
   refine wl_nil ⟨rfl, ?_⟩
   refine fl_nil (by kernel_rfl) trivial ?_
   refine then_go ?_
   refine wc_draw TF.mixed ?_
   have st := st.pure (touch_drew _)
   refine fl_val 0 rfl (fun _ => (v_fa TF.f34_1 rfl)) rfl (by kernel_rfl) ?_
   refine fl_ld 1 rfl (v_load rfl (by first | exact st.reads 2 rfl TF.t22 rfl | exact st.reads 3 rfl TF.t22 rfl)) (by kernel_rfl) ?_
   refine fl_val 2 rfl (fun _ => (v_fa TF.f34_1 rfl)) rfl (by kernel_rfl) ?_
   refine fl_ld 3 rfl (v_load rfl (by first | exact st.reads 4 rfl TF.t22 rfl | exact st.reads 5 rfl TF.t22 rfl)) (by kernel_rfl) ?_
   refine fl_val 4 rfl (fun _ => (v_move' (by conv => (lhs; whnf)))) rfl (by kernel_rfl) ?_
   refine fl_val 5 rfl (fun _ => (v_ias i Try.underlying22 TF.t28 rfl rfl (by first | rfl | omega) (by first | omega | (dsimp only at *; omega)))) rfl (by kernel_rfl) ?_
   refine fl_ld 6 rfl (v_load rfl (h2.rd rfl hm2 e2 st.im)) (by kernel_rfl) ?_
   refine fl_eff1 7 [5, 4, 2, 0] [3, 1] (by kernel_rfl) ⟨obl_ld rfl rfl rfl (v_load rfl (h2.rd rfl hm2 e2 st.im)), obl_ld rfl rfl rfl (v_load rfl (by first | exact st.reads 4 rfl TF.t22 rfl | exact st.reads 5 rfl TF.t22 rfl)), obl_ld rfl rfl rfl (v_load rfl (by first | exact st.reads 2 rfl TF.t22 rfl | exact st.reads 3 rfl TF.t22 rfl)), trivial⟩ rfl ?_
   refine wl_digOne _ l2 rfl st rfl ?_
   intro b43 w st
   refine wl_nil ⟨rfl, ?_⟩
   refine fl_eff1 8 [5, 4, 2, 0] [3] (by kernel_rfl) ⟨obl_ld rfl rfl rfl (v_load rfl (by first | exact st.reads 4 rfl TF.t22 rfl | exact st.reads 5 rfl TF.t22 rfl)), obl_ld rfl rfl rfl (v_load rfl (by first | exact st.reads 2 rfl TF.t22 rfl | exact st.reads 3 rfl TF.t22 rfl)), trivial⟩ rfl ?_
   refine wl_digApp 1 st rfl l2 rfl rfl (by rw [List.length_map]; omega) rfl ?_
   intro v2' w st hv2
   refine wl_nil ⟨rfl, ?_⟩
   refine fl_val 9 rfl (fun _ => (v_fa TF.f34_1 rfl)) rfl (by kernel_rfl) ?_
   refine fl_eff1 10 [] [] (by kernel_rfl) ⟨obl_ld rfl rfl rfl (v_load rfl (by first | exact st.reads 4 rfl TF.t22 rfl | exact st.reads 5 rfl TF.t22 rfl)), trivial⟩ rfl ?_
   refine wl_store1 2 st rfl TF.t22 rfl (by conv => (lhs; whnf)) hv2 (by first | exact lt_ok rfl | decide | simp) ?_
   intro w st
   refine wl_nil ⟨rfl, ?_⟩
   refine fl_nil (by kernel_rfl) trivial ?_
   refine block_go (then_go ?_)
   refine wc_region ?_
   refine wl_val (v_move' (by conv => (lhs; whnf))) rfl ?_
   refine wl_val (v_add' rfl rfl rfl (by first | omega | (dsimp only at *; omega)) (by first | omega | (dsimp only at *; omega))) rfl ?_
   refine wl_val (v_assign' (by conv => (lhs; whnf))) rfl ?_
   refine wl_nil ?_
   refine then_go ?_
   rw [if_pos h25] at htk
   refine ⟨q - 1, by simp; omega, i + 1, v1', v2', by omega, rfl, rfl, rfl, rfl, rfl, rfl, ?_⟩
   rw [htk, List.map_append, List.map_append]
   exact st
  ·refine wc_skip ?_
   refine block_go (then_go ?_)
   refine wc_region ?_
   refine wl_val (v_move' (by conv => (lhs; whnf))) rfl ?_
   refine wl_val (v_add' rfl rfl rfl (by first | omega | (dsimp only at *; omega)) (by first | omega | (dsimp only at *; omega))) rfl ?_
   refine wl_val (v_assign' (by conv => (lhs; whnf))) rfl ?_
   refine wl_nil ?_
   refine then_go ?_
   rw [if_neg (by rw [h25]; simp), List.append_nil] at htk
   refine ⟨q - 1, by simp; omega, i + 1, v1, v2, by omega, rfl, rfl, rfl, rfl, rfl, rfl, ?_⟩
   rw [htk]
   exact st
 ·refine wc_exit (then_exit (then_exit (block_hit ?_)))
  refine then_go ?_
  refine wc_seq ?_
  refine wc_region ?_
  refine wl_val (v_load rfl (st.reads 2 rfl TF.t34 (getV_all rfl))) rfl ?_
  refine wl_storeW (cs := #[v1, v2]) 3 st rfl TF.t34 rfl rfl rfl rfl ?_ ?_
  ·intro u hu
   simp at hu
   rcases hu with rfl | rfl
   ·exact row_one (st.at (i := 0) rfl)
   ·exact row_one (st.at (i := 1) rfl)
  intro w st
  refine wl_nil ?_
  refine then_go ?_
  refine wc_ret ?_
  have hiL : i = L.length := by omega
  subst hiL
  rw [List.take_length] at st
  have hrd := st.reads (v := .agg #[v1, v2]) 3 rfl TF.t34 (getV_all rfl)
  obtain ⟨m1, hg1, hq1, st⟩ := st.keepDig (i := 0) rfl (hd1 _ List.filter_sublist.subset)
  obtain ⟨m2, hg2, hq2, st⟩ := st.keepDig (i := 0) rfl (hd2 _ List.filter_sublist.subset)
  exact ret1c rfl hrd ((st.keepOnly (l := []) (List.nil_sublist _)).out ⟨_, _, rfl, hq1.mono hg2.le, hq2⟩)
def WhC (g : Nat) : Prop := ∀ {d : Nat} {L : List (By × By)} {lv : Value} {m : Mem} {w : World}, Im m w → LvM m lv L → D32p L → Dst d L → g + d = 256 → L.length ≤ 1000000 →
 Ret Try.prog 34 #[lv, .int .i64 d] w fun v' w' => Out m w w' fun m' => SlM m' v' 1 (wh g d L).length (bs (wh g d L))
theorem c_whole0 {g d : Nat} {L : List (By × By)} {lv : Value} (ih : ∀ g', g = g' + 1 → WhC g') (him : Im m wI) (hl : LvM m lv L) (hdp : D32p L) (hD : Dst d L) (hgd : g + d = 256) (hL : L.length ≤ 1000000) :
  Ret Try.prog 34 #[lv, .int .i64 d] wI fun v' w' => Out m wI w' fun m' => SlM m' v' 1 (wh g d L).length (bs (wh g d L)) := by
 have st := St.start him
 obtain ⟨a1, c1, a2, c2, rfl, h1, h2⟩ := hl.open
 refine ret_of Try.call34 Try.func34 rfl Try.ntmps34 Try.results34 rfl ?_
 refine wc_seq ?_
 refine wc_region ?_
 refine wl_box (v := .agg #[.slice a1 L.length c1, .slice a2 L.length c2]) rfl st rfl ?_
 intro b2 w st
 refine wl_val (v_assign' (by conv => (lhs; whnf))) rfl ?_
 refine wl_nil ?_
 refine then_go ?_
 refine wc_seq ?_
 refine wc_seq ?_
 refine wc_region ?_
 refine wl_val (v_fa TF.f34_0 rfl) rfl ?_
 refine wl_val (v_load rfl (st.reads 0 rfl TF.t22 rfl)) rfl ?_
 refine wl_val (v_len_s Try.underlying22 rfl) rfl ?_
 refine wl_val (v_eql rfl rfl) rfl ?_
 refine wl_nil ?_
 refine then_go ?_
 refine wc_if rfl (fun h8 => ?_) (fun h8 => ?_)
 ·refine wc_seq ?_
  refine wc_region ?_
  refine wl_byteR 0 Try.underlying37 TF.t5 TF.z5 rfl st rfl ?_
  intro b13 w st
  refine wl_val (v_assign' (by conv => (lhs; whnf))) rfl ?_
  refine wl_nil ?_
  refine then_go ?_
  refine wc_ret (then_ret ?_)
  have hL0 : L = [] := List.eq_nil_of_length_eq_zero (by omega)
  subst hL0
  rw [wh_nil]
  exact ret1 rfl st.bytesOut
 ·refine wc_skip ?_
  refine then_go ?_
  refine wc_seq ?_
  refine wc_seq ?_
  refine wc_region ?_
  refine wl_val (v_fa TF.f34_0 rfl) rfl ?_
  refine wl_val (v_load rfl (st.reads 0 rfl TF.t22 rfl)) rfl ?_
  refine wl_val (v_len_s Try.underlying22 rfl) rfl ?_
  refine wl_val (v_eql rfl rfl) rfl ?_
  refine wl_nil ?_
  refine then_go ?_
  refine wc_if rfl (fun h13 => ?_) (fun h13 => ?_)
  ·refine wc_seq ?_
   have hx0 : 0 < L.length := by omega
   obtain ⟨hx1, hx2⟩ := hdp _ (List.getElem_mem hx0)
   have hLx : L = [L[0]] := by
    match L, hx0, h13 with
    | [x], _, _ => rfl
    | x :: y :: l, _, h => simp at h; omega
   obtain ⟨b1, o1, hb1⟩ := h1.ptr (by rw [List.length_map]; exact hx0)
   obtain ⟨b2', o2, hb2⟩ := h2.ptr (by rw [List.length_map]; exact hx0)
   subst hb1
   subst hb2
   have s1 := h1.sl1 (i := 0) (by rw [List.length_map]; exact hx0)
   have s2 := h2.sl1 (i := 0) (by rw [List.length_map]; exact hx0)
   rw [List.getElem_map] at s1 s2
   refine wc_draw TF.mixed ?_
   have st := st.pure (touch_drew _)
   refine fl_val 1 rfl (fun _ => (v_fa TF.f34_0 rfl)) rfl (by kernel_rfl) ?_
   refine fl_ld 2 rfl (v_load rfl (by first | exact st.reads 0 rfl TF.t22 rfl | exact st.reads 1 rfl TF.t22 rfl)) (by kernel_rfl) ?_
   refine fl_val 3 rfl (fun _ => (v_ias 0 Try.underlying22 TF.t28 rfl rfl (by first | rfl | omega) (by first | omega | (dsimp only at *; omega)))) rfl (by kernel_rfl) ?_
   refine fl_val 4 rfl (fun _ => (v_sla 0 32 Try.underlying28 TF.t5 rfl rfl rfl (by omega) (by omega) (by omega))) rfl (by kernel_rfl) ?_
   refine fl_val 5 rfl (fun _ => (v_fa TF.f34_1 rfl)) rfl (by kernel_rfl) ?_
   refine fl_ld 6 rfl (v_load rfl (by first | exact st.reads 0 rfl TF.t22 rfl | exact st.reads 1 rfl TF.t22 rfl)) (by kernel_rfl) ?_
   refine fl_val 7 rfl (fun _ => (v_ias 0 Try.underlying22 TF.t28 rfl rfl (by first | rfl | omega) (by first | omega | (dsimp only at *; omega)))) rfl (by kernel_rfl) ?_
   refine fl_val 8 rfl (fun _ => (v_sla 0 32 Try.underlying28 TF.t5 rfl rfl rfl (by omega) (by omega) (by omega))) rfl (by kernel_rfl) ?_
   refine fl_eff1 0 [8, 7, 5, 4, 3, 1] [6, 2] (by kernel_rfl) ⟨obl_ld rfl rfl rfl (v_load rfl (by first | exact st.reads 0 rfl TF.t22 rfl | exact st.reads 1 rfl TF.t22 rfl)), obl_ld rfl rfl rfl (v_load rfl (by first | exact st.reads 0 rfl TF.t22 rfl | exact st.reads 1 rfl TF.t22 rfl)), trivial⟩ rfl ?_
   refine wl_byte1 1 Try.underlying37 TF.t5 TF.z5 rfl st rfl ?_
   intro b14 w st
   obtain ⟨m1, hg1, hm1, st⟩ := st.freeze (i := 0) rfl (by simp)
   change St _ _ _ _ _ [_] at st
   have hs0 : SlM m1 (.slice (some ⟨b14, 0, none⟩) 1 1) 1 ([1] : By).length (bs [1]) := SlM.ofBlock (pre := []) (post := []) hm1 (by simp) rfl (Nat.le_refl _)
   have s1 := s1.mono hg1.le
   have s2 := s2.mono hg1.le
   refine wl_nil ⟨rfl, ?_⟩
   refine fl_eff1 9 [7, 5, 3, 1] [6, 2] (by kernel_rfl) ⟨obl_ld rfl rfl rfl (v_load rfl (by first | exact st.reads 0 rfl TF.t22 rfl | exact st.reads 1 rfl TF.t22 rfl)), obl_ld rfl rfl rfl (v_load rfl (by first | exact st.reads 0 rfl TF.t22 rfl | exact st.reads 1 rfl TF.t22 rfl)), trivial⟩ rfl ?_
   refine wl_pcsN [(([1] : By), _), (L[0].1, _), (L[0].2, _)] st rfl (by decide) (by decide) rfl (by simp only [List.mem_cons, List.not_mem_nil, or_false]; rintro z (rfl | rfl | rfl) <;> first | exact hs0 | exact s1 | exact s2) rfl ?_
   intro m3 v23 w hle3 st hp3
   refine wl_nil ⟨rfl, ?_⟩
   refine fl_eff1 10 [7, 5, 3, 1] [6, 2] (by kernel_rfl) ⟨obl_ld rfl rfl rfl (v_load rfl (by first | exact st.reads 0 rfl TF.t22 rfl | exact st.reads 1 rfl TF.t22 rfl)), obl_ld rfl rfl rfl (v_load rfl (by first | exact st.reads 0 rfl TF.t22 rfl | exact st.reads 1 rfl TF.t22 rfl)), trivial⟩ rfl ?_
   have hj : ∀ a b c, joinB [(([1] : By), a), (L[0].1, b), (L[0].2, c)] = (1 :: (L[0].1 ++ L[0].2) : By) := fun a b c => by simp [joinB]
   refine wl_call rfl (c_join st.im hp3 (by rw [hj]; simp [hx1, hx2]) (by simp)) rfl ?_
   rintro v24 w ⟨t24, m4, hg4, hi4, hs4⟩
   have st := st.grown hg4 t24 hi4
   rw [hj] at hs4
   refine wl_nil ⟨rfl, ?_⟩
   refine fl_eff1 11 [] [] (by kernel_rfl) ⟨obl_ld rfl rfl rfl (v_load rfl (by first | exact st.reads 0 rfl TF.t22 rfl | exact st.reads 1 rfl TF.t22 rfl)), obl_ld rfl rfl rfl (v_load rfl (by first | exact st.reads 0 rfl TF.t22 rfl | exact st.reads 1 rfl TF.t22 rfl)), trivial⟩ rfl ?_
   refine wl_val (v_assign' (by conv => (lhs; whnf))) rfl ?_
   refine wl_nil ⟨rfl, ?_⟩
   refine fl_nil (by kernel_rfl) trivial ?_
   refine then_go ?_
   refine wc_ret (then_ret ?_)
   rw [hLx, wh_one]
   exact ret1 rfl ((st.keepOnly (l := []) (List.nil_sublist _)).out hs4)
  ·refine wc_skip ?_
   refine then_go ?_
   refine wc_seq ?_
   have h2L : 2 ≤ L.length := by omega
   obtain ⟨g', hg'⟩ : ∃ g', g = g' + 1 := by
    cases g with
    | zero =>
     match L, h2L, hD with
     | x :: y :: l, _, hD => rw [show d = 256 by omega] at hD; exact hD.two.elim
    | succ g' => exact ⟨g', rfl⟩
   subst hg'
   have ihW : WhC g' := ih g' rfl
   have hl : LvM m (.agg #[.slice a1 L.length c1, .slice a2 L.length c2]) L := ⟨_, _, rfl, h1, h2⟩
   obtain ⟨A, hA⟩ : ∃ A, A = wh g' (d + 1) (halfL L d false) := ⟨_, rfl⟩
   obtain ⟨B, hB⟩ : ∃ B, B = wh g' (d + 1) (halfL L d true) := ⟨_, rfl⟩
   have hAl : A.length ≤ 1000000000 := hA ▸ wh_le9 hdp.half (by omega) (Nat.le_trans (List.length_filter_le ..) hL)
   have hBl : B.length ≤ 1000000000 := hB ▸ wh_le9 hdp.half (by omega) (Nat.le_trans (List.length_filter_le ..) hL)
   refine wc_draw TF.mixed ?_
   have st := st.pure (touch_drew _)
   show FL _ _ ?ops5 ?post5 [] [] [] _ _
   have fin : ∀ (r : Fr) (w : World) (m2 : Mem) (v25 v31 v37 v28 v34 : Value), r 2 = .pointer (some ⟨b2, 0, none⟩) → r 1 = .int .i64 d → r 25 = v25 → r 31 = v31 → r 37 = v37 → r 28 = v28 → r 34 = v34 → SlM m2 v25 1 ([2] : By).length (bs [2]) → SlM m2 v31 1 A.length (bs A) → SlM m2 v37 1 B.length (bs B) →
    St m m2 [] wI w [K.blk b2 #[.slice a1 L.length c1, .slice a2 L.length c2] 34] → FL Try.prog 40 ?ops5 ?post5 [12, 9, 6, 3, 0, 11, 10, 8, 7, 5, 4, 2, 1] [10, 4] [] r w := by
    clear st
    rintro r w m2 v25 v31 v37 v28 v34 g2 g1 g25 g31 g37 g28 g34 hs0 s1 s2 st
    refine fl_o 2 g2 (fl_o 1 g1 (fl_o 25 g25 (fl_o 31 g31 (fl_o 37 g37 (fl_o 28 g28 (fl_o 34 g34 ?_))))))
    refine fl_eff1 13 [10, 4] [] (by kernel_rfl) trivial rfl ?_
    refine wl_pcsN [(([2] : By), _), (A, _), (B, _)] st rfl (by decide) (by decide) rfl (by simp only [List.mem_cons, List.not_mem_nil, or_false]; rintro z (rfl | rfl | rfl) <;> first | exact hs0 | exact s1 | exact s2) rfl ?_
    intro m3 v38 w hle3 st hp3
    refine wl_nil ⟨rfl, ?_⟩
    refine fl_eff1 14 [10, 4] [] (by kernel_rfl) trivial rfl ?_
    have hj : ∀ a b c, joinB [(([2] : By), a), (A, b), (B, c)] = (2 :: (A ++ B) : By) := fun a b c => by simp [joinB]
    refine wl_call rfl (c_join st.im hp3 (by rw [hj]; simp; omega) (by simp)) rfl ?_
    rintro v39 w ⟨t39, m4, hg4, hi4, hs4⟩
    have st := st.grown hg4 t39 hi4
    rw [hj] at hs4
    refine wl_nil ⟨rfl, ?_⟩
    refine fl_eff1 15 [] [] (by kernel_rfl) trivial rfl ?_
    refine wl_val (v_assign' (by conv => (lhs; whnf))) rfl ?_
    refine wl_nil ⟨rfl, ?_⟩
    refine fl_nil (by kernel_rfl) trivial ?_
    refine then_go ?_
    refine wc_ret ?_
    rw [wh_more h2L, ← hA, ← hB]
    exact ret1 rfl ((st.keepOnly (l := []) (List.nil_sublist _)).out hs4)
   refine fl_ld 1 rfl (v_load rfl (st.reads (v := .agg #[.slice a1 L.length c1, .slice a2 L.length c2]) 0 rfl TF.t34 (getV_all rfl))) (by kernel_rfl) ?_
   refine fl_val 2 rfl (fun _ => (v_move' (by conv => (lhs; whnf)))) rfl (by kernel_rfl) ?_
   refine fl_val 4 rfl (fun _ => (v_move' (by conv => (lhs; whnf)))) rfl (by kernel_rfl) ?_
   refine fl_val 5 rfl (fun _ => (v_add' (c := ((d + 1 : Nat) : Int)) rfl rfl (by omega) (by omega) (by omega))) rfl (by kernel_rfl) ?_
   refine fl_ld 7 rfl (v_load rfl (st.reads (v := .agg #[.slice a1 L.length c1, .slice a2 L.length c2]) 0 rfl TF.t34 (getV_all rfl))) (by kernel_rfl) ?_
   refine fl_val 8 rfl (fun _ => (v_move' (by conv => (lhs; whnf)))) rfl (by kernel_rfl) ?_
   refine fl_val 10 rfl (fun _ => (v_move' (by conv => (lhs; whnf)))) rfl (by kernel_rfl) ?_
   refine fl_val 11 rfl (fun _ => (v_add' (c := ((d + 1 : Nat) : Int)) rfl rfl (by omega) (by omega) (by omega))) rfl (by kernel_rfl) ?_
   refine fl_effs [0, 3] (by kernel_rfl) ⟨obl_ld rfl rfl rfl (v_load rfl (st.reads (v := .agg #[.slice a1 L.length c1, .slice a2 L.length c2]) 0 rfl TF.t34 (getV_all rfl))), obl_ld rfl rfl rfl (v_load rfl (st.reads (v := .agg #[.slice a1 L.length c1, .slice a2 L.length c2]) 0 rfl TF.t34 (getV_all rfl))), trivial⟩ (all2 ?_ ?_)
   ·refine stepE 0 (pure' := [11, 10, 8, 5, 4, 2]) (lds' := [7, 1]) rfl (by kernel_rfl) (by kernel_rfl) ?_
    refine wl_byte1 2 Try.underlying37 TF.t5 TF.z5 rfl st rfl ?_
    intro b25 w st
    obtain ⟨mm25, gr25, hm25, st⟩ := st.freeze (i := 0) rfl (by simp)
    change St _ _ _ _ _ [_] at st
    have hl := hl.mono gr25.le
    have hs0 : SlM mm25 (.slice (some ⟨b25, 0, none⟩) 1 1) 1 ([2] : By).length (bs [2]) := SlM.ofBlock (pre := []) (post := []) hm25 (by simp) rfl (Nat.le_refl _)
    refine wl_nil ⟨rfl, ?_⟩
    refine fl_eff1 3 [11, 10, 8, 5, 4] [7] (by kernel_rfl) ⟨obl_ld rfl rfl rfl (v_load rfl (st.reads (v := .agg #[.slice a1 L.length c1, .slice a2 L.length c2]) 0 rfl TF.t34 (getV_all rfl))), obl_ld rfl rfl rfl (v_load rfl (st.reads (v := .agg #[.slice a1 L.length c1, .slice a2 L.length c2]) 0 rfl TF.t34 (getV_all rfl))), trivial⟩ rfl ?_
    refine wl_call rfl (c_half17 (d := d) (on := false) st.im hl (by omega)) rfl ?_
    rintro v28 w ⟨t28, mm28, gr28, im28, hF⟩
    have st := st.grown gr28 t28 im28
    have hl := hl.mono gr28.le
    have hs0 := hs0.mono gr28.le
    refine wl_nil ⟨rfl, ?_⟩
    refine fl_eff1 6 [11, 10, 8, 4] [7] (by kernel_rfl) ⟨obl_ld rfl rfl rfl (v_load rfl (st.reads (v := .agg #[.slice a1 L.length c1, .slice a2 L.length c2]) 0 rfl TF.t34 (getV_all rfl))), trivial⟩ rfl ?_
    refine wl_call rfl (ihW st.im hF hdp.half (hD.half (by omega) false) (by omega) (Nat.le_trans (List.length_filter_le ..) hL)) rfl ?_
    rintro v31 w ⟨t31, mm31, gr31, im31, s31⟩
    have st := st.grown gr31 t31 im31
    have hl := hl.mono gr31.le
    have hs0 := hs0.mono gr31.le
    have hF := hF.mono gr31.le
    rw [← hA] at s31
    refine wl_nil ⟨rfl, ?_⟩
    refine fl_eff1 9 [11, 10, 4] [] (by kernel_rfl) ⟨obl_ld rfl rfl rfl (v_load rfl (st.reads (v := .agg #[.slice a1 L.length c1, .slice a2 L.length c2]) 0 rfl TF.t34 (getV_all rfl))), trivial⟩ rfl ?_
    refine wl_call rfl (c_half17 (d := d) (on := true) st.im hl (by omega)) rfl ?_
    rintro v34 w ⟨t34, mm34, gr34, im34, hT⟩
    have st := st.grown gr34 t34 im34
    have hl := hl.mono gr34.le
    have hs0 := hs0.mono gr34.le
    have hF := hF.mono gr34.le
    have s31 := s31.mono gr34.le
    refine wl_nil ⟨rfl, ?_⟩
    refine fl_eff1 12 [10, 4] [] (by kernel_rfl) trivial rfl ?_
    refine wl_call rfl (ihW st.im hT hdp.half (hD.half (by omega) true) (by omega) (Nat.le_trans (List.length_filter_le ..) hL)) rfl ?_
    rintro v37 w ⟨t37, mm37, gr37, im37, s37⟩
    have st := st.grown gr37 t37 im37
    have hl := hl.mono gr37.le
    have hs0 := hs0.mono gr37.le
    have hF := hF.mono gr37.le
    have s31 := s31.mono gr37.le
    have hT := hT.mono gr37.le
    rw [← hB] at s37
    refine wl_nil ⟨rfl, ?_⟩
    refine FL.permB [12, 9, 6, 3, 0, 11, 10, 8, 7, 5, 4, 2, 1] [10, 4] [] (by kernel_rfl) ?_
    exact fin _ _ _ _ _ _ _ _ rfl rfl rfl rfl rfl rfl rfl hs0 s31 s37 st
   ·refine stepE 3 (pure' := [11, 10, 8, 5, 4]) (lds' := [7]) rfl (by kernel_rfl) (by kernel_rfl) ?_
    refine wl_call rfl (c_half17 (d := d) (on := false) st.im hl (by omega)) rfl ?_
    rintro v28 w ⟨t28, mm28, gr28, im28, hF⟩
    have st := st.grown gr28 t28 im28
    have hl := hl.mono gr28.le
    refine wl_nil ⟨rfl, ?_⟩
    refine fl_effs [0, 6] (by kernel_rfl) ⟨obl_ld rfl rfl rfl (v_load rfl (st.reads (v := .agg #[.slice a1 L.length c1, .slice a2 L.length c2]) 0 rfl TF.t34 (getV_all rfl))), trivial⟩ (all2 ?_ ?_)
    ·refine stepE 0 (pure' := [11, 10, 8, 5, 4]) (lds' := [7]) rfl (by kernel_rfl) (by kernel_rfl) ?_
     refine wl_byte1 2 Try.underlying37 TF.t5 TF.z5 rfl st rfl ?_
     intro b25 w st
     obtain ⟨mm25, gr25, hm25, st⟩ := st.freeze (i := 0) rfl (by simp)
     change St _ _ _ _ _ [_] at st
     have hl := hl.mono gr25.le
     have hF := hF.mono gr25.le
     have hs0 : SlM mm25 (.slice (some ⟨b25, 0, none⟩) 1 1) 1 ([2] : By).length (bs [2]) := SlM.ofBlock (pre := []) (post := []) hm25 (by simp) rfl (Nat.le_refl _)
     refine wl_nil ⟨rfl, ?_⟩
     refine fl_eff1 6 [11, 10, 8, 4] [7] (by kernel_rfl) ⟨obl_ld rfl rfl rfl (v_load rfl (st.reads (v := .agg #[.slice a1 L.length c1, .slice a2 L.length c2]) 0 rfl TF.t34 (getV_all rfl))), trivial⟩ rfl ?_
     refine wl_call rfl (ihW st.im hF hdp.half (hD.half (by omega) false) (by omega) (Nat.le_trans (List.length_filter_le ..) hL)) rfl ?_
     rintro v31 w ⟨t31, mm31, gr31, im31, s31⟩
     have st := st.grown gr31 t31 im31
     have hl := hl.mono gr31.le
     have hF := hF.mono gr31.le
     have hs0 := hs0.mono gr31.le
     rw [← hA] at s31
     refine wl_nil ⟨rfl, ?_⟩
     refine fl_eff1 9 [11, 10, 4] [] (by kernel_rfl) ⟨obl_ld rfl rfl rfl (v_load rfl (st.reads (v := .agg #[.slice a1 L.length c1, .slice a2 L.length c2]) 0 rfl TF.t34 (getV_all rfl))), trivial⟩ rfl ?_
     refine wl_call rfl (c_half17 (d := d) (on := true) st.im hl (by omega)) rfl ?_
     rintro v34 w ⟨t34, mm34, gr34, im34, hT⟩
     have st := st.grown gr34 t34 im34
     have hl := hl.mono gr34.le
     have hF := hF.mono gr34.le
     have hs0 := hs0.mono gr34.le
     have s31 := s31.mono gr34.le
     refine wl_nil ⟨rfl, ?_⟩
     refine fl_eff1 12 [10, 4] [] (by kernel_rfl) trivial rfl ?_
     refine wl_call rfl (ihW st.im hT hdp.half (hD.half (by omega) true) (by omega) (Nat.le_trans (List.length_filter_le ..) hL)) rfl ?_
     rintro v37 w ⟨t37, mm37, gr37, im37, s37⟩
     have st := st.grown gr37 t37 im37
     have hl := hl.mono gr37.le
     have hF := hF.mono gr37.le
     have hs0 := hs0.mono gr37.le
     have s31 := s31.mono gr37.le
     have hT := hT.mono gr37.le
     rw [← hB] at s37
     refine wl_nil ⟨rfl, ?_⟩
     refine FL.permB [12, 9, 6, 3, 0, 11, 10, 8, 7, 5, 4, 2, 1] [10, 4] [] (by kernel_rfl) ?_
     exact fin _ _ _ _ _ _ _ _ rfl rfl rfl rfl rfl rfl rfl hs0 s31 s37 st
    ·refine stepE 6 (pure' := [11, 10, 8, 4]) (lds' := [7]) rfl (by kernel_rfl) (by kernel_rfl) ?_
     refine wl_call rfl (ihW st.im hF hdp.half (hD.half (by omega) false) (by omega) (Nat.le_trans (List.length_filter_le ..) hL)) rfl ?_
     rintro v31 w ⟨t31, mm31, gr31, im31, s31⟩
     have st := st.grown gr31 t31 im31
     have hl := hl.mono gr31.le
     have hF := hF.mono gr31.le
     rw [← hA] at s31
     refine wl_nil ⟨rfl, ?_⟩
     refine fl_effs [0, 9] (by kernel_rfl) ⟨obl_ld rfl rfl rfl (v_load rfl (st.reads (v := .agg #[.slice a1 L.length c1, .slice a2 L.length c2]) 0 rfl TF.t34 (getV_all rfl))), trivial⟩ (all2 ?_ ?_)
     ·refine stepE 0 (pure' := [11, 10, 8, 4]) (lds' := [7]) rfl (by kernel_rfl) (by kernel_rfl) ?_
      refine wl_byte1 2 Try.underlying37 TF.t5 TF.z5 rfl st rfl ?_
      intro b25 w st
      obtain ⟨mm25, gr25, hm25, st⟩ := st.freeze (i := 0) rfl (by simp)
      change St _ _ _ _ _ [_] at st
      have hl := hl.mono gr25.le
      have hF := hF.mono gr25.le
      have s31 := s31.mono gr25.le
      have hs0 : SlM mm25 (.slice (some ⟨b25, 0, none⟩) 1 1) 1 ([2] : By).length (bs [2]) := SlM.ofBlock (pre := []) (post := []) hm25 (by simp) rfl (Nat.le_refl _)
      refine wl_nil ⟨rfl, ?_⟩
      refine fl_eff1 9 [11, 10, 4] [] (by kernel_rfl) ⟨obl_ld rfl rfl rfl (v_load rfl (st.reads (v := .agg #[.slice a1 L.length c1, .slice a2 L.length c2]) 0 rfl TF.t34 (getV_all rfl))), trivial⟩ rfl ?_
      refine wl_call rfl (c_half17 (d := d) (on := true) st.im hl (by omega)) rfl ?_
      rintro v34 w ⟨t34, mm34, gr34, im34, hT⟩
      have st := st.grown gr34 t34 im34
      have hl := hl.mono gr34.le
      have hF := hF.mono gr34.le
      have s31 := s31.mono gr34.le
      have hs0 := hs0.mono gr34.le
      refine wl_nil ⟨rfl, ?_⟩
      refine fl_eff1 12 [10, 4] [] (by kernel_rfl) trivial rfl ?_
      refine wl_call rfl (ihW st.im hT hdp.half (hD.half (by omega) true) (by omega) (Nat.le_trans (List.length_filter_le ..) hL)) rfl ?_
      rintro v37 w ⟨t37, mm37, gr37, im37, s37⟩
      have st := st.grown gr37 t37 im37
      have hl := hl.mono gr37.le
      have hF := hF.mono gr37.le
      have s31 := s31.mono gr37.le
      have hs0 := hs0.mono gr37.le
      have hT := hT.mono gr37.le
      rw [← hB] at s37
      refine wl_nil ⟨rfl, ?_⟩
      refine FL.permB [12, 9, 6, 3, 0, 11, 10, 8, 7, 5, 4, 2, 1] [10, 4] [] (by kernel_rfl) ?_
      exact fin _ _ _ _ _ _ _ _ rfl rfl rfl rfl rfl rfl rfl hs0 s31 s37 st
     ·refine stepE 9 (pure' := [11, 10, 4]) (lds' := []) rfl (by kernel_rfl) (by kernel_rfl) ?_
      refine wl_call rfl (c_half17 (d := d) (on := true) st.im hl (by omega)) rfl ?_
      rintro v34 w ⟨t34, mm34, gr34, im34, hT⟩
      have st := st.grown gr34 t34 im34
      have hl := hl.mono gr34.le
      have hF := hF.mono gr34.le
      have s31 := s31.mono gr34.le
      refine wl_nil ⟨rfl, ?_⟩
      refine fl_effs [0, 12] (by kernel_rfl) trivial (all2 ?_ ?_)
      ·refine stepE 0 (pure' := [11, 10, 4]) (lds' := []) rfl (by kernel_rfl) (by kernel_rfl) ?_
       refine wl_byte1 2 Try.underlying37 TF.t5 TF.z5 rfl st rfl ?_
       intro b25 w st
       obtain ⟨mm25, gr25, hm25, st⟩ := st.freeze (i := 0) rfl (by simp)
       change St _ _ _ _ _ [_] at st
       have hl := hl.mono gr25.le
       have hF := hF.mono gr25.le
       have s31 := s31.mono gr25.le
       have hT := hT.mono gr25.le
       have hs0 : SlM mm25 (.slice (some ⟨b25, 0, none⟩) 1 1) 1 ([2] : By).length (bs [2]) := SlM.ofBlock (pre := []) (post := []) hm25 (by simp) rfl (Nat.le_refl _)
       refine wl_nil ⟨rfl, ?_⟩
       refine fl_eff1 12 [10, 4] [] (by kernel_rfl) trivial rfl ?_
       refine wl_call rfl (ihW st.im hT hdp.half (hD.half (by omega) true) (by omega) (Nat.le_trans (List.length_filter_le ..) hL)) rfl ?_
       rintro v37 w ⟨t37, mm37, gr37, im37, s37⟩
       have st := st.grown gr37 t37 im37
       have hl := hl.mono gr37.le
       have hF := hF.mono gr37.le
       have s31 := s31.mono gr37.le
       have hT := hT.mono gr37.le
       have hs0 := hs0.mono gr37.le
       rw [← hB] at s37
       refine wl_nil ⟨rfl, ?_⟩
       refine FL.permB [12, 9, 6, 3, 0, 11, 10, 8, 7, 5, 4, 2, 1] [10, 4] [] (by kernel_rfl) ?_
       exact fin _ _ _ _ _ _ _ _ rfl rfl rfl rfl rfl rfl rfl hs0 s31 s37 st
      ·refine stepE 12 (pure' := [10, 4]) (lds' := []) rfl (by kernel_rfl) (by kernel_rfl) ?_
       refine wl_call rfl (ihW st.im hT hdp.half (hD.half (by omega) true) (by omega) (Nat.le_trans (List.length_filter_le ..) hL)) rfl ?_
       rintro v37 w ⟨t37, mm37, gr37, im37, s37⟩
       have st := st.grown gr37 t37 im37
       have hl := hl.mono gr37.le
       have hF := hF.mono gr37.le
       have s31 := s31.mono gr37.le
       have hT := hT.mono gr37.le
       rw [← hB] at s37
       refine wl_nil ⟨rfl, ?_⟩
       refine fl_eff1 0 [10, 4] [] (by kernel_rfl) trivial rfl ?_
       refine wl_byte1 2 Try.underlying37 TF.t5 TF.z5 rfl st rfl ?_
       intro b25 w st
       obtain ⟨mm25, gr25, hm25, st⟩ := st.freeze (i := 0) rfl (by simp)
       change St _ _ _ _ _ [_] at st
       have hl := hl.mono gr25.le
       have hF := hF.mono gr25.le
       have s31 := s31.mono gr25.le
       have hT := hT.mono gr25.le
       have s37 := s37.mono gr25.le
       have hs0 : SlM mm25 (.slice (some ⟨b25, 0, none⟩) 1 1) 1 ([2] : By).length (bs [2]) := SlM.ofBlock (pre := []) (post := []) hm25 (by simp) rfl (Nat.le_refl _)
       refine wl_nil ⟨rfl, ?_⟩
       refine FL.permB [12, 9, 6, 3, 0, 11, 10, 8, 7, 5, 4, 2, 1] [10, 4] [] (by kernel_rfl) ?_
       exact fin _ _ _ _ _ _ _ _ rfl rfl rfl rfl rfl rfl rfl hs0 s31 s37 st
end
end Go.Proofs.Ytonlmjpenonabaa

namespace Go.Proofs.Ytonlmjpenonabaa
open Go Go.RowKit K SH PT
def hfI (L : List (By × By)) (d : Int) (i : Nat) : List (By × By) := halfL L d (decide ((i : Int) = 1))
def accB (g d : Nat) (L : List (By × By)) (i : Nat) : By := 2 :: (List.range i).flatMap fun k => sideB (sv g (d + 1) (hfI L d k)) (wh g (d + 1) (hfI L d k)) (hfI L d k)
def accR (g d : Nat) (L : List (By × By)) (i : Nat) : List By := (List.range i).flatMap fun k => restB (sv g (d + 1) (hfI L d k)) (hfI L d k)
theorem accB_succ {g d : Nat} {L : List (By × By)} {i : Nat} : accB g d L (i + 1) = accB g d L i ++ sideB (sv g (d + 1) (hfI L d i)) (wh g (d + 1) (hfI L d i)) (hfI L d i) := by simp [accB, List.range_succ]
theorem accR_succ {g d : Nat} {L : List (By × By)} {i : Nat} : accR g d L (i + 1) = accR g d L i ++ restB (sv g (d + 1) (hfI L d i)) (hfI L d i) := by simp [accR, List.range_succ]
theorem sv_acc {g d : Nat} {L : List (By × By)} (h : ¬ (wh (g + 1) d L).length ≤ 512) : sv (g + 1) d L = accB g d L 2 :: accR g d L 2 := by
 rw [sv_big h]
 simp only [accB, accR, show List.range 2 = [0, 1] from rfl, List.flatMap_cons, List.flatMap_nil, List.append_nil]
 rfl
theorem accB_len {g d : Nat} {L : List (By × By)} {i : Nat} (hL : D32p L) (hi : i ≤ 2) : (accB g d L i).length ≤ 131 := by
 have h1 := sideB_len (g := g) (d := d + 1) (L := hfI L d 0) (D32p.half hL)
 have h2 := sideB_len (g := g) (d := d + 1) (L := hfI L d 1) (D32p.half hL)
 match i, hi with
 | 0, _ => simp [accB]
 | 1, _ => rw [accB_succ, List.length_append]; simp only [accB]; simp; omega
 | 2, _ => rw [accB_succ, accB_succ, List.length_append, List.length_append]; simp only [accB]; simp; omega
def SvC (g : Nat) : Prop := ∀ {d : Nat} {L : List (By × By)} {lv : Value} {m : Mem} {w : World}, Im m w → LvM m lv L → D32p L → Dst d L → g + d = 256 → L.length ≤ 1000000 →
 Ret Try.prog 16 #[lv, .int .i64 d] w fun v' w' => Out m w w' fun m' => ∃ v2 N, v' = .tuple #[arr (sum (pg1 g d L)), v2] ∧ PcsM m' v2 N ∧ N.map (·.1) = sv g d L
section
variable {m : Mem} {wI : World}
theorem c_whole : ∀ {g : Nat}, WhC g := by
 intro g
 induction g with
 | zero => intro d L lv m w him hl hdp hD hgd hL; exact c_whole0 (fun g' h => by cases h) him hl hdp hD hgd hL
 | succ g ih => intro d L lv m w him hl hdp hD hgd hL; exact c_whole0 (fun g' h => by cases h; exact ih) him hl hdp hD hgd hL
theorem c_rsave0 {g d : Nat} {L : List (By × By)} {lv : Value} (ih : ∀ g', g = g' + 1 → SvC g') (him : Im m wI) (hl : LvM m lv L) (hdp : D32p L) (hD : Dst d L) (hgd : g + d = 256) (hL : L.length ≤ 1000000) :
  Ret Try.prog 16 #[lv, .int .i64 d] wI fun v' w' => Out m wI w' fun m' => ∃ v2 N, v' = .tuple #[arr (sum (pg1 g d L)), v2] ∧ PcsM m' v2 N ∧ N.map (·.1) = sv g d L := by
 have st := St.start him
 have hl0 := hl
 obtain ⟨a1, c1, a2, c2, rfl, h1, h2⟩ := hl.open
 have hwl : (wh g d L).length ≤ 1000000000 := wh_le9 hdp (by omega) hL
 refine ret_of Try.call16 Try.func16 rfl Try.ntmps16 Try.results16 rfl ?_
 refine wc_seq ?_
 refine wc_region ?_
 refine wl_box (v := .agg #[.slice a1 L.length c1, .slice a2 L.length c2]) rfl st rfl ?_
 intro b2 w st
 refine wl_alloc TF.z28 st rfl ?_
 intro b4 w st
 have st : St m m [] wI w [K.blk b4 (bs z32).toArray 28, K.blk b2 #[.slice a1 L.length c1, .slice a2 L.length c2] 34] := st
 refine wl_val (v_assign' (by conv => (lhs; whnf))) rfl ?_
 refine wl_nil ?_
 refine then_go ?_
 refine wc_seq ?_
 refine wc_region ?_
 refine wl_val (v_load rfl (st.reads (v := .agg #[.slice a1 L.length c1, .slice a2 L.length c2]) 1 rfl TF.t34 (getV_all rfl))) rfl ?_
 refine wl_val (v_move' (by conv => (lhs; whnf))) rfl ?_
 refine wl_call rfl (c_whole (g := g) st.im hl0 hdp hD hgd hL) rfl ?_
 rintro v15 w ⟨t15, mm15, gr15, im15, hs6⟩
 have st := st.grown gr15 t15 im15
 have hl0 := hl0.mono gr15.le
 obtain ⟨_, xa, xc, hx6, _⟩ := id hs6
 subst hx6
 refine wl_val (v_assign' (by conv => (lhs; whnf))) rfl ?_
 refine wl_nil ?_
 refine then_go ?_
 refine wc_seq ?_
 refine wc_seq ?_
 refine wc_region ?_
 refine wl_val (v_move' (by conv => (lhs; whnf))) rfl ?_
 refine wl_val (v_len_s Try.underlying37 rfl) rfl ?_
 refine wl_val (v_leq rfl rfl) rfl ?_
 refine wl_nil ?_
 refine then_go ?_
 refine wc_if rfl (fun h18 => ?_) (fun h18 => ?_)
 ·refine wc_seq ?_
  refine wc_region ?_
  refine wl_val (v_move' (by conv => (lhs; whnf))) rfl ?_
  refine wl_call rfl (c_ref3of st.im hs6 (Nat.le_trans hwl (by decide))) rfl ?_
  rintro v20 w ⟨t20, rfl⟩
  have st := st.pure t20
  refine wl_val (v_move' (by conv => (lhs; whnf))) rfl ?_
  have hsm : (wh g d L).length ≤ 512 := by omega
  have e : pg1 g d L = wh g d L := by unfold pg1; rw [sv_small hsm]; rfl
  refine wl_svOne (v := .slice xa (wh g d L).length xc) Try.underlying29 TF.t37 TF.z37 rfl rfl st rfl ?_
  intro b22 w st
  obtain ⟨m2, hg2, hm2, st⟩ := st.freeze (i := 0) rfl (by simp)
  change St _ _ _ _ _ [_, _] at st
  have hs6 := hs6.mono hg2.le
  refine wl_storeW 0 st rfl TF.t28 rfl rfl (by simp [length_bs, length_sum]) rfl (one_bs _) ?_
  intro w st
  refine wl_val (v_assign' (by conv => (lhs; whnf))) rfl ?_
  refine wl_nil ?_
  refine then_go ?_
  refine wc_ret (then_ret ?_)
  refine ret2c rfl (st.reads (v := arr (sum (wh g d L))) 0 rfl TF.t28 (getV_all (by simp [length_bs, length_sum]))) rfl ((st.keepOnly (l := []) (List.nil_sublist _)).out ⟨.slice (some ⟨b22, 0, none⟩) 1 1, [(wh g d L, .slice xa (wh g d L).length xc)], by rw [e]; rfl, ⟨SlM.of hm2 rfl (Nat.le_refl _) (fun j u hj => by simpa using hj), fun y hy => by rw [List.mem_singleton.1 hy]; exact hs6⟩, by rw [sv_small hsm]; rfl⟩)
 ·refine wc_skip ?_
  refine then_go ?_
  refine wc_seq ?_
  have hbig : ¬ (wh g d L).length ≤ 512 := by omega
  have h2L : 2 ≤ L.length := Decidable.byContradiction fun hc => hbig (Nat.le_trans (wh_lt2 (by omega) hdp) (by decide))
  obtain ⟨g', hg'⟩ : ∃ g', g = g' + 1 := by
   cases g with
   | zero =>
    match L, h2L, hD with
    | x :: y :: l, _, hD => rw [show d = 256 by omega] at hD; exact hD.two.elim
   | succ g' => exact ⟨g', rfl⟩
  subst hg'
  have ihS : SvC g' := ih g' rfl
  refine wc_region ?_
  refine wl_byteR 2 Try.underlying37 TF.t5 TF.z5 rfl st rfl ?_
  intro b23 w st
  refine wl_val (v_assign' (by conv => (lhs; whnf))) rfl ?_
  refine wl_nil ?_
  refine then_go ?_
  refine wc_seq ?_
  refine wc_region ?_
  refine wl_val (v_assign' (by conv => (lhs; whnf))) rfl ?_
  refine wl_nil ?_
  have st := nilRow st 37 1
  refine then_go ?_
  refine wc_seq ?_
  refine wc_seq ?_
  refine wc_region ?_
  refine wl_val (v_assign' (by conv => (lhs; whnf))) rfl ?_
  refine wl_nil ?_
  refine then_go ?_
  refine wc_block ?_
  refine wc_loop (S := Nat) (fun q r w' => ∃ (i : Nat) (v6 v7 : Value) (N : List (By × Value)) (m2 : Mem), q + i = 2 ∧ r 1 = .int .i64 d ∧ r 2 = .pointer (some ⟨b2, 0, none⟩) ∧ r 4 = .pointer (some ⟨b4, 0, none⟩) ∧ r 6 = v6 ∧ r 7 = v7 ∧ r 8 = .int .i64 i ∧ N.map (·.1) = accR g' d L i ∧ PgsOk m2 N ∧ LvM m2 (.agg #[.slice a1 L.length c1, .slice a2 L.length c2]) L ∧
   St m m2 [] wI w' [rowE v7 37 1 N.length (N.map (·.2)), rowE v6 5 1 (accB g' d L i).length (bs (accB g' d L i)), K.blk b4 (bs z32).toArray 28, K.blk b2 #[.slice a1 L.length c1, .slice a2 L.length c2] 34]) id 2 ⟨0, _, _, [], _, rfl, rfl, rfl, rfl, rfl, rfl, rfl, rfl, (fun x hx => by cases hx), hl0, st⟩ ?_
  clear hl0 hl st hs6
  rintro q r w2 ⟨i, v6, v7, N, m2, hqi, g1, g2, g4, g6, g7, g8, hN, hok, hl0, st⟩
  refine wc_o 1 g1 (wc_o 2 g2 (wc_o 4 g4 (wc_o 6 g6 (wc_o 7 g7 (wc_o 8 g8 ?_)))))
  refine wc_seq ?_
  refine wc_seq ?_
  refine wc_region ?_
  refine wl_val (v_move' (by conv => (lhs; whnf))) rfl ?_
  refine wl_val (v_lss rfl rfl) rfl ?_
  refine wl_nil ?_
  refine then_go ?_
  refine wc_if rfl (fun h25 => ?_) (fun h25 => ?_)
  ·refine wc_skip ?_
   refine then_go ?_
   refine wc_seq ?_
   refine wc_block ?_
   refine wc_seq ?_
   have hi : i < 2 := by omega
   have hal := accB_len (g := g') (d := d) (i := i) hdp (by omega)
   have hRl : N.length ≤ 1000000000 := by
    rw [← List.length_map (f := Prod.fst), show N.map Prod.fst = accR g' d L i from hN]
    have h0 := sv_len (g := g') (d := d + 1) (L := hfI L d 0)
    have hh0 : (hfI L d 0).length ≤ L.length := List.length_filter_le ..
    have hr : ∀ (p : List By) (q : List (By × By)), (restB p q).length ≤ p.length := fun p q => by unfold restB; split <;> simp
    have hm0 : g' * (hfI L d 0).length ≤ 256 * 1000000 := Nat.mul_le_mul (by omega) (by omega)
    match i, hi with
    | 0, _ => simp [accR]
    | 1, _ => rw [accR_succ, List.length_append]; have := hr (sv g' (d + 1) (hfI L d 0)) (hfI L d 0); simp [accR]; omega
   have hHd : D32p (hfI L d i) := D32p.half hdp
   have hHD : Dst (d + 1) (hfI L d i) := hD.half (by omega) _
   have hHL : (hfI L d i).length ≤ 1000000 := Nat.le_trans (List.length_filter_le ..) hL
   refine wc_region ?_
   refine wl_val (v_load rfl (st.reads (v := .agg #[.slice a1 L.length c1, .slice a2 L.length c2]) 3 rfl TF.t34 (getV_all rfl))) rfl ?_
   refine wl_val (v_move' (by conv => (lhs; whnf))) rfl ?_
   refine wl_val (v_move' (by conv => (lhs; whnf))) rfl ?_
   refine wl_val (v_eql rfl rfl) rfl ?_
   refine wl_call rfl (c_half17 (d := d) (on := decide ((i : Int) = 1)) st.im hl0 (by omega)) rfl ?_
   rintro v32 w ⟨t32, mm32, gr32, im32, hH⟩
   have st := st.grown gr32 t32 im32
   have hl0 := hl0.mono gr32.le
   have hok := hok.mono gr32.le
   change LvM _ _ (hfI L d i) at hH
   have hH0 := hH
   obtain ⟨e1, f1, e2, f2, rfl, k1, k2⟩ := hH.open
   refine wl_alloc TF.z34 st rfl ?_
   intro b9 w st
   refine wl_storeW (cs := #[.slice e1 (hfI L d i).length f1, .slice e2 (hfI L d i).length f2]) 0 st rfl TF.t34 rfl rfl rfl rfl (by simp [Value.oneCell']) ?_
   intro w st
   refine wl_nil ?_
   refine then_go ?_
   refine wc_seq ?_
   refine wc_seq ?_
   refine wc_region ?_
   refine wl_val (v_fa TF.f34_0 rfl) rfl ?_
   refine wl_val (v_load rfl (st.reads (v := .slice e1 (hfI L d i).length f1) 0 rfl TF.t22 rfl)) rfl ?_
   refine wl_val (v_len_s Try.underlying22 rfl) rfl ?_
   refine wl_val (v_lss rfl rfl) rfl ?_
   refine wl_nil ?_
   refine then_go ?_
   refine wc_if rfl (fun h36 => ?_) (fun h36 => ?_)
   ·refine wc_seq ?_
    refine wc_region ?_
    refine wl_val (v_move' (by conv => (lhs; whnf))) rfl ?_
    refine wl_val (v_load rfl (st.reads (v := .agg #[.slice e1 (hfI L d i).length f1, .slice e2 (hfI L d i).length f2]) 0 rfl TF.t34 (getV_all rfl))) rfl ?_
    refine wl_val (v_move' (by conv => (lhs; whnf))) rfl ?_
    refine wl_val (v_add' (c := ((d + 1 : Nat) : Int)) rfl rfl (by omega) (by omega) (by omega)) rfl ?_
    refine wl_call rfl (c_whole (g := g') st.im hH0 hHd hHD (by omega) hHL) rfl ?_
    rintro v41 w ⟨t41, mm41, gr41, im41, hw1⟩
    have st := st.grown gr41 t41 im41
    have hl0 := hl0.mono gr41.le
    have hok := hok.mono gr41.le
    have hH0 := hH0.mono gr41.le
    have hh2 : (hfI L d i).length < 2 := by omega
    have hwl2 := wh_lt2 (g := g') (d := d + 1) hh2 hHd
    refine wl_appBi 2 (l2 := wh g' (d + 1) (hfI L d i)) st rfl Try.underlying37 Try.underlying37 (.inr ⟨_, rfl⟩) TF.t5 TF.z5 rfl rfl (hw1.src st.im (one_bs _)) (by omega) (by omega) rfl ?_
    intro v42 w st hv42
    refine wl_val (v_assign' (by conv => (lhs; whnf))) rfl ?_
    refine wl_nil ?_
    refine then_go ?_
    refine wc_exit (then_exit (block_hit ?_))
    refine then_go ?_
    refine wc_region ?_
    refine wl_val (v_move' (by conv => (lhs; whnf))) rfl ?_
    refine wl_val (v_add' rfl rfl rfl (by first | omega | (dsimp only at *; omega)) (by first | omega | (dsimp only at *; omega))) rfl ?_
    refine wl_val (v_assign' (by conv => (lhs; whnf))) rfl ?_
    refine wl_nil ?_
    refine then_go ?_
    refine ⟨q - 1, by simp; omega, i + 1, v42, v7, N, _, by omega, rfl, rfl, rfl, rfl, rfl, rfl, ?_, hok, hl0, ?_⟩
    ·rw [accR_succ, restB, if_pos hh2, List.append_nil]; exact hN
    ·rw [accB_succ, sideB, if_pos hh2]; exact st.drop 0
   ·refine wc_skip ?_
    refine then_go ?_
    refine wc_seq ?_
    refine wc_region ?_
    refine wl_val (v_load rfl (st.reads (v := .agg #[.slice e1 (hfI L d i).length f1, .slice e2 (hfI L d i).length f2]) 0 rfl TF.t34 (getV_all rfl))) rfl ?_
    refine wl_val (v_move' (by conv => (lhs; whnf))) rfl ?_
    refine wl_val (v_add' (c := ((d + 1 : Nat) : Int)) rfl rfl (by omega) (by omega) (by omega)) rfl ?_
    have hh2 : ¬ (hfI L d i).length < 2 := by omega
    refine wl_call rfl (ihS st.im hH0 hHd hHD (by omega) hHL) rfl ?_
    rintro v47 w ⟨t47, mm47, gr47, im47, v2, N2, rfl, hp2, hN2⟩
    have st := st.grown gr47 t47 im47
    have hl0 := hl0.mono gr47.le
    have hok := hok.mono gr47.le
    have hH0 := hH0.mono gr47.le
    obtain ⟨p2a, p2c, rfl⟩ : ∃ a c, v2 = .slice a N2.length c := by obtain ⟨_, a, c, h, _⟩ := hp2.1; exact ⟨a, c, h⟩
    have hN2l : N2.length ≤ 1000000000 := by
     rw [← List.length_map (f := Prod.fst), show N2.map Prod.fst = sv g' (d + 1) (hfI L d i) from hN2]
     have h0 := sv_len (g := g') (d := d + 1) (L := hfI L d i)
     have hm0 : g' * (hfI L d i).length ≤ 256 * 1000000 := Nat.mul_le_mul (by omega) hHL
     omega
    refine wl_val (v_move' (by conv => (lhs; whnf))) rfl ?_
    refine wl_val (v_extract rfl rfl) rfl ?_
    refine wl_val (v_extract rfl rfl) rfl ?_
    refine wl_alloc TF.z28 st rfl ?_
    intro b10 w st
    refine wl_storeW 0 st rfl TF.t28 rfl rfl (by simp [length_bs, length_sum]) rfl (one_bs _) ?_
    intro w st
    refine wl_val (v_assign' (by conv => (lhs; whnf))) rfl ?_
    refine wl_nil ?_
    refine then_go ?_
    refine wc_seq ?_
    refine wc_region ?_
    refine wl_val (v_move' (by conv => (lhs; whnf))) rfl ?_
    refine wl_byte1 3 Try.underlying37 TF.t5 TF.z5 rfl st rfl ?_
    intro b51 w st
    refine wl_appBi 4 (l2 := [3]) st rfl Try.underlying37 Try.underlying37 (.inr ⟨_, rfl⟩) TF.t5 TF.z5 rfl rfl (st.srcArr (off := 0) 0 rfl rfl (fun j u hj => by simpa using hj) (one_bs _)) (by simp; omega) (by simp; omega) rfl ?_
    intro v52 w st hv52
    have st := st.drop 0
    refine wl_val (v_assign' (by conv => (lhs; whnf))) rfl ?_
    refine wl_nil ?_
    refine then_go ?_
    refine wc_seq ?_
    refine wc_region ?_
    refine wl_val (v_move' (by conv => (lhs; whnf))) rfl ?_
    refine wl_val (v_sla 0 32 Try.underlying28 TF.t5 rfl rfl rfl (by omega) (by omega) (by omega)) rfl ?_
    refine wl_appBi 3 (l2 := sum (pg1 g' (d + 1) (hfI L d i))) st rfl Try.underlying37 Try.underlying37 (.inr ⟨_, rfl⟩) TF.t5 TF.z5 rfl rfl (st.srcArr (off := 0) 0 rfl (by rw [length_bs, length_sum]) (fun j u hj => by simpa using hj) (one_bs _)) (by simp [length_sum]; omega) (by simp [length_sum]; omega) rfl ?_
    intro v55 w st hv55
    refine wl_val (v_assign' (by conv => (lhs; whnf))) rfl ?_
    refine wl_nil ?_
    refine then_go ?_
    refine wc_region ?_
    refine wl_val (v_move' (by conv => (lhs; whnf))) rfl ?_
    refine wl_val (v_move' (by conv => (lhs; whnf))) rfl ?_
    refine wl_append (news := N2.map (·.2)) 2 st rfl Try.underlying29 Try.underlying29 (.inr ⟨_, rfl⟩) TF.t37 TF.z37 rfl rfl rfl (hp2.1.src st.im (fun u hu => by obtain ⟨y, hy, rfl⟩ := List.mem_map.1 hu; exact SlM.one1 (hp2.2 y hy))) (by omega) (by omega) rfl ?_
    intro v58 w _ st
    refine wl_val (v_assign' (by conv => (lhs; whnf))) rfl ?_
    refine wl_nil ?_
    refine block_go (then_go ?_)
    refine wc_region ?_
    refine wl_val (v_move' (by conv => (lhs; whnf))) rfl ?_
    refine wl_val (v_add' rfl rfl rfl (by first | omega | (dsimp only at *; omega)) (by first | omega | (dsimp only at *; omega))) rfl ?_
    refine wl_val (v_assign' (by conv => (lhs; whnf))) rfl ?_
    refine wl_nil ?_
    refine then_go ?_
    refine ⟨q - 1, by simp; omega, i + 1, v55, v58, N ++ N2, _, by omega, rfl, rfl, rfl, rfl, rfl, rfl, ?_, ?_, hl0, ?_⟩
    ·rw [accR_succ, restB, if_neg hh2, List.map_append, hN2]; rw [show N.map (·.1) = accR g' d L i from hN]
    ·intro x hx
     rcases List.mem_append.1 hx with h | h
     ·exact hok x h
     ·exact hp2.2 x h
    ·have e1 : accB g' d L i ++ [3] ++ sum (pg1 g' (d + 1) (hfI L d i)) = accB g' d L (i + 1) := by rw [accB_succ, sideB, if_neg hh2]; simp [pg1]
     have e2 : N.map (·.2) ++ N2.map (·.2) = (N ++ N2).map (·.2) := by simp
     have e3 : N.length + N2.length = (N ++ N2).length := by simp
     have st := (st.drop 0).drop 0
     change St _ _ _ _ _ [rowE v58 _ _ (N.length + N2.length) (N.map (·.2) ++ N2.map (·.2)), rowE v55 _ _ (accB g' d L i ++ [3] ++ sum (pg1 g' (d + 1) (hfI L d i))).length (bs (accB g' d L i ++ [3] ++ sum (pg1 g' (d + 1) (hfI L d i)))), _, _] at st
     rw [e1, e2, e3] at st
     exact st
  ·refine wc_exit (then_exit (then_exit (block_hit ?_)))
   refine then_go ?_
   refine wc_seq ?_
   have hi2 : i = 2 := by omega
   subst hi2
   have hsv := sv_acc hbig
   have e : pg1 (g' + 1) d L = accB g' d L 2 := by unfold pg1; rw [hsv]; rfl
   have hal := accB_len (g := g') (d := d) (i := 2) hdp (by omega)
   have hNl : N.length ≤ 1000000000 := by
    have h0 := sv_len (g := g' + 1) (d := d) (L := L)
    have hm0 : (g' + 1) * L.length ≤ 256 * 1000000 := Nat.mul_le_mul (by omega) hL
    have : N.length = (accR g' d L 2).length := by rw [← hN, List.length_map]
    rw [hsv] at h0
    simp at h0
    omega
   obtain ⟨m3, hg3, hs3, st⟩ := st.keepB (i := 1) rfl
   change St _ _ _ _ _ [_, _, _] at st
   have hok := hok.mono hg3.le
   obtain ⟨m4, hg4, hm4, st4⟩ := st.freezeR (i := 0) rfl (by simp)
   have hrow := row_SlM (m := m4) (st.at (i := 0) rfl) hm4
   have st := st4
   clear st4
   change St _ _ _ _ _ [_, _] at st
   have hs3 := hs3.mono hg4.le
   have hok := hok.mono hg4.le
   have hv6 : v6.oneCell' = true := SlM.one1 hs3
   refine wc_region ?_
   refine wl_val (v_move' (by conv => (lhs; whnf))) rfl ?_
   refine wl_svOne (v := v6) Try.underlying29 TF.t37 TF.z37 hv6 rfl st rfl ?_
   intro b60 w st
   have st := st.rowShut 0 (b := b60) (k := 1) (cap := 1) (size := 1) (xs := [v6]) rfl (by omega) rfl (by omega) rfl
   refine wl_val (v_assign' (by conv => (lhs; whnf))) rfl ?_
   refine wl_nil ?_
   refine then_go ?_
   refine wc_seq ?_
   refine wc_region ?_
   refine wl_val (v_move' (by conv => (lhs; whnf))) rfl ?_
   refine wl_call rfl (c_ref3of st.im hs3 (Nat.le_trans hal (by decide))) rfl ?_
   rintro v62 w ⟨t62, rfl⟩
   have st := st.pure t62
   refine wl_val (v_move' (by conv => (lhs; whnf))) rfl ?_
   refine wl_val (v_move' (by conv => (lhs; whnf))) rfl ?_
   refine wl_append (news := N.map (·.2)) 0 st rfl Try.underlying29 Try.underlying29 (.inr ⟨_, rfl⟩) TF.t37 TF.z37 rfl rfl rfl (hrow.src st.im (fun u hu => by obtain ⟨y, hy, rfl⟩ := List.mem_map.1 hu; exact SlM.one1 (hok y hy))) (by omega) (by omega) rfl ?_
   intro v65 w _ st
   refine wl_storeW 1 st rfl TF.t28 rfl rfl (by simp [length_bs, length_sum]) rfl (one_bs _) ?_
   intro w st
   refine wl_val (v_assign' (by conv => (lhs; whnf))) rfl ?_
   refine wl_nil ?_
   refine then_go ?_
   refine wc_ret ?_
   have hrd := st.reads (v := arr (sum (accB g' d L 2))) 1 rfl TF.t28 (getV_all (by simp [length_bs, length_sum]))
   obtain ⟨m5, hg5, hm5, st5⟩ := st.freezeR (i := 0) rfl (by simp)
   have hrow2 := row_SlM (m := m5) (st.at (i := 0) rfl) hm5
   refine ret2c rfl hrd rfl ((st5.keepOnly (l := []) (List.nil_sublist _)).out ⟨_, (accB g' d L 2, v6) :: N, by rw [e], ⟨?_, ?_⟩, ?_⟩)
   ·rw [show ((accB g' d L 2, v6) :: N).length = 1 + N.length by simp; omega]
    exact hrow2
   ·intro y hy
    rcases List.mem_cons.1 hy with h | h
    ·rw [h]; exact hs3.mono hg5.le
    ·exact (hok y h).mono hg5.le
   ·rw [List.map_cons, hN, hsv]
theorem c_rsave : ∀ {g : Nat}, SvC g := by
 intro g
 induction g with
 | zero => intro d L lv m w him hl hdp hD hgd hL; exact c_rsave0 (fun g' h => by cases h) him hl hdp hD hgd hL
 | succ g ih => intro d L lv m w him hl hdp hD hgd hL; exact c_rsave0 (fun g' h => by cases h; exact ih) him hl hdp hD hgd hL
end
end Go.Proofs.Ytonlmjpenonabaa

namespace Go.Proofs.Ytonlmjpenonabaa
open Go Go.RowKit K SH PT
theorem sv_ok : ∀ {g d : Nat} {L : List (By × By)}, D32p L → Dst d L → g + d = 256 → ∀ b ∈ sv g d L, 1 ≤ b.length ∧ b.length ≤ 512
 | 0, d, L, hL, hD, hgd, b, hb => by
  simp only [sv, List.mem_singleton] at hb
  subst hb
  refine ⟨wh_pos, ?_⟩
  match L, hD with
  | [], _ => rw [wh_nil]; decide
  | [x], _ => exact Nat.le_trans (wh_lt2 (by simp) hL) (by decide)
  | x :: y :: l, hD => rw [show d = 256 by omega] at hD; exact hD.two.elim
 | g + 1, d, L, hL, hD, hgd, b, hb => by
  by_cases hs : (wh (g + 1) d L).length ≤ 512
  ·rw [sv_small hs, List.mem_singleton] at hb
   subst hb
   exact ⟨wh_pos, hs⟩
  ·rw [sv_big hs] at hb
   have h1 := sideB_len (g := g) (d := d + 1) (hL.half (d := d) (b := false))
   have h2 := sideB_len (g := g) (d := d + 1) (hL.half (d := d) (b := true))
   have hr : ∀ {on : Bool} {b : By}, b ∈ restB (sv g (d + 1) (halfL L d on)) (halfL L d on) → 1 ≤ b.length ∧ b.length ≤ 512 := fun {on b} hb => by
    unfold restB at hb
    split at hb
    ·cases hb
    ·exact sv_ok hL.half (hD.half (by omega) on) (by omega) b hb
   rcases List.mem_cons.1 hb with hb | hb
   ·subst hb
    simp only [List.length_cons, List.length_append]
    omega
   ·rcases List.mem_append.1 hb with hb | hb
    ·exact hr hb
    ·exact hr hb
end Go.Proofs.Ytonlmjpenonabaa

namespace Go.Proofs.Ytonlmjpenonabaa
open Go Go.RowKit K SH PT
def stV : Unit → Value := fun _ => .int .i64 1
def markL (S : List By) : List (By × Unit) := S.foldl (fun M p => insKV (sum p) () M) []
theorem markL_snoc {S : List By} {p : By} : markL (S ++ [p]) = insKV (sum p) () (markL S) := by simp [markL]
theorem markL_nodup {S : List By} : ((markL S).map (·.1)).Nodup := by
 unfold markL
 have all : ∀ (S : List By) (A : List (By × Unit)), (A.map (·.1)).Nodup → ((S.foldl (fun M p => insKV (sum p) () M) A).map (·.1)).Nodup := by
  intro S
  induction S with
  | nil => intro A h; exact h
  | cons p S ih => intro A h; exact ih _ (nodup_insKV h)
 exact all S [] (by simp)
theorem markL_get {S : List By} {d : By} : getKV d (markL S) = if d ∈ S.map sum then some () else none := by
 have all : ∀ (S : List By) (A : List (By × Unit)), getKV d (S.foldl (fun M p => insKV (sum p) () M) A) = if d ∈ S.map sum then some () else getKV d A := by
  intro S
  induction S with
  | nil => intro A; simp
  | cons p S ih =>
   intro A
   rw [List.foldl_cons, ih, getKV_ins, List.map_cons]
   by_cases h1 : d ∈ S.map sum
   ·simp [h1]
   ·by_cases h2 : d = sum p
    ·simp [h2]
    ·simp [h1, h2]
 have := all S []
 simpa [markL, getKV] using this
theorem getKV_isMem {L : List (By × Unit)} {d : By} : getKV d L = some () ↔ d ∈ L.map (·.1) := by
 induction L with
 | nil => simp [getKV]
 | cons x r ih =>
  rw [getKV, List.map_cons, List.mem_cons]
  split
  ·rename_i e; simp [e]
  ·rename_i e
   rw [ih]
   exact ⟨.inr, fun h => h.resolve_left fun q => e q.symm⟩
theorem markL_mem {S : List By} {d : By} : d ∈ (markL S).map (·.1) ↔ d ∈ S.map sum := by
 rw [← getKV_isMem, markL_get]
 split
 ·rename_i h; exact ⟨fun _ => h, fun _ => rfl⟩
 ·rename_i h; exact ⟨fun q => (by cases q), fun q => (h q).elim⟩
theorem markL_keys {S : List By} : ∀ x ∈ markL S, x.1.length = 32 := fun x hx => by
 obtain ⟨p, _, hp⟩ := List.mem_map.1 (markL_mem.1 (List.mem_map.2 ⟨x, hx, rfl⟩))
 rw [← hp, length_sum]
theorem markL_len {S : List By} : (markL S).length ≤ S.length := by
 have all : ∀ (S : List By) (A : List (By × Unit)), (S.foldl (fun M p => insKV (sum p) () M) A).length ≤ S.length + A.length := by
  intro S
  induction S with
  | nil => intro A; simp
  | cons p S ih =>
   intro A
   have h1 := ih (insKV (sum p) () A)
   have h2 := len_insKV (k := sum p) (v := ()) (L := A)
   rw [List.foldl_cons, List.length_cons]
   omega
 simpa [markL] using all S []
def ldE (M : By → Option By) (d : By) : Nat := if (ldF M d).2 ≠ 0 then (ldF M d).2 else if sum (pg1 256 0 (ofLv (ldF M d).1)) = d then 0 else 15
def markF (M : By → Option By) (ds : List By) : List By := ds.flatMap fun d => sv 256 0 (ofLv (ldF M d).1)
theorem markF_snoc {M : By → Option By} {ds : List By} {d : By} : markF M (ds ++ [d]) = markF M ds ++ sv 256 0 (ofLv (ldF M d).1) := by simp [markF]
def errF (M : By → Option By) : List By → Nat
 | [] => 0
 | d :: r => if ldE M d ≠ 0 then ldE M d else errF M r
theorem errF_all {M : By → Option By} : ∀ {ds : List By}, (∀ d ∈ ds, ldE M d = 0) → errF M ds = 0
 | [], _ => rfl
 | d :: r, h => by rw [errF, if_neg (by simp [h d (by simp)]), errF_all fun x hx => h x (by simp [hx])]
theorem errF_at {M : By → Option By} : ∀ {ds : List By} {i : Nat} (hi : i < ds.length), (∀ d ∈ ds.take i, ldE M d = 0) → ldE M ds[i] ≠ 0 → errF M ds = ldE M ds[i]
 | d :: r, 0, _, _, h => by rw [errF, if_pos (by simpa using h)]; rfl
 | d :: r, i + 1, hi, h, h2 => by
  rw [errF, if_neg (by simp [h d (by simp)])]
  exact errF_at (ds := r) (i := i) (by simpa using hi) (fun x hx => h x (by simp [hx])) (by simpa using h2)
theorem ld_out {m : Mem} {v : Value} {M : By → Option By} {d : By} (h : LdOut m v M d) : ∃ (pv : Value) (e : Nat), v = .tuple #[pv, .int .i64 e] ∧ e = ldE M d ∧ (e = 0 → ∃ p, pv = ptrP p ∧ TreeM m p (treeOf (ofLv (ldF M d).1))) := by
 unfold LdOut at h
 unfold ldE
 by_cases h1 : (ldF M d).2 ≠ 0
 ·rw [if_pos h1] at h
  exact ⟨_, _, h, by rw [if_pos h1], fun e => (h1 e).elim⟩
 ·rw [if_neg h1] at h
  by_cases h2 : sum (pg1 256 0 (ofLv (ldF M d).1)) = d
  ·rw [if_pos h2] at h
   obtain ⟨p, hv, hp⟩ := h
   exact ⟨_, 0, hv, by rw [if_neg h1, if_pos h2], fun _ => ⟨p, rfl, hp⟩⟩
  ·rw [if_neg h2] at h
   exact ⟨_, 15, h, by rw [if_neg h1, if_neg h2], fun e => by cases e⟩
def MarkOut (m : Mem) (v : Value) (M : By → Option By) (ds : List By) : Prop :=
 if errF M ds ≠ 0 then v = .tuple #[.map none, .int .i64 (errF M ds)] else ∃ b, v = .tuple #[.map (some b), .int .i64 0] ∧ MapM m arr stV b (markL (markF M ds))
section
variable {m : Mem} {wI : World}
theorem c_mark {lv dv : Value} {ds : List By} {N : List (By × Value)} (him : Im m wI) (hd : DigM m dv ds) (hN : PcsM m lv N) (hNl : ∀ x ∈ N, x.1.length ≤ 1000000000) (hNn : N.length ≤ 1000000000) (hds : ds.length ≤ 1000000) (hl : ∀ d ∈ ds, (ldF (pgM (mapOf N)) d).1.length ≤ 100000) :
  Ret Try.prog 43 #[dv, lv] wI fun v' w' => Out m wI w' fun m' => MarkOut m' v' (pgM (mapOf N)) ds := by
 have st := St.start him
 obtain ⟨da, dc, rfl⟩ := hd.sl
 obtain ⟨M, hM⟩ : ∃ M, M = pgM (mapOf N) := ⟨_, rfl⟩
 rw [← hM] at hl ⊢
 refine ret_of Try.call43 Try.func43 rfl Try.ntmps43 Try.results43 rfl ?_
 refine wc_seq ?_
 refine wc_region ?_
 refine wl_val (v_assign' (by conv => (lhs; whnf))) rfl ?_
 refine wl_val (v_assign' (by conv => (lhs; whnf))) rfl ?_
 refine wl_nil ?_
 refine then_go ?_
 refine wc_seq ?_
 refine wc_region ?_
 refine wl_makeMap arr stV st rfl ?_
 intro b15 w hb15 st
 refine wl_val (v_assign' (by conv => (lhs; whnf))) rfl ?_
 refine wl_nil ?_
 refine then_go ?_
 refine wc_seq ?_
 refine wc_seq ?_
 refine wc_region ?_
 refine wl_val (v_move' (by conv => (lhs; whnf))) rfl ?_
 refine wl_val (v_len_s Try.underlying22 rfl) rfl ?_
 refine wl_val (v_move' (by conv => (lhs; whnf))) rfl ?_
 refine wl_nil ?_
 refine then_go ?_
 refine wc_block ?_
 refine wc_loop (S := Nat) (fun q r w' => ∃ (i : Nat) (m' : Mem), q + i = ds.length ∧ r 1 = lv ∧ r 6 = .map (some b15) ∧ r 16 = .slice da ds.length dc ∧ r 17 = .int .i64 ds.length ∧ r 18 = .int .i64 i ∧ (∀ d ∈ ds.take i, ldE M d = 0) ∧ (∀ k o, m k = some o → m' k = some o) ∧ St m m' [] wI w' [mapE arr stV b15 (markL (markF M (ds.take i)))]) id ds.length ⟨0, m, by omega, rfl, rfl, rfl, rfl, rfl, by simp, fun _ _ h => h, st⟩ ?_
 clear st
 rintro q r w2 ⟨i, m', hqi, g1, g6, g16, g17, g18, hz, hmm, st⟩
 refine wc_o 1 g1 (wc_o 6 g6 (wc_o 16 g16 (wc_o 17 g17 (wc_o 18 g18 ?_))))
 have hd := hd.mono hmm
 have hN := hN.mono hmm
 refine wc_seq ?_
 refine wc_region ?_
 refine wl_val (v_lss rfl rfl) rfl ?_
 refine wl_nil ?_
 refine then_go ?_
 refine wc_seq ?_
 refine wc_if rfl (fun h19 => ?_) (fun h19 => ?_)
 ·refine wc_skip ?_
  refine then_go ?_
  refine wc_seq ?_
  refine wc_block ?_
  refine wc_seq ?_
  have hi : i < ds.length := by omega
  have hd32 := hd.1 _ (List.getElem_mem hi)
  obtain ⟨db, dof, hda, hrd⟩ := hd.at hi
  subst hda
  have htk : ds.take (i + 1) = ds.take i ++ [ds[i]] := List.take_succ_eq_append_getElem hi
  refine wc_region ?_
  refine wl_val (v_ias i Try.underlying22 TF.t28 rfl rfl (by first | rfl | omega) (by first | omega | (dsimp only at *; omega))) rfl ?_
  refine wl_val (v_load rfl (hrd st.im)) rfl ?_
  refine wl_alloc TF.z28 st rfl ?_
  intro b8 w st
  refine wl_storeW (cs := (bs ds[i]).toArray) 0 st rfl TF.t28 rfl rfl (by rw [List.size_toArray, length_bs]; exact hd32) rfl (one_bs _) ?_
  intro w st
  refine wl_nil ?_
  refine then_go ?_
  refine wc_seq ?_
  refine wc_region ?_
  refine wl_val (v_load rfl (st.reads (v := arr ds[i]) 0 rfl TF.t28 (getV_all (by rw [List.size_toArray, length_bs]; exact hd32)))) rfl ?_
  refine wl_val (v_move' (by conv => (lhs; whnf))) rfl ?_
  refine wl_call rfl (c_load st.im hd32 hN hNl hNn (hM ▸ hl _ (List.getElem_mem hi))) rfl ?_
  rintro v25 w ⟨t25, m1, hg1, hi1, hv25⟩
  rw [← hM] at hv25
  have st := (st.grown hg1 t25 hi1).drop 0
  have hd := hd.mono hg1.le
  have hN := hN.mono hg1.le
  obtain ⟨pv, e, rfl, he, hpe⟩ := ld_out hv25
  have st : St m m1 [] wI w [mapE arr stV b15 (markL (markF M (ds.take i)))] := st
  refine wl_val (v_move' (by conv => (lhs; whnf))) rfl ?_
  refine wl_val (v_extract rfl rfl) rfl ?_
  refine wl_val (v_extract rfl rfl) rfl ?_
  refine wl_val (v_assign' (by conv => (lhs; whnf))) rfl ?_
  refine wl_val (v_assign' (by conv => (lhs; whnf))) rfl ?_
  refine wl_nil ?_
  refine then_go ?_
  refine wc_seq ?_
  refine wc_seq ?_
  refine wc_region ?_
  refine wl_val (v_move' (by conv => (lhs; whnf))) rfl ?_
  refine wl_val (v_neq rfl rfl) rfl ?_
  refine wl_nil ?_
  refine then_go ?_
  refine wc_cond rfl (fun h29 => ?_) (fun h29 => ?_)
  ·refine wc_seq ?_
   refine wc_region ?_
   refine wl_val (v_move' (by conv => (lhs; whnf))) rfl ?_
   refine wl_val (v_assign' (by conv => (lhs; whnf))) rfl ?_
   refine wl_val (v_assign' (by conv => (lhs; whnf))) rfl ?_
   refine wl_nil ?_
   refine then_go ?_
   refine wc_ret (then_ret (block_ret (then_ret (then_ret (block_ret (then_ret ?_))))))
   have he0 : ldE M ds[i] ≠ 0 := by rw [← he]; simpa using h29
   refine ret2 rfl rfl ((st.keepOnly (l := []) (List.nil_sublist _)).out ?_)
   unfold MarkOut
   rw [errF_at hi hz he0, if_pos he0, ← he]
   rfl
  ·refine wc_skip ?_
   refine then_go ?_
   refine wc_seq ?_
   have he0 : e = 0 := by simpa using h29
   have hz2 : ∀ d ∈ ds.take (i + 1), ldE M d = 0 := by
    rw [htk]
    intro d hd'
    rcases List.mem_append.1 hd' with h | h
    ·exact hz d h
    ·rw [List.mem_singleton.1 h, ← he, he0]
   obtain ⟨p, hpv, hp⟩ := hpe he0
   clear hpe
   subst hpv
   obtain ⟨X, hX⟩ : ∃ X, X = ofLv (ldF M ds[i]).1 := ⟨_, rfl⟩
   have hXl : X.length ≤ 100000 := by rw [hX]; exact Nat.le_trans (length_ofLv _) (hl _ (List.getElem_mem hi))
   obtain ⟨hfD, hfU, hfd⟩ := ofLv_fine (Z := (ldF M ds[i]).1) ldF_d32
   have hmF : markF M (ds.take (i + 1)) = markF M (ds.take i) ++ sv 256 0 X := by rw [htk, markF_snoc, hX]
   rw [← hX] at hp hfD hfU hfd
   refine wc_region ?_
   refine wl_val (v_move' (by conv => (lhs; whnf))) rfl ?_
   refine wl_call rfl (c_save st.im hp hfD hfU hfd hXl) rfl ?_
   rintro v33 w ⟨t33, m2, hg2, hi2, lv1, N1, rfl, hN1, hs1⟩
   have st := st.grown hg2 t33 hi2
   have hd := hd.mono hg2.le
   have hN := hN.mono hg2.le
   obtain ⟨na, nc, hlv1⟩ : ∃ a c, lv1 = .slice a N1.length c := by obtain ⟨⟨_, a, c, h, _⟩, _⟩ := hN1; exact ⟨a, c, h⟩
   subst hlv1
   have hNS : N1.length = (sv 256 0 X).length := by rw [← hs1, List.length_map]
   have hNl1 : N1.length ≤ 100000000 := by have h := sv_len (g := 256) (d := 0) (L := X); omega
   have hok := sv_ok hfd hfD (g := 256) rfl
   have hNx : ∀ x ∈ N1, x.1.length ≤ 1000000000 := fun x hx => by have := (hok x.1 (by rw [← hs1]; exact List.mem_map.2 ⟨x, hx, rfl⟩)).2; omega
   refine wl_val (v_move' (by conv => (lhs; whnf))) rfl ?_
   refine wl_val (v_extract rfl rfl) rfl ?_
   refine wl_val (v_extract rfl rfl) rfl ?_
   refine wl_alloc TF.z28 st rfl ?_
   intro b11 w st
   refine wl_storeW (cs := (bs (sum (pg1 256 0 X))).toArray) 0 st rfl TF.t28 rfl rfl (by rw [List.size_toArray, length_bs, length_sum]) rfl (one_bs _) ?_
   intro w st
   have st := st.drop 0
   have st : St m m2 [] wI w [mapE arr stV b15 (markL (markF M (ds.take i) ++ (N1.take 0).map (·.1)))] := by rw [List.take_zero, List.map_nil, List.append_nil]; exact st
   have hmm2 : ∀ k o, m k = some o → m2 k = some o := fun k o h => hg2.le _ _ (hg1.le _ _ (hmm k o h))
   refine wl_val (v_assign' (by conv => (lhs; whnf))) rfl ?_
   refine wl_nil ?_
   refine then_go ?_
   refine wc_seq ?_
   refine wc_region ?_
   refine wl_val (v_move' (by conv => (lhs; whnf))) rfl ?_
   refine wl_val (v_len_s Try.underlying29 rfl) rfl ?_
   refine wl_val (v_move' (by conv => (lhs; whnf))) rfl ?_
   refine wl_nil ?_
   refine then_go ?_
   refine wc_block ?_
   refine wc_loop (S := Nat) (fun q r w' => ∃ (k : Nat), q + k = N1.length ∧ r 1 = lv ∧ r 6 = .map (some b15) ∧ r 16 = .slice (some ⟨db, dof, none⟩) ds.length dc ∧ r 17 = .int .i64 ds.length ∧ r 18 = .int .i64 i ∧ r 36 = .slice na N1.length nc ∧ r 37 = .int .i64 N1.length ∧ r 38 = .int .i64 k ∧ St m m2 [] wI w' [mapE arr stV b15 (markL (markF M (ds.take i) ++ (N1.take k).map (·.1)))]) id N1.length ⟨0, by omega, rfl, rfl, rfl, rfl, rfl, rfl, rfl, rfl, st⟩ ?_
   clear st
   rintro q2 r w3 ⟨k, hqk, g1, g6, g16, g17, g18, g36, g37, g38, st⟩
   refine wc_o 1 g1 (wc_o 6 g6 (wc_o 16 g16 (wc_o 17 g17 (wc_o 18 g18 (wc_o 36 g36 (wc_o 37 g37 (wc_o 38 g38 ?_)))))))
   refine wc_seq ?_
   refine wc_region ?_
   refine wl_val (v_lss rfl rfl) rfl ?_
   refine wl_nil ?_
   refine then_go ?_
   refine wc_seq ?_
   refine wc_if rfl (fun h39 => ?_) (fun h39 => ?_)
   ·refine wc_skip ?_
    refine then_go ?_
    refine wc_seq ?_
    refine wc_block ?_
    refine wc_seq ?_
    have hk : k < N1.length := by omega
    obtain ⟨nb, no, _, hnv, hs0, hrk⟩ := hN1.elem hk
    cases hnv
    have hsl := hNx _ (List.getElem_mem hk)
    refine wc_region ?_
    refine wl_val (v_ias k Try.underlying29 TF.t37 rfl rfl (by first | rfl | omega) (by first | omega | (dsimp only at *; omega))) rfl ?_
    refine wl_val (v_load rfl (hrk st.im)) rfl ?_
    refine wl_val (v_assign' (by conv => (lhs; whnf))) rfl ?_
    refine wl_nil ?_
    refine then_go ?_
    refine wc_region ?_
    refine wl_val (v_move' (by conv => (lhs; whnf))) rfl ?_
    refine wl_val (v_move' (by conv => (lhs; whnf))) rfl ?_
    refine wl_call rfl (c_tagsof st.im hs0 (by omega)) rfl ?_
    rintro v44 w ⟨t44, rfl⟩
    have st := st.pure t44
    refine wl_mapPut (v := ()) 0 st rfl dig_keyT Try.underlying88 markL_keys (length_sum _) rfl rfl rfl ?_
    intro w st
    have st : St m m2 [] wI w [mapE arr stV b15 (markL (markF M (ds.take i) ++ (N1.take (k + 1)).map (·.1)))] := by
     rw [List.take_succ_eq_append_getElem hk, List.map_append, ← List.append_assoc]
     show St m m2 [] wI w [mapE arr stV b15 (markL (_ ++ [N1[k].1]))]
     rw [markL_snoc]
     exact st
    refine wl_nil ?_
    refine block_go (then_go ?_)
    refine wc_region ?_
    refine wl_val (v_add' (c := ((k + 1 : Nat) : Int)) rfl rfl (by omega) (by omega) (by omega)) rfl ?_
    refine wl_val (v_move' (by conv => (lhs; whnf))) rfl ?_
    refine wl_nil ?_
    refine then_go ?_
    exact ⟨q2 - 1, by simp; omega, k + 1, by omega, rfl, rfl, rfl, rfl, rfl, rfl, rfl, rfl, st⟩
   ·refine wc_exit (then_exit (then_exit (block_hit ?_)))
    refine block_go (then_go ?_)
    refine wc_region ?_
    refine wl_val (v_add' (c := ((i + 1 : Nat) : Int)) rfl rfl (by omega) (by omega) (by omega)) rfl ?_
    refine wl_val (v_move' (by conv => (lhs; whnf))) rfl ?_
    refine wl_nil ?_
    refine then_go ?_
    refine ⟨q - 1, by simp; omega, i + 1, m2, by omega, rfl, rfl, rfl, rfl, rfl, hz2, hmm2, ?_⟩
    rw [hmF, ← hs1]
    have hk : k = N1.length := by omega
    rw [hk, List.take_length] at st
    exact st
 ·refine wc_exit (then_exit (then_exit (block_hit ?_)))
  refine then_go ?_
  refine wc_seq ?_
  refine wc_region ?_
  refine wl_val (v_move' (by conv => (lhs; whnf))) rfl ?_
  refine wl_val (v_assign' (by conv => (lhs; whnf))) rfl ?_
  refine wl_val (v_assign' (by conv => (lhs; whnf))) rfl ?_
  refine wl_nil ?_
  refine then_go ?_
  refine wc_ret ?_
  have hi : i = ds.length := by omega
  rw [hi, List.take_length] at st hz
  obtain ⟨m1, hg1, hmap, st⟩ := st.freezeMap (i := 0) rfl (by simp)
  refine ret2 rfl rfl (st.out ?_)
  unfold MarkOut
  rw [errF_all hz, if_neg (by simp)]
  exact ⟨b15, rfl, hmap⟩
end
end Go.Proofs.Ytonlmjpenonabaa

namespace Go.Proofs.Ytonlmjpenonabaa
open Go Go.RowKit K SH
section
variable {P : Program} {r : Fr} {w : World} {ty : TypeId} {m : Mem}
theorem run_bytesOf {x : Value} {a : By} (him : Im m w) (ha : SlM m x 1 a.length (bs a)) : (Extern.Bytes.bytesOf x).run P w = .ok (strB a) w := by
 have ha0 := ha
 obtain ⟨hl, p, c, rfl, hc, hn, h1⟩ := ha
 by_cases h0 : a = []
 ·subst h0
  cases p with
  | none => rfl
  | some p => rfl
 ·have hpos : 0 < a.length := List.length_pos_iff.2 h0
  obtain ⟨b, o, cap, he, _, _⟩ := ha0.rd P (by simpa [bs] using hpos)
  cases he
  have hq := Lib.run_loadBytesX (P := P) w (a.map fun x => (x.toNat : Int)) ⟨b, o, none⟩ .empty (fun j y hy => by
   obtain ⟨hj, hjy⟩ := List.getElem?_eq_some_iff.1 hy
   have hj2 : j < a.length := by simpa using hj
   rw [List.getElem_map] at hjy
   obtain ⟨b', o', cc, t, fr, h2, h3, h4⟩ := h1 j (u8 a[j]) (by simp [bs, hj2])
   cases h2
   have e : (⟨b, o, none⟩ : Addr).add j = ⟨b, o + j, none⟩ := by unfold Addr.add; split <;> simp_all
   rw [e, cell_of_row w b (o + j) cc t fr (him b _ h3), h4, ← hjy]
   rfl)
  rw [List.length_map] at hq
  show (Extern.Bytes.loadBytes ⟨b, o, none⟩ a.length .empty).run P w = _
  rw [hq]
  congr 1
  unfold strB Lib.bytesOf
  apply ByteArray.ext
  simp
  conv => rhs; rw [← List.map_id a]
  refine List.map_congr_left fun c _ => ?_
  simp
theorem v_extern {f : FuncId} {args : Array Value} {v : Value} {ags : Array Operand} {tys : Array TypeId} (ha : ags.map (ev r) = args) (hc : (callFunc f args).run P w = .ok (.value v) w) : Val P (.call ⟨.value (.func f), ags, tys⟩) ty r w v w := by
 intro _ _ _ _
 simp [execOp, resolve, ev, Deferred.ofValue, invoke, ha, hc]
theorem v_bcompare {f : FuncId} {fn : Func} {x y : Value} {X Y : Operand} {a b : By} {tys : Array TypeId} (hf : P.funcs[f]? = some fn) (h1 : (fn.name == "runtime.NumGoroutine") = false) (h2 : fn.body.isNone = true) (h3 : Extern.findNext fn = none) (h4 : Extern.find fn = some Extern.BytealgCompare.compare)
  (him : Im m w) (ha : SlM m x 1 a.length (bs a)) (hb : SlM m y 1 b.length (bs b)) (hx : ev r X = x) (hy : ev r Y = y) : Val P (.call ⟨.value (.func f), #[X, Y], tys⟩) ty r w (.int .i64 (Lib.compareBytes a b)) w := by
 have hc : (Extern.BytealgCompare.compare #[x, y]).run P w = .ok (.int .i64 (Lib.compareBytes a b)) w := by
  change Sem.run P (do pure (goInt (Extern.BytealgCompare.cmp (← Extern.Bytes.bytesOf x) (← Extern.Bytes.bytesOf y)))) w = _
  simp only [Sem.run_bind, run_bytesOf him ha, run_bytesOf him hb, Sem.run_pure, Result.andThen]
  rw [Lib.cmp_eq]
  rfl
 refine v_extern (args := #[x, y]) (by simp [hx, hy]) ?_
 rw [run_callFunc_extern hf h1 h2 h3 h4, hc]
 rfl
end
section
variable {m : Mem} {wI : World}
theorem c_bcompareW {x y : Value} {a b : By} (him : Im m wI) (ha : SlM m x 1 a.length (bs a)) (hb : SlM m y 1 b.length (bs b)) :
  Ret Try.prog 47 #[x, y] wI fun v w' => w' = wI ∧ v = .int .i64 (Lib.compareBytes a b) := by
 refine ret_of Try.call47 Try.func47 rfl Try.ntmps47 Try.results47 rfl ?_
 refine wc_seq ?_
 refine wc_region ?_
 refine wl_val (v_assign' (by conv => (lhs; whnf))) rfl ?_
 refine wl_nil ?_
 refine then_go ?_
 refine wc_seq ?_
 refine wc_region ?_
 refine wl_val (v_move' (by conv => (lhs; whnf))) rfl ?_
 refine wl_val (v_move' (by conv => (lhs; whnf))) rfl ?_
 refine wl_val (v_bcompare Try.func71 (by kernel_rfl) (by kernel_rfl) (by kernel_rfl) (by kernel_rfl) him ha hb rfl rfl) rfl ?_
 refine wl_val (v_assign' (by conv => (lhs; whnf))) rfl ?_
 refine wl_nil ?_
 refine then_go ?_
 refine wc_ret ?_
 exact ret1 rfl ⟨rfl, rfl⟩
end
end Go.Proofs.Ytonlmjpenonabaa

namespace Go.Proofs.Ytonlmjpenonabaa
open Go Go.RowKit K Go.Sort Go.Shelf
section
variable {α : Type} [Inhabited α] {enc : α → List Value} {k : Nat}
omit [Inhabited α] in
theorem flat_len0 (hk : ∀ x, (enc x).length = k) (L : List α) : (L.flatMap enc).length = L.length * k := by
 induction L with
 | nil => simp
 | cons x L ih => rw [List.flatMap_cons, List.length_append, ih, hk, List.length_cons, Nat.add_mul]; omega
theorem flat_get (hk : ∀ x, (enc x).length = k) : ∀ (L : List α) (t : Nat), t < L.length * k → (L.flatMap enc)[t]! = (enc L[t / k]!)[t % k]!
  | [], t, h => by simp at h
  | x :: L, t, h => by
    have k0 : 0 < k := by rcases Nat.eq_zero_or_pos k with e | e; · simp [e] at h
                          · exact e
    rw [List.length_cons, Nat.add_mul, Nat.one_mul] at h
    rw [List.flatMap_cons, List.getElem!_eq_getElem?_getD]
    by_cases ht : t < k
    · rw [List.getElem?_append_left (by rw [hk]; exact ht), Nat.div_eq_of_lt ht, Nat.mod_eq_of_lt ht, ← List.getElem!_eq_getElem?_getD]
      rfl
    · obtain ⟨u, rfl⟩ : ∃ u, t = u + k := ⟨t - k, by omega⟩
      rw [List.getElem?_append_right (by rw [hk]; omega), hk, Nat.add_sub_cancel, Nat.add_div_right _ k0, Nat.add_mod_right, ← List.getElem!_eq_getElem?_getD, flat_get hk L u (by omega)]
      simp
theorem flatK_eq (hk : ∀ x, (enc x).length = k) (L : List α) : flatK enc k L.toArray = (L.flatMap enc).toArray := by
 refine ext_get! (by simp [flat_len0 hk]) fun t ht => ?_
 have ht' : t < L.length * k := by simpa using ht
 rw [get_flatK _ _ _ t (by simpa using ht')]
 have := flat_get hk L t ht'
 simpa using this.symm
theorem put_cells {F G sp : List Value} (h : F.length = G.length) : putCells id 0 F.toArray (G ++ sp).toArray = (F ++ sp).toArray := by
 refine ext_get! (by simp [putCells, h]) fun t ht => ?_
 have ht' : t < G.length + sp.length := by simpa [putCells] using ht
 unfold putCells
 rw [getElem!_pos _ t (by simpa using ht'), Array.getElem_mapIdx, getElem!_pos _ t (by simp [h]; omega)]
 by_cases hf : t < F.length
 ·simp [hf, List.getElem_append_left]
 ·have hg : ¬ t < G.length := by omega
  simp [hg, h]
  rw [List.getElem_append_right (by omega), List.getElem_append_right (by omega)]
  simp [h]
theorem sortedW {P : Program} {w : World} {b : Nat} {L L' : List α} {sp : List Value} {E : TypeId} {n : Nat} {os : Array Obj} (hk : ∀ x, (enc x).length = k) (hl : L'.length = L.length) (hb : w.heap[b]? = some (.cells (L.flatMap enc ++ sp).toArray E (0, 0))) :
  Tch w (sortWorldK enc k w b 0 n L'.toArray os) [b] [b] ∧ (sortWorldK enc k w b 0 n L'.toArray os).heap[b]? = some (.cells (L'.flatMap enc ++ sp).toArray E (0, 0)) := by
 have hlt := lt_of_get hb
 unfold sortWorldK putRowK putRow mapBlock
 rw [flatK_eq hk]
 refine ⟨⟨rfl, rfl, rfl, by simp [grow, ahead], fun j hj hn => ?_, fun _ h => .inl h⟩, ?_⟩
 ·show ((w.heap.modify b _) ++ os)[j]? = _
  rw [Array.getElem?_append_left (by simpa using hj), Array.getElem?_modify, if_neg (by simp at hn; exact fun e => hn e.symm)]
 ·show ((w.heap.modify b _) ++ os)[b]? = _
  rw [Array.getElem?_append_left (by simpa using hlt), Array.getElem?_modify, if_pos rfl, hb]
  show some (Obj.cells (putCells id 0 _ _) E (0, 0)) = _
  rw [put_cells (by rw [flat_len0 hk, flat_len0 hk, hl])]
theorem holds_row {w : World} {b : Nat} {L : List α} {sp : List Value} {E : TypeId} (hk : ∀ x, (enc x).length = k) (hb : w.heap[b]? = some (.cells (L.flatMap enc ++ sp).toArray E (0, 0))) : HoldsK enc k w b 0 L.toArray := by
 unfold HoldsK
 rw [flatK_eq hk]
 intro j hj
 have hj' : j < (L.flatMap enc).length := by simpa using hj
 constructor
 ·unfold World.cell?
  rw [hb]
  simp only [Option.isSome_none, Bool.false_eq_true, if_false, Nat.zero_add, List.getElem?_toArray, id_eq]
  rw [List.getElem?_append_left hj', List.getElem?_eq_getElem hj', getElem!_pos _ j hj]
  simp
 ·unfold World.frozen?
  rw [hb]
  simp
theorem wl_boxX {P : Program} {n d : Nat} {ops : Array Oper} {Q : Po} {r : Fr} {w : World} {rest : List Oper} {ty : TypeId} {pos : String} {after : Array Edge} {T : TypeId} {x : Operand} {v : Value} (hx : ev r x = v) (hd : Nat.blt d n = true)
  (k : WL P n ops Q rest (upd d (.pointer (some ⟨w.heap.size, 0, none⟩)) r) (grow w #[.cells v.cells T (0, 0)])) :
  WL P n ops Q (⟨some d, .box T x, ty, pos, after, none⟩ :: rest) r w := by
 refine wl_val (v := .pointer (some ⟨w.heap.size, 0, none⟩)) (w' := w.alloc (.cells v.cells T)) ?_ hd (by rw [alloc_eq_grow]; exact k)
 intro _ _ _ _
 simp [execOp, Instr.box, newVar, newRow, hx]
theorem grow_at {w : World} {os : Array Obj} {k : Nat} : (grow w os).heap[w.heap.size + k]? = os[k]? := by
 show (w.heap ++ os)[w.heap.size + k]? = _
 rw [Array.getElem?_append_right (by omega), Nat.add_sub_cancel_left]
theorem sort_row {P : Program} {ρ : Ren} {E : TypeId} {by' : Nat} (LY : SlLaysF0.n6 P ρ) (hE : ρ.t 24 = E) (tf : TyF P E true k by') (hk : ∀ x, (enc x).length = k) (h1 : ∀ x, ∀ v ∈ enc x, v.oneCell' = true) {cf : α → α → Int} (hO : SWO (ltOf cf)) {g : Nat}
  (eg : ∀ args w, (callFunc g args).run P w = .ok (.enter g args) w) (hcmp : ∀ (W : World) (x y : α), Calls P g #[.agg (enc x).toArray, .agg (enc y).toArray] W fun e w' => e = .returned (.int .i64 (cf x y)) ∧ ∃ q os', w' = grow (W.drewN q) os')
  {m0 m : Mem} {F : List Nat} {w0 w : World} {Es : List Ent} {v : Value} {L : List α} (st : St m0 m F w0 w Es) (i : Nat) (hi : Es[i]? = some (rowE v E k L.length (L.flatMap enc))) (hL : L.length ≤ 1000000000) :
  Calls P (ρ.f 6) #[v, .func (.func g) #[] #[]] w fun e w' => e = .returned (.tuple #[]) ∧ ∃ L' : List α, L'.Perm L ∧ L'.Pairwise (fun x y => ltOf cf y x = false) ∧ St m0 m F w0 w' (Es.set i (rowE v E k L'.length (L'.flatMap enc))) := by
 have hset : Es.set i (rowE v E k L.length (L.flatMap enc)) = Es := by
  obtain ⟨h, he⟩ := List.getElem?_eq_some_iff.1 hi
  rw [← he, List.set_getElem_self]
 rcases (st.at hi).2 with ⟨rfl, h0⟩ | ⟨b, cap, cur, rfl, _, hg, hc, hm, hs, ht⟩
 ·have hn : L.length = 0 := h0
  refine Calls.mono (AnyF.slices_SortFunc_none LY none 0 _ w) ?_
  rintro e w' ⟨rfl, rfl⟩
  have hnil : L = [] := List.length_eq_zero_iff.1 hn
  subst hnil
  exact ⟨rfl, [], List.Perm.refl _, List.Pairwise.nil, by rw [hset]; exact st⟩
 ·obtain ⟨sp, hsp⟩ : ∃ sp, cur = (L.flatMap enc ++ sp).toArray := ⟨cur.toList.drop (L.length * k), by rw [← ht, List.take_append_drop]⟩
  rw [hsp] at hg
  have hcon := AnyQ.slices_SortFunc LY k (hE ▸ tf.isagg) (hE ▸ tf.sz) enc hk h1 cf hO g #[] b 0 cap L.toArray w eg (fun _ _ _ _ x y => hcmp _ x y) (holds_row hk hg) (lt_of_get hg) (by rw [List.size_toArray]; omega)
  rw [List.size_toArray] at hcon
  refine Calls.mono hcon ?_
  rintro e w' ⟨rfl, d', n, os, hp, hs', rfl⟩
  obtain ⟨L', hL'⟩ : ∃ L', d' = L'.toArray := ⟨d'.toList, rfl⟩
  subst hL'
  have hlen : L'.length = L.length := by simpa using hp.1
  have hperm : L'.Perm L := by
   have := hp.2.2
   simpa [hlen, List.take_of_length_le (Nat.le_of_eq hlen)] using this
  have hsort : L'.Pairwise (fun x y => ltOf cf y x = false) := by
   rw [List.pairwise_iff_getElem]
   intro a c ha hc' hac
   have := hs' a c (Nat.zero_le _) hac (by omega)
   simpa [ha, hc'] using this
  have hW := sortedW (P := P) (n := n) (os := os) hk hlen hg
  refine ⟨rfl, L', hperm, hsort, st.step i hi ?_ ⟨by rw [flat_len0 hk], .inr ⟨b, cap, (L'.flatMap enc ++ sp).toArray, by rw [hlen], Nat.zero_le _, hW.2, by rw [hlen]; exact hc, hm, ?_, ?_⟩⟩⟩
  ·simpa [rowE, Value.ownBlock] using hW.1
  ·rw [← hs, hsp]
   simp only [List.size_toArray, List.length_append, flat_len0 hk, hlen]
  ·show (L'.flatMap enc ++ sp).take _ = _
   rw [List.take_left' (by rw [flat_len0 hk])]
end
end Go.Proofs.Ytonlmjpenonabaa

namespace Go.Proofs.Ytonlmjpenonabaa
open Go Go.RowKit K Go.Sort
theorem cmpB_lt : ∀ {a b : List UInt8}, Lib.compareBytes a b < 0 ↔ a < b
 | [], [] => by simp [Lib.compareBytes]
 | [], _ :: _ => by simp [Lib.compareBytes]
 | _ :: _, [] => by simp [Lib.compareBytes]
 | x :: a, y :: b => by
  have ih := cmpB_lt (a := a) (b := b)
  rw [Lib.compareBytes, List.cons_lt_cons_iff]
  by_cases h1 : x < y
  ·simp [h1]
  ·by_cases h2 : y < x
   ·have : x ≠ y := fun e => by subst e; exact h1 h2
    simp [h1, h2, this]
   ·have : x = y := UInt8.le_antisymm (UInt8.not_lt.1 h2) (UInt8.not_lt.1 h1)
    simp [h1, h2, this, ih]
theorem cmpB_swo {α : Type} (f : α → List UInt8) : SWO (Proofs.ltOf fun x y => Lib.compareBytes (f x) (f y)) where
 irrefl x := by simp [Proofs.ltOf, cmpB_lt]
 trans x y z h1 h2 := by
  simp only [Proofs.ltOf, decide_eq_true_eq, cmpB_lt] at *
  exact List.lt_trans h1 h2
 ntrans x y z h1 h2 := by
  simp only [Proofs.ltOf, decide_eq_false_iff_not, cmpB_lt, List.not_lt] at *
  exact List.le_trans h2 h1
end Go.Proofs.Ytonlmjpenonabaa

namespace Go.Proofs.Ytonlmjpenonabaa
open Go.Shelf
def sortDig_ren : Go.Shelf.Ren := ⟨fun | 6 => 45 | 15 => 70 | 14 => 69 | 28 => 96 | 29 => 97 | 20 => 88 | 21 => 89 | 22 => 90 | 23 => 91 | 24 => 92 | 25 => 93 | 26 => 94 | 27 => 95 | 46 => 106 | 47 => 107 | 48 => 108 | 49 => 109 | 50 => 110 | 57 => 115 | n => n, fun | 22 => 22 | 24 => 28 | 25 => 95 | 3 => 3 | 39 => 115 | 0 => 0 | 53 => 117 | 55 => 39 | 4 => 4 | 46 => 131 | 45 => 130 | 50 => 135 | 5 => 5 | 9 => 9 | 66 => 150 | 70 => 154 | 76 => 160 | 77 => 161 | n => n, fun | n => n⟩
theorem sortDig : Go.Proofs.SlLaysF0.n6 Try.prog sortDig_ren := {
 mixed := by kernel_rfl
 f6 := ⟨Try.f45.name, by decide, Try.func45.trans (congrArg some (by kernel_rfl))⟩
 f14 := ⟨Try.f69.name, by decide, Try.func69.trans (congrArg some (by kernel_rfl))⟩
 f15 := Try.func70.trans (congrArg some (by kernel_rfl))
 f20 := ⟨Try.f88.name, by decide, Try.func88.trans (congrArg some (by kernel_rfl))⟩
 f21 := ⟨Try.f89.name, by decide, Try.func89.trans (congrArg some (by kernel_rfl))⟩
 f22 := ⟨Try.f90.name, by decide, Try.func90.trans (congrArg some (by kernel_rfl))⟩
 f23 := ⟨Try.f91.name, by decide, Try.func91.trans (congrArg some (by kernel_rfl))⟩
 f24 := ⟨Try.f92.name, by decide, Try.func92.trans (congrArg some (by kernel_rfl))⟩
 f25 := ⟨Try.f93.name, by decide, Try.func93.trans (congrArg some (by kernel_rfl))⟩
 f26 := ⟨Try.f94.name, by decide, Try.func94.trans (congrArg some (by kernel_rfl))⟩
 f27 := ⟨Try.f95.name, by decide, Try.func95.trans (congrArg some (by kernel_rfl))⟩
 f28 := Try.func96.trans (congrArg some (by kernel_rfl))
 f29 := Try.func97.trans (congrArg some (by kernel_rfl))
 f46 := ⟨Try.f106.name, by decide, Try.func106.trans (congrArg some (by kernel_rfl))⟩
 f47 := Try.func107.trans (congrArg some (by kernel_rfl))
 f48 := Try.func108.trans (congrArg some (by kernel_rfl))
 f49 := ⟨Try.f109.name, by decide, Try.func109.trans (congrArg some (by kernel_rfl))⟩
 f50 := ⟨Try.f110.name, by decide, Try.func110.trans (congrArg some (by kernel_rfl))⟩
 f57 := ⟨Try.f115.name, by decide, Try.func115.trans (congrArg some (by kernel_rfl))⟩
 t0 := Try.underlying0
 a0 := Try.isAgg0
 z0 := Try.sizeOf0
 v0 := Try.zeroValue0
 t3 := Try.underlying3
 a3 := Try.isAgg3
 z3 := Try.sizeOf3
 v3 := Try.zeroValue3
 t4 := Try.underlying4
 a4 := Try.isAgg4
 z4 := Try.sizeOf4
 v4 := Try.zeroValue4
 t5 := Try.underlying5
 a5 := Try.isAgg5
 z5 := Try.sizeOf5
 v5 := Try.zeroValue5
 t9 := Try.underlying9
 a9 := Try.isAgg9
 z9 := Try.sizeOf9
 v9 := Try.zeroValue9
 t22 := Try.underlying22
 a22 := Try.isAgg22
 z22 := Try.sizeOf22
 v22 := Try.zeroValue22
 t25 := Try.underlying95
 a25 := Try.isAgg95
 z25 := Try.sizeOf95
 v25 := Try.zeroValue95
 t39 := Try.underlying115
 a39 := Try.isAgg115
 z39 := Try.sizeOf115
 v39 := Try.zeroValue115
 t45 := Try.underlying130
 a45 := Try.isAgg130
 z45 := Try.sizeOf130
 v45 := Try.zeroValue130
 t46 := Try.underlying131
 a46 := Try.isAgg131
 z46 := Try.sizeOf131
 v46 := Try.zeroValue131
 t50 := Try.underlying135
 a50 := Try.isAgg135
 z50 := Try.sizeOf135
 v50 := Try.zeroValue135
 t53 := Try.underlying117
 a53 := Try.isAgg117
 z53 := Try.sizeOf117
 v53 := Try.zeroValue117
 t55 := Try.underlying39
 a55 := Try.isAgg39
 z55 := Try.sizeOf39
 v55 := Try.zeroValue39
 t66 := Try.underlying150
 a66 := Try.isAgg150
 z66 := Try.sizeOf150
 v66 := Try.zeroValue150
 t70 := Try.underlying154
 a70 := Try.isAgg154
 z70 := Try.sizeOf154
 v70 := Try.zeroValue154
 t76 := Try.underlying160
 a76 := Try.isAgg160
 z76 := Try.sizeOf160
 v76 := Try.zeroValue160
 t77 := Try.underlying161
 a77 := Try.isAgg161
 z77 := Try.sizeOf161
 v77 := Try.zeroValue161 }
end Go.Proofs.Ytonlmjpenonabaa

namespace Go.Proofs.Ytonlmjpenonabaa
open Go Go.RowKit K SH Go.Sort
abbrev SA := {l : List UInt8 // l.length = 32}
instance : Inhabited SA := ⟨⟨List.replicate 32 0, by simp⟩⟩
abbrev saC (d : SA) : List Value := bs d.1
theorem cmp_dig (W : World) (x y : SA) : Ret Try.prog 46 #[.agg (saC x).toArray, .agg (saC y).toArray] W fun v w' => v = .int .i64 (Lib.compareBytes x.1 y.1) ∧ ∃ q os', w' = grow (W.drewN q) os' := by
 have sl : ∀ {m : Mem} {k : Nat} {z : SA}, m k = some (.cells (saC z).toArray 28 (0, 0)) → SlM m (.slice (some ⟨k, 0, none⟩) 32 32) 1 z.1.length (bs z.1) := fun {m k z} h => by
  rw [z.2]
  exact SlM.of (k := 32) h (by rw [length_bs, z.2]) (by decide) (fun j u hj => by simpa using hj)
 refine ret_of Try.call46 Try.func46 rfl Try.ntmps46 Try.results46 rfl ?_
 refine wc_seq ?_
 refine wc_region ?_
 refine wl_boxX rfl rfl ?_
 refine wl_boxX rfl rfl ?_
 have st := St.start (m := fun _ => none) (w := grow (grow W #[.cells (saC x).toArray 28 (0, 0)]) #[.cells (saC y).toArray 28 (0, 0)]) (fun _ _ h => by cases h)
 refine wl_val (v_assign' (by conv => (lhs; whnf))) rfl ?_
 refine wl_nil ?_
 refine then_go ?_
 refine wc_seq ?_
 refine wc_draw TF.mixed ?_
 have st := st.pure (touch_drew _)
 refine fl_val 0 rfl (fun _ => (v_sla 0 32 Try.underlying28 TF.t5 rfl rfl rfl (by omega) (by omega) (by omega))) rfl (by kernel_rfl) ?_
 refine fl_val 1 rfl (fun _ => (v_sla 0 32 Try.underlying28 TF.t5 rfl rfl rfl (by omega) (by omega) (by omega))) rfl (by kernel_rfl) ?_
 refine fl_eff1 2 [] [] (by kernel_rfl) trivial rfl ?_
 obtain ⟨W2, hW2⟩ : ∃ W2, W2 = (grow (grow W #[.cells (saC x).toArray 28 (0, 0)]) #[.cells (saC y).toArray 28 (0, 0)]).drew := ⟨_, rfl⟩
 have h1 : W2.heap[W.heap.size]? = some (.cells (saC x).toArray 28 (0, 0)) := by rw [hW2, grow_grow]; exact grow_at (k := 0)
 have h2 : W2.heap[(grow W #[.cells (saC x).toArray 28 (0, 0)]).heap.size]? = some (.cells (saC y).toArray 28 (0, 0)) := by rw [hW2, grow_grow, size_grow]; exact grow_at (k := 1)
 subst hW2
 refine wl_call rfl (c_bcompareW (m := fun k => (grow (grow W #[.cells (saC x).toArray 28 (0, 0)]) #[.cells (saC y).toArray 28 (0, 0)]).drew.heap[k]?) (fun _ _ h => h) (sl h1) (sl h2)) rfl ?_
 rintro v7 w ⟨rfl, rfl⟩
 refine wl_nil ⟨rfl, ?_⟩
 refine fl_eff1 3 [] [] (by kernel_rfl) trivial rfl ?_
 refine wl_val (v_assign' (by conv => (lhs; whnf))) rfl ?_
 refine wl_nil ⟨rfl, ?_⟩
 refine fl_nil (by kernel_rfl) trivial ?_
 refine then_go ?_
 refine wc_ret ?_
 exact ret1 rfl ⟨rfl, 1, _, by rw [grow_grow]; rfl⟩
def Rise (L : List By) : Prop := L.Pairwise fun x y => ¬ Lib.compareBytes y x < 0
theorem as_sa : ∀ {L : List By}, D32 L → ∃ L' : List SA, L'.map Subtype.val = L
 | [], _ => ⟨[], rfl⟩
 | x :: L, h => by
  obtain ⟨L', e⟩ := as_sa (L := L) fun y hy => h y (List.mem_cons_of_mem _ hy)
  exact ⟨⟨x, h x (List.mem_cons_self ..)⟩ :: L', by rw [List.map_cons, e]⟩
theorem sa_digE (v : Value) (M : List SA) : digE v (M.map Subtype.val) = rowE v 28 32 M.length (M.flatMap saC) := by
 unfold digE digs
 rw [List.flatMap_map, List.length_map]
theorem c_sortDig {m0 m : Mem} {F : List Nat} {w0 w : World} {Es : List Ent} {v : Value} {L : List By} (st : St m0 m F w0 w (digE v L :: Es)) (hL : D32 L) (hl : L.length ≤ 1000000000) :
  Ret Try.prog 45 #[v, .func (.func 46) #[] #[]] w fun _ w' => ∃ L', L'.Perm L ∧ Rise L' ∧ St m0 m F w0 w' (digE v L' :: Es) := by
 obtain ⟨M, rfl⟩ := as_sa hL
 refine ⟨Try.call45, Calls.mono (sort_row (enc := saC) sortDig rfl TF.t28 (fun x => by rw [length_bs, x.2]) (fun x => one_bs _) (cmpB_swo Subtype.val) Try.call46
  (fun W x y => Calls.mono (cmp_dig W x y).2 fun e w' ⟨v, h, e2, q⟩ => ⟨h.trans (congrArg _ e2), q⟩) (L := M) (v := v) st 0 (congrArg some (sa_digE v M)) (by simpa using hl)) ?_⟩
 rintro e w' ⟨rfl, L', hp, hs, st⟩
 refine ⟨_, rfl, L'.map Subtype.val, hp.map _, ?_, by rw [sa_digE]; exact st⟩
 unfold Rise
 rw [List.pairwise_map]
 exact hs.imp fun h => by simpa [ltOf] using h
end Go.Proofs.Ytonlmjpenonabaa

namespace Go.Proofs.Ytonlmjpenonabaa
open Go Go.RowKit K SH
abbrev lrE (v : Value) (N : List ((List UInt8) × Value)) : Ent := rowE v 37 1 N.length (N.map (·.2))
def Pcs (m : Mem) (N : List ((List UInt8) × Value)) : Prop := ∀ x ∈ N, SlM m x.2 1 x.1.length (bs x.1)
theorem Pcs.mono {m m' : Mem} {N : List ((List UInt8) × Value)} (h : Pcs m N) (hm : ∀ k o, m k = some o → m' k = some o) : Pcs m' N := fun x hx => (h x hx).mono hm
theorem Pcs.snoc {m : Mem} {N : List ((List UInt8) × Value)} {x : (List UInt8) × Value} (h : Pcs m N) (hx : SlM m x.2 1 x.1.length (bs x.1)) : Pcs m (N ++ [x]) := fun y hy => (List.mem_append.1 hy).elim (h y) fun hy => by rw [List.mem_singleton.1 hy]; exact hx
def Apart (m m' : Mem) (v : Value) (l : List UInt8) : Prop := ∃ m1, (∀ k o, m1 k = some o → m' k = some o ∧ m k = none) ∧ SlM m1 v 1 l.length (bs l)
def PcsN (m m' : Mem) (N N' : List ((List UInt8) × Value)) : Prop := ∀ y ∈ N', y ∈ N ∨ Apart m m' y.2 y.1
theorem Apart.mono {m n m' m'' : Mem} {v : Value} {l : (List UInt8)} (h : Apart m m' v l) (hn : ∀ k o, n k = some o → m k = some o) (hm : ∀ k o, m' k = some o → m'' k = some o) : Apart n m'' v l := by
 obtain ⟨m1, h1, h2⟩ := h
 refine ⟨m1, fun k o hk => ⟨hm k o (h1 k o hk).1, ?_⟩, h2⟩
 cases hq : n k with
 | none => rfl
 | some q => have := hn k q hq; rw [(h1 k o hk).2] at this; cases this
theorem PcsN.refl {m m' : Mem} {N : List ((List UInt8) × Value)} : PcsN m m' N N := fun _ h => .inl h
theorem lr_PcsM {m0 m : Mem} {F : List Nat} {w0 w : World} {Es : List Ent} {v : Value} {N : List ((List UInt8) × Value)} (st : St m0 m F w0 w Es) (i : Nat) (hi : Es[i]? = some (lrE v N)) (h : Pcs m N) : PcsM (heapM w) v N := ⟨row_SlM (m := heapM w) (st.at hi) (fun _ _ _ h => h), fun x hx => (h x hx).mono fun k o h => st.im k o h⟩
section
variable {P : Program} {n : Nat} {ops : Array Oper} {Q : Po} {rest : List Oper} {r : Fr} {w : World} {d : Nat} {ty : TypeId} {pos : String} {after : Array Edge} {m0 m : Mem} {F : List Nat} {w0 : World} {Es : List Ent}
theorem wl_lrApp (i : Nat) {b cap : Nat} {v xv : Value} {s y : Operand} {N : List ((List UInt8) × Value)} {x : (List UInt8)} (st : St m0 m F w0 w (K.blk b #[xv] 37 :: Es)) (hi : Es[i]? = some (lrE v N)) (ho : xv.oneCell' = true) (hs : ev r s = v) (hy : ev r y = .slice (some ⟨b, 0, none⟩) 1 cap) (hN : N.length ≤ 1000000000) (hd : Nat.blt d n = true)
  (k : ∀ v' w', St m0 m F w0 w' (Es.set i (lrE v' (N ++ [(x, xv)]))) → WL Try.prog n ops Q rest (upd d v' r) w') :
  WL Try.prog n ops Q (⟨some d, .call ⟨.builtin .append, #[s, y], #[29, 29]⟩, ty, pos, after, none⟩ :: rest) r w := by
 refine wl_append (news := [xv]) (i + 1) st hi Try.underlying29 Try.underlying29 (.inr ⟨_, rfl⟩) TF.t37 TF.z37 rfl hs hy (st.srcArr (off := 0) 0 rfl rfl (fun j u hj => by simpa using hj) (fun u hu => by rw [List.mem_singleton.1 hu]; exact ho)) (by omega) (by omega) hd ?_
 intro v' w' _ st'
 have e1 : N.map (·.2) ++ [xv] = (N ++ [(x, xv)]).map (·.2) := by simp
 have e2 : N.length + 1 = (N ++ [(x, xv)]).length := by simp
 have st2 := st'.drop 0
 rw [e1, e2] at st2
 exact k v' w' st2
end
end Go.Proofs.Ytonlmjpenonabaa

namespace Go.Proofs.Ytonlmjpenonabaa
open Go Go.RowKit K SH PT
theorem stZ : TyZ Try.prog 91 (.int .i64 0) := ⟨_, (show Try.prog.info? 91 = some Try.t91 from by kernel_rfl), by kernel_rfl⟩
def LiveOut (m : Mem) (v : Value) (M : By → Option By) (ds : List By) : Prop :=
 if errF M ds ≠ 0 then v = .tuple #[.slice none 0 0, .int .i64 (errF M ds)] else ∃ ov L, v = .tuple #[ov, .int .i64 0] ∧ DigM m ov L ∧ L.Perm ((markL (markF M ds)).map (·.1)) ∧ Rise L
def SplitOut (m : Mem) (v : Value) (M : By → Option By) (ds : List By) (N : List By) : Prop :=
 if errF M ds ≠ 0 then v = .tuple #[.slice none 0 0, .slice none 0 0, .int .i64 (errF M ds)] else ∃ nv iv A B, v = .tuple #[nv, iv, .int .i64 0] ∧ PcsM m nv A ∧ PcsM m iv B ∧ A.map (·.1) = N.filter (fun p => decide (sum p ∈ (markF M ds).map sum)) ∧ B.map (·.1) = N.filter (fun p => !decide (sum p ∈ (markF M ds).map sum))
theorem mark_out {m : Mem} {v : Value} {M : By → Option By} {ds : List By} (h : MarkOut m v M ds) : ∃ (mv : Value) (e : Nat), v = .tuple #[mv, .int .i64 e] ∧ e = errF M ds ∧ (e = 0 → ∃ b, mv = .map (some b) ∧ MapM m arr stV b (markL (markF M ds))) := by
 unfold MarkOut at h
 by_cases h0 : errF M ds ≠ 0
 ·rw [if_pos h0] at h
  exact ⟨_, _, h, rfl, fun e => (h0 e).elim⟩
 ·rw [if_neg h0] at h
  obtain ⟨b, hv, hm⟩ := h
  exact ⟨_, 0, hv, by omega, fun _ => ⟨b, rfl, hm⟩⟩
section
variable {m : Mem} {wI : World}
theorem c_live {lv dv : Value} {ds : List By} {N : List (By × Value)} (him : Im m wI) (hd : DigM m dv ds) (hN : PcsM m lv N) (hNl : ∀ x ∈ N, x.1.length ≤ 1000000000) (hNn : N.length ≤ 1000000000) (hds : ds.length ≤ 1000000) (hl : ∀ d ∈ ds, (ldF (pgM (mapOf N)) d).1.length ≤ 100000) (hK : errF (pgM (mapOf N)) ds = 0 → (markL (markF (pgM (mapOf N)) ds)).length ≤ 1000000000) :
  Ret Try.prog 27 #[dv, lv] wI fun v' w' => Out m wI w' fun m' => LiveOut m' v' (pgM (mapOf N)) ds := by
 have st := St.start him
 refine ret_of Try.call27 Try.func27 rfl Try.ntmps27 Try.results27 rfl ?_
 refine wc_seq ?_
 refine wc_region ?_
 refine wl_val (v_assign' (by conv => (lhs; whnf))) rfl ?_
 refine wl_val (v_assign' (by conv => (lhs; whnf))) rfl ?_
 refine wl_nil ?_
 refine then_go ?_
 refine wc_seq ?_
 refine wc_region ?_
 refine wl_val (v_move' (by conv => (lhs; whnf))) rfl ?_
 refine wl_val (v_move' (by conv => (lhs; whnf))) rfl ?_
 refine wl_call rfl (c_mark st.im hd hN hNl hNn hds hl) rfl ?_
 rintro v13 w ⟨t13, m1, hg1, hi1, hv13⟩
 have st := st.grown hg1 t13 hi1
 obtain ⟨M, hM⟩ : ∃ M, M = pgM (mapOf N) := ⟨_, rfl⟩
 rw [← hM] at hv13 hK ⊢
 obtain ⟨mv, e, rfl, he, hpe⟩ := mark_out hv13
 refine wl_val (v_move' (by conv => (lhs; whnf))) rfl ?_
 refine wl_val (v_extract rfl rfl) rfl ?_
 refine wl_val (v_extract rfl rfl) rfl ?_
 refine wl_val (v_assign' (by conv => (lhs; whnf))) rfl ?_
 refine wl_val (v_assign' (by conv => (lhs; whnf))) rfl ?_
 refine wl_nil ?_
 refine then_go ?_
 refine wc_seq ?_
 refine wc_seq ?_
 refine wc_region ?_
 refine wl_val (v_move' (by conv => (lhs; whnf))) rfl ?_
 refine wl_val (v_neq rfl rfl) rfl ?_
 refine wl_nil ?_
 refine then_go ?_
 refine wc_cond rfl (fun h17 => ?_) (fun h17 => ?_)
 ·refine wc_seq ?_
  refine wc_region ?_
  refine wl_val (v_move' (by conv => (lhs; whnf))) rfl ?_
  refine wl_val (v_assign' (by conv => (lhs; whnf))) rfl ?_
  refine wl_val (v_assign' (by conv => (lhs; whnf))) rfl ?_
  refine wl_nil ?_
  refine then_go ?_
  refine wc_ret (then_ret ?_)
  have he0 : errF M ds ≠ 0 := by rw [← he]; simpa using h17
  refine ret2 rfl rfl ((st.keepOnly (l := []) (List.nil_sublist _)).out ?_)
  unfold LiveOut
  rw [if_pos he0, ← he]
  rfl
 ·refine wc_skip ?_
  refine then_go ?_
  refine wc_seq ?_
  refine wc_region ?_
  refine wl_val (v_assign' (by conv => (lhs; whnf))) rfl ?_
  refine wl_nil ?_
  refine then_go ?_
  refine wc_seq ?_
  refine wc_seq ?_
  have he0 : e = 0 := by simpa using h17
  obtain ⟨bm, hmv, es, clock, hb, hes⟩ := hpe he0
  subst hmv
  have hKl := hK (by rw [← he]; exact he0)
  refine wc_region ?_
  refine wl_val (v_move' (by conv => (lhs; whnf))) rfl ?_
  refine wl_range st hb hes Try.underlying88 rfl rfl ?_
  intro g20 w hg20 st
  refine wl_nil ?_
  refine then_go ?_
  refine wc_block ?_
  have st := st.nilDig
  refine wc_loop (S := Nat) (fun q r w' => ∃ (v : Value) (L : List By) (R : List (By × Unit)), q = R.length ∧ r 8 = v ∧ r 20 = .pointer (some ⟨g20, 0, none⟩) ∧ (L ++ R.map (·.1)).Perm ((markL (markF M ds)).map (·.1)) ∧ St m m1 [] wI w' [digE v L, iterE arr stV es clock bm g20 R]) id _ ⟨_, [], _, rfl, rfl, rfl, List.Perm.refl _, st⟩ ?_
  clear st
  rintro q r w2 ⟨v, L, R, hq, g8, g20e, hperm, st⟩
  refine wc_o 8 g8 (wc_o 20 g20e ?_)
  have hL32 : D32 L := fun x hx => by
   obtain ⟨y, hy, hxy⟩ := List.mem_map.1 (hperm.mem_iff.1 (List.mem_append_left _ hx))
   rw [← hxy]; exact markL_keys y hy
  have hLl : L.length + R.length ≤ 1000000000 := by have := hperm.length_eq; simp at this; omega
  refine wc_seq ?_
  rcases next_or (P := Try.prog) (ty := 0) 1 st rfl hb hes with ⟨hR, hrun⟩ | ⟨p1, y, p2, w3, hR, st, hent, hrun⟩
  ·refine wc_region ?_
   refine wl_val (v_next hrun rfl) rfl ?_
   refine wl_val (v_extract rfl rfl) rfl ?_
   refine wl_nil ?_
   refine then_go ?_
   refine wc_seq ?_
   refine wc_false rfl ?_
   refine wc_exit (then_exit (then_exit (block_hit ?_)))
   refine then_go ?_
   refine wc_seq ?_
   refine wc_region ?_
   refine wl_val (v_move' (by conv => (lhs; whnf))) rfl ?_
   subst hR
   have st : St m m1 [] wI _ [digE v L] := st.keepOnly (List.Sublist.cons_cons _ (List.nil_sublist _))
   refine wl_call rfl (c_sortDig st hL32 (by omega)) rfl ?_
   rintro v30 w ⟨L', hp', hr', st⟩
   refine wl_nil ?_
   refine then_go ?_
   refine wc_seq ?_
   refine wc_region ?_
   refine wl_val (v_move' (by conv => (lhs; whnf))) rfl ?_
   refine wl_val (v_assign' (by conv => (lhs; whnf))) rfl ?_
   refine wl_val (v_assign' (by conv => (lhs; whnf))) rfl ?_
   refine wl_nil ?_
   refine then_go ?_
   refine wc_ret ?_
   obtain ⟨m2, hg2, hd2, st⟩ := st.keepDig (i := 0) rfl (fun x hx => hL32 x (hp'.mem_iff.1 hx))
   refine ret2 rfl rfl ((st.keepOnly (l := []) (List.nil_sublist _)).out ?_)
   unfold LiveOut
   rw [if_neg (by omega)]
   refine ⟨v, L', rfl, hd2, hp'.trans (by simpa using hperm), hr'⟩
  ·refine wc_region ?_
   refine wl_val (v_next hrun rfl) rfl ?_
   refine wl_val (v_extract rfl rfl) rfl ?_
   refine wl_nil ?_
   refine then_go ?_
   refine wc_seq ?_
   refine wc_true rfl ?_
   refine wc_skip ?_
   refine then_go ?_
   refine wc_block ?_
   refine wc_seq ?_
   have hy32 : y.1.length = 32 := by
    obtain ⟨z, hz, hyz⟩ := List.mem_map.1 (hperm.mem_iff.1 (List.mem_append_right L (List.mem_map.2 ⟨y, by rw [hR]; simp, rfl⟩)))
    rw [← hyz]; exact markL_keys z hz
   have st : St m m1 [] wI w3 [digE v L, iterE arr stV es clock bm g20 (p1 ++ p2)] := st
   refine wc_region ?_
   refine wl_val (v_entry hent rfl) rfl ?_
   refine wl_val (v_extract rfl rfl) rfl ?_
   refine wl_alloc TF.z28 st rfl ?_
   intro b9 w st
   refine wl_storeW (cs := (bs y.1).toArray) 0 st rfl TF.t28 rfl rfl (by rw [List.size_toArray, length_bs]; exact hy32) rfl (one_bs _) ?_
   intro w st
   refine wl_nil ?_
   refine then_go ?_
   refine wc_region ?_
   refine wl_val (v_move' (by conv => (lhs; whnf))) rfl ?_
   refine wl_val (v_load rfl (st.reads (v := arr y.1) 0 rfl TF.t28 (getV_all (by rw [List.size_toArray, length_bs]; exact hy32)))) rfl ?_
   refine wl_digOne _ hy32 rfl st rfl ?_
   intro b27 w st
   refine wl_digApp 1 st rfl hy32 rfl rfl (by omega) rfl ?_
   intro v28 w st hv28
   have st : St m m1 [] wI w [digE v28 (L ++ [y.1]), iterE arr stV es clock bm g20 (p1 ++ p2)] := st.drop 0
   refine wl_val (v_assign' (by conv => (lhs; whnf))) rfl ?_
   refine wl_nil ?_
   refine block_go (then_go ?_)
   refine ⟨(p1 ++ p2).length, ?_, v28, L ++ [y.1], p1 ++ p2, rfl, rfl, rfl, ?_, st⟩
   ·rw [hq, hR]; simp
   ·refine List.Perm.trans ?_ hperm
    rw [hR]
    simp only [List.map_append, List.map_cons, List.append_assoc, List.singleton_append]
    exact (List.perm_middle (l₁ := p1.map (·.1))).symm.append_left L
theorem c_split {lv dv : Value} {ds : List By} {N : List (By × Value)} (him : Im m wI) (hd : DigM m dv ds) (hN : PcsM m lv N) (hNl : ∀ x ∈ N, x.1.length ≤ 1000000000) (hNn : N.length ≤ 100000000) (hds : ds.length ≤ 1000000) (hl : ∀ d ∈ ds, (ldF (pgM (mapOf N)) d).1.length ≤ 100000) :
  Ret Try.prog 26 #[dv, lv] wI fun v' w' => Out m wI w' fun m' => SplitOut m' v' (pgM (mapOf N)) ds (N.map (·.1)) := by
 have st := St.start him
 refine ret_of Try.call26 Try.func26 rfl Try.ntmps26 Try.results26 rfl ?_
 refine wc_seq ?_
 refine wc_region ?_
 refine wl_val (v_assign' (by conv => (lhs; whnf))) rfl ?_
 refine wl_val (v_assign' (by conv => (lhs; whnf))) rfl ?_
 refine wl_val (v_assign' (by conv => (lhs; whnf))) rfl ?_
 refine wl_nil ?_
 refine then_go ?_
 refine wc_seq ?_
 refine wc_region ?_
 refine wl_val (v_move' (by conv => (lhs; whnf))) rfl ?_
 refine wl_val (v_move' (by conv => (lhs; whnf))) rfl ?_
 refine wl_call rfl (c_mark st.im hd hN hNl (by omega) hds hl) rfl ?_
 rintro v13 w ⟨t13, m1, hg1, hi1, hv13⟩
 have st := st.grown hg1 t13 hi1
 have hN := hN.mono hg1.le
 obtain ⟨M, hM⟩ : ∃ M, M = pgM (mapOf N) := ⟨_, rfl⟩
 rw [← hM] at hv13 ⊢
 obtain ⟨mv, e, rfl, he, hpe⟩ := mark_out hv13
 refine wl_val (v_move' (by conv => (lhs; whnf))) rfl ?_
 refine wl_val (v_extract rfl rfl) rfl ?_
 refine wl_val (v_extract rfl rfl) rfl ?_
 refine wl_val (v_assign' (by conv => (lhs; whnf))) rfl ?_
 refine wl_val (v_assign' (by conv => (lhs; whnf))) rfl ?_
 refine wl_nil ?_
 refine then_go ?_
 refine wc_seq ?_
 refine wc_seq ?_
 refine wc_region ?_
 refine wl_val (v_move' (by conv => (lhs; whnf))) rfl ?_
 refine wl_val (v_neq rfl rfl) rfl ?_
 refine wl_nil ?_
 refine then_go ?_
 refine wc_cond rfl (fun h17 => ?_) (fun h17 => ?_)
 ·refine wc_seq ?_
  refine wc_region ?_
  refine wl_val (v_move' (by conv => (lhs; whnf))) rfl ?_
  refine wl_val (v_assign' (by conv => (lhs; whnf))) rfl ?_
  refine wl_val (v_assign' (by conv => (lhs; whnf))) rfl ?_
  refine wl_val (v_assign' (by conv => (lhs; whnf))) rfl ?_
  refine wl_nil ?_
  refine then_go ?_
  refine wc_ret (then_ret ?_)
  have he0 : errF M ds ≠ 0 := by rw [← he]; simpa using h17
  refine ret3 rfl rfl rfl ((st.keepOnly (l := []) (List.nil_sublist _)).out ?_)
  unfold SplitOut
  rw [if_pos he0, ← he]
  rfl
 ·refine wc_skip ?_
  refine then_go ?_
  refine wc_seq ?_
  refine wc_seq ?_
  have he0 : e = 0 := by simpa using h17
  obtain ⟨bm, hmv, hmap⟩ := hpe he0
  subst hmv
  clear hpe
  obtain ⟨na, nc, hlv⟩ : ∃ a c, lv = .slice a N.length c := by obtain ⟨⟨_, a, c, h, _⟩, _⟩ := hN; exact ⟨a, c, h⟩
  subst hlv
  obtain ⟨S, hSd⟩ : ∃ S, S = (markF M ds).map sum := ⟨_, rfl⟩
  refine wc_region ?_
  refine wl_val (v_move' (by conv => (lhs; whnf))) rfl ?_
  refine wl_val (v_len_s Try.underlying29 rfl) rfl ?_
  refine wl_val (v_move' (by conv => (lhs; whnf))) rfl ?_
  refine wl_nil ?_
  refine then_go ?_
  refine wc_block ?_
  have st := nilRow st 37 1
  have st := nilRow st 37 1
  refine wc_loop (S := Nat) (fun q r w' => ∃ (i : Nat) (m' : Mem) (nv iv : Value) (A B : List (By × Value)), q + i = N.length ∧ r 4 = nv ∧ r 5 = iv ∧ r 7 = .map (some bm) ∧ r 19 = .slice na N.length nc ∧ r 20 = .int .i64 N.length ∧ r 21 = .int .i64 i ∧ (∀ k o, m1 k = some o → m' k = some o) ∧ Pcs m' A ∧ Pcs m' B ∧ A.map (·.1) = ((N.take i).map (·.1)).filter (fun p => decide (sum p ∈ S)) ∧ B.map (·.1) = ((N.take i).map (·.1)).filter (fun p => !decide (sum p ∈ S)) ∧ St m m' [] wI w' [lrE nv A, lrE iv B]) id N.length ⟨0, m1, _, _, [], [], by omega, rfl, rfl, rfl, rfl, rfl, rfl, fun _ _ h => h, (by intro x hx; cases hx), (by intro x hx; cases hx), rfl, rfl, st⟩ ?_
  clear st
  rintro q r w2 ⟨i, m', nv, iv, A, B, hqi, g4, g5, g7, g19, g20, g21, hmm, hA, hB, hAe, hBe, st⟩
  refine wc_o 4 g4 (wc_o 5 g5 (wc_o 7 g7 (wc_o 19 g19 (wc_o 20 g20 (wc_o 21 g21 ?_)))))
  have hN' := hN.mono hmm
  have hmap' := hmap.mono hmm
  have hAl : A.length ≤ i := by have := congrArg List.length hAe; rw [List.length_map] at this; rw [this]; refine Nat.le_trans (List.length_filter_le _ _) ?_; simp; omega
  have hBl : B.length ≤ i := by have := congrArg List.length hBe; rw [List.length_map] at this; rw [this]; refine Nat.le_trans (List.length_filter_le _ _) ?_; simp; omega
  refine wc_seq ?_
  refine wc_region ?_
  refine wl_val (v_lss rfl rfl) rfl ?_
  refine wl_nil ?_
  refine then_go ?_
  refine wc_seq ?_
  refine wc_if rfl (fun h22 => ?_) (fun h22 => ?_)
  ·refine wc_skip ?_
   refine then_go ?_
   refine wc_seq ?_
   refine wc_block ?_
   refine wc_seq ?_
   have hi : i < N.length := by omega
   obtain ⟨nb, no, _, hnv, hs0, hrk⟩ := hN'.elem hi
   cases hnv
   have hsl := hNl _ (List.getElem_mem hi)
   have htk : (N.take (i + 1)).map (·.1) = (N.take i).map (·.1) ++ [N[i].1] := by rw [List.take_succ_eq_append_getElem hi, List.map_append]; rfl
   refine wc_region ?_
   refine wl_val (v_ias i Try.underlying29 TF.t37 rfl rfl (by first | rfl | omega) (by first | omega | (dsimp only at *; omega))) rfl ?_
   refine wl_val (v_load rfl (hrk st.im)) rfl ?_
   refine wl_val (v_assign' (by conv => (lhs; whnf))) rfl ?_
   refine wl_nil ?_
   refine then_go ?_
   refine wc_seq ?_
   refine wc_region ?_
   refine wl_val (v_move' (by conv => (lhs; whnf))) rfl ?_
   refine wl_val (v_move' (by conv => (lhs; whnf))) rfl ?_
   refine wl_call rfl (c_tagsof st.im hs0 (by omega)) rfl ?_
   rintro v27 w ⟨t27, rfl⟩
   have st := st.pure t27
   refine wl_val (v_to (v' := .int .i64 (if sum N[i].1 ∈ S then 1 else 0 : Nat)) (v_mapGet1 hmap' st.im dig_keyT Try.underlying88 stZ markL_keys (length_sum _) rfl rfl) (by rw [markL_get, ← hSd]; split <;> rfl)) rfl ?_
   refine wl_val (v_eql rfl rfl) rfl ?_
   refine wl_nil ?_
   refine then_go ?_
   refine wc_cond rfl (fun h29 => ?_) (fun h29 => ?_)
   ·refine wc_region ?_
    refine wl_val (v_move' (by conv => (lhs; whnf))) rfl ?_
    refine wl_val (v_move' (by conv => (lhs; whnf))) rfl ?_
    have hin : sum N[i].1 ∈ S := by
     rw [decide_eq_true_eq] at h29
     by_cases h : sum N[i].1 ∈ S
     ·exact h
     ·rw [if_neg h] at h29; omega
    refine wl_call rfl (c_bclone st.im hs0 (by omega)) rfl ?_
    rintro v32 w ⟨t32, m2, hg2, hi2, hb32⟩
    have st := st.grown hg2 t32 hi2
    have hA := hA.mono hg2.le
    have hB := hB.mono hg2.le
    refine wl_svOne (v := v32) Try.underlying29 TF.t37 TF.z37 (SlM.one1 hb32) rfl st rfl ?_
    intro b33 w st
    refine wl_lrApp (x := N[i].1) 0 st rfl (SlM.one1 hb32) rfl rfl (by omega) rfl ?_
    intro v34 w st
    have st : St m m2 [] wI w [lrE v34 (A ++ [(N[i].1, v32)]), lrE iv B] := st
    refine wl_val (v_assign' (by conv => (lhs; whnf))) rfl ?_
    refine wl_nil ?_
    refine block_go (then_go ?_)
    refine wc_region ?_
    refine wl_val (v_add' (c := ((i + 1 : Nat) : Int)) rfl rfl (by omega) (by omega) (by omega)) rfl ?_
    refine wl_val (v_move' (by conv => (lhs; whnf))) rfl ?_
    refine wl_nil ?_
    refine then_go ?_
    exact ⟨q - 1, by simp; omega, i + 1, m2, v34, iv, _, B, by omega, rfl, rfl, rfl, rfl, rfl, rfl, fun k o h => hg2.le k o (hmm k o h), hA.snoc hb32, hB, by rw [htk, List.map_append, List.filter_append, hAe, List.filter_cons, if_pos (decide_eq_true hin)]; rfl, by rw [htk, List.filter_append, hBe, List.filter_cons, if_neg (by simp [hin])]; simp, st⟩
   ·refine wc_region ?_
    refine wl_val (v_move' (by conv => (lhs; whnf))) rfl ?_
    refine wl_val (v_move' (by conv => (lhs; whnf))) rfl ?_
    have hin : ¬ sum N[i].1 ∈ S := by
     rw [decide_eq_false_iff_not] at h29
     intro h
     rw [if_pos h] at h29; omega
    refine wl_call rfl (c_bclone st.im hs0 (by omega)) rfl ?_
    rintro v37 w ⟨t37, m2, hg2, hi2, hb37⟩
    have st := st.grown hg2 t37 hi2
    have hA := hA.mono hg2.le
    have hB := hB.mono hg2.le
    refine wl_svOne (v := v37) Try.underlying29 TF.t37 TF.z37 (SlM.one1 hb37) rfl st rfl ?_
    intro b38 w st
    refine wl_lrApp (x := N[i].1) 1 st rfl (SlM.one1 hb37) rfl rfl (by omega) rfl ?_
    intro v39 w st
    have st : St m m2 [] wI w [lrE nv A, lrE v39 (B ++ [(N[i].1, v37)])] := st
    refine wl_val (v_assign' (by conv => (lhs; whnf))) rfl ?_
    refine wl_nil ?_
    refine block_go (then_go ?_)
    refine wc_region ?_
    refine wl_val (v_add' (c := ((i + 1 : Nat) : Int)) rfl rfl (by omega) (by omega) (by omega)) rfl ?_
    refine wl_val (v_move' (by conv => (lhs; whnf))) rfl ?_
    refine wl_nil ?_
    refine then_go ?_
    exact ⟨q - 1, by simp; omega, i + 1, m2, nv, v39, A, _, by omega, rfl, rfl, rfl, rfl, rfl, rfl, fun k o h => hg2.le k o (hmm k o h), hA, hB.snoc hb37, by rw [htk, List.filter_append, hAe, List.filter_cons, if_neg (by simp [hin])]; simp, by rw [htk, List.map_append, List.filter_append, hBe, List.filter_cons, if_pos (by simp [hin])]; rfl, st⟩
  ·refine wc_exit (then_exit (then_exit (block_hit ?_)))
   refine then_go ?_
   refine wc_seq ?_
   refine wc_region ?_
   refine wl_val (v_move' (by conv => (lhs; whnf))) rfl ?_
   refine wl_val (v_move' (by conv => (lhs; whnf))) rfl ?_
   refine wl_val (v_assign' (by conv => (lhs; whnf))) rfl ?_
   refine wl_val (v_assign' (by conv => (lhs; whnf))) rfl ?_
   refine wl_val (v_assign' (by conv => (lhs; whnf))) rfl ?_
   refine wl_nil ?_
   refine then_go ?_
   refine wc_ret ?_
   have hi : i = N.length := by omega
   rw [hi, List.take_length] at hAe hBe
   have st0 := st
   obtain ⟨m2, hg2, hm2, st⟩ := st.freezeR (i := 0) rfl (by simp)
   have st1 := st
   obtain ⟨m3, hg3, hm3, st⟩ := st.freezeR (i := 0) rfl (by simp)
   refine ret3 rfl rfl rfl (st.out ?_)
   unfold SplitOut
   rw [if_neg (by omega), ← hSd]
   exact ⟨nv, iv, A, B, rfl, PcsM.mono ⟨row_SlM (m := m2) (st0.at (i := 0) rfl) hm2, hA.mono hg2.le⟩ hg3.le, ⟨row_SlM (m := m3) (st1.at (i := 0) rfl) hm3, (hB.mono hg2.le).mono hg3.le⟩, hAe, hBe⟩
end
end Go.Proofs.Ytonlmjpenonabaa

namespace Go.Proofs.Ytonlmjpenonabaa
open Go Go.RowKit K SH PT
def trF (Z : List (By × By)) (i : Nat) : List (By × By) := ofLv (Z.take i)
def addP (a S : List By) : List By := S.foldl (fun a p => if p ∈ a then a else a ++ [p]) a
theorem addP_snoc {a S : List By} {p : By} : addP a (S ++ [p]) = if p ∈ addP a S then addP a S else addP a S ++ [p] := by unfold addP; rw [List.foldl_append]; rfl
theorem addP_len : ∀ {S a : List By}, (addP a S).length ≤ a.length + S.length
 | [], a => by simp [addP]
 | p :: S, a => by
  have h := addP_len (S := S) (a := if p ∈ a then a else a ++ [p])
  have e : addP a (p :: S) = addP (if p ∈ a then a else a ++ [p]) S := rfl
  rw [e, List.length_cons]
  have : (if p ∈ a then a else a ++ [p]).length ≤ a.length + 1 := by split <;> simp
  omega
theorem addP_mem {x : By} : ∀ {S a : List By}, x ∈ addP a S ↔ x ∈ a ∨ x ∈ S
 | [], a => by simp [addP]
 | p :: S, a => by
  have e : addP a (p :: S) = addP (if p ∈ a then a else a ++ [p]) S := rfl
  rw [e, addP_mem]
  split
  ·rename_i h
   simp only [List.mem_cons]
   constructor
   ·rintro (h1 | h1)
    ·exact .inl h1
    ·exact .inr (.inr h1)
   ·rintro (h1 | rfl | h1)
    ·exact .inl h1
    ·exact .inl h
    ·exact .inr h1
  ·simp [or_assoc]
def allP (Z : List (By × By)) : Nat → List By
 | 0 => []
 | i + 1 => addP (allP Z i) (sv 256 0 (trF Z (i + 1)))
def keptF (Z : List (By × By)) (Kp : List Bool) : Nat → List (List (By × By))
 | 0 => []
 | i + 1 => if Kp[i]? = some true then keptF Z Kp i ++ [trF Z (i + 1)] else keptF Z Kp i
abbrev linkF (L : List (List (By × By))) : List By := L.map fun L => sum (pg1 256 0 L)
theorem keptF_len {Z : List (By × By)} {Kp : List Bool} : ∀ {i : Nat}, (keptF Z Kp i).length ≤ i
 | 0 => by simp [keptF]
 | i + 1 => by have := keptF_len (Z := Z) (Kp := Kp) (i := i); rw [keptF]; split <;> simp <;> omega
theorem trF_len {Z : List (By × By)} {i : Nat} : (trF Z i).length ≤ i := Nat.le_trans (length_ofLv _) (by simp; omega)
theorem allP_len {Z : List (By × By)} : ∀ {i : Nat}, i ≤ 20 → (allP Z i).length ≤ i * 6000
 | 0, _ => by simp [allP]
 | i + 1, h => by
  have h1 := allP_len (Z := Z) (i := i) (by omega)
  have h2 := addP_len (S := sv 256 0 (trF Z (i + 1))) (a := allP Z i)
  have h3 := sv_len (g := 256) (d := 0) (L := trF Z (i + 1))
  have h4 := trF_len (Z := Z) (i := i + 1)
  rw [allP]
  omega
theorem trF_succ {Z : List (By × By)} {i : Nat} (hi : i < Z.length) : trF Z (i + 1) = putL Z[i].1 Z[i].2 (trF Z i) := by
 unfold trF
 rw [List.take_succ_eq_append_getElem hi, ofLv_snoc]
abbrev LB := List (By × By) × Value × Value
def kC (x : LB) : List Value := [x.2.1, x.2.2]
def bC (b : Bool) : List Value := [.bool b]
section
variable {m : Mem} {wI : World}
theorem LvM.nil0 : LvM m (.agg #[.slice none 0 0, .slice none 0 0]) [] := ⟨_, _, rfl, DigM.nil, DigM.nil⟩
theorem LvM.one1 {a b : Value} {L : List (By × By)} (h : LvM m (.agg #[a, b]) L) : a.oneCell' = true ∧ b.oneCell' = true := by
 obtain ⟨_, _, h1, h2, h3⟩ := h
 simp only [Value.agg.injEq, Array.mk.injEq, List.cons.injEq, and_true] at h1
 rw [h1.1, h1.2]
 exact ⟨SlM.one1 h2.2, SlM.one1 h3.2⟩
theorem c_all18 {av vv kv : Value} {A V : List By} {Kp : List Bool} (him : Im m wI) (hA : DigM m av A) (hV : DigM m vv V) (hK : LsM m kv bC 1 Kp) :
  Ret Try.prog 24 #[.agg #[av, vv, kv]] wI fun v' w' => Out m wI w' fun m' => ∃ lv pv tv N Ks n, n = min (min A.length V.length) 20 ∧ v' = .tuple #[lv, pv, tv] ∧ DigM m' lv (linkF (keptF (A.zip V) Kp n)) ∧ PcsM m' pv N ∧ LsM m' tv kC 2 Ks ∧ (∀ x ∈ Ks, LvM m' (.agg #[x.2.1, x.2.2]) x.1) ∧ N.map (·.1) = allP (A.zip V) n ∧ Ks.map (·.1) = keptF (A.zip V) Kp n := by
 have st := St.start him
 obtain ⟨aa, ac, rfl⟩ := hA.sl
 obtain ⟨va, vc, rfl⟩ := hV.sl
 obtain ⟨ka, kc, rfl⟩ := hK.sl
 obtain ⟨Z, hZ⟩ : ∃ Z, Z = A.zip V := ⟨_, rfl⟩
 rw [← hZ]
 have hZl : Z.length = min A.length V.length := by rw [hZ]; simp
 refine ret_of Try.call24 Try.func24 rfl Try.ntmps24 Try.results24 rfl ?_
 refine wc_seq ?_
 refine wc_region ?_
 refine wl_box (v := .agg #[.slice aa A.length ac, .slice va V.length vc, .slice ka Kp.length kc]) rfl st rfl ?_
 intro b1 w st
 refine wl_val (v_assign' (by conv => (lhs; whnf))) rfl ?_
 refine wl_val (v_assign' (by conv => (lhs; whnf))) rfl ?_
 refine wl_val (v_assign' (by conv => (lhs; whnf))) rfl ?_
 refine wl_nil ?_
 refine then_go ?_
 refine wc_seq ?_
 refine wc_region ?_
 refine wl_val (v_assign' (by conv => (lhs; whnf))) rfl ?_
 refine wl_nil ?_
 refine then_go ?_
 refine wc_seq ?_
 refine wc_region ?_
 refine wl_val (v_assign' (by conv => (lhs; whnf))) rfl ?_
 refine wl_nil ?_
 refine then_go ?_
 refine wc_seq ?_
 refine wc_region ?_
 refine wl_val (v_assign' (by conv => (lhs; whnf))) rfl ?_
 refine wl_nil ?_
 refine then_go ?_
 refine wc_seq ?_
 refine wc_region ?_
 refine wl_val (v_build (c' := #[.slice none 0 0, .slice none 0 0]) [] TF.z34 TF.p34 rfl rfl) rfl ?_
 refine wl_alloc TF.z34 st rfl ?_
 intro b8 w st
 refine wl_storeW (cs := #[.slice none 0 0, .slice none 0 0]) 0 st rfl TF.t34 rfl rfl rfl rfl (by intro u hu; simp at hu; rw [hu]; rfl) ?_
 intro w st
 refine wl_nil ?_
 refine then_go ?_
 refine wc_seq ?_
 refine wc_seq ?_
 refine wc_region ?_
 refine wl_val (v_assign' (by conv => (lhs; whnf))) rfl ?_
 refine wl_nil ?_
 refine then_go ?_
 refine wc_block ?_
 have st := nilRow st 34 2
 have st := nilRow st 37 1
 have st := st.nilDig
 refine wc_loop (S := Nat) (fun q r w' => ∃ (i : Nat) (m' : Mem) (lv pv tv v1 v2 : Value) (N : List (By × Value)) (Ks : List LB), q + i = min (min A.length V.length) 20 ∧ r 1 = .pointer (some ⟨b1, 0, none⟩) ∧ r 5 = lv ∧ r 6 = pv ∧ r 7 = tv ∧ r 8 = .pointer (some ⟨b8, 0, none⟩) ∧ r 9 = .int .i64 i ∧ N.map (·.1) = allP Z i ∧ Ks.map (·.1) = keptF Z Kp i ∧ Pcs m' N ∧ (∀ x ∈ Ks, LvM m' (.agg #[x.2.1, x.2.2]) x.1) ∧ LvM m' (.agg #[v1, v2]) (trF Z i) ∧ (∀ k o, m k = some o → m' k = some o) ∧
  St m m' [] wI w' [digE lv (linkF (keptF Z Kp i)), lrE pv N, lsE 34 2 kC tv Ks, K.blk b8 #[v1, v2] 34, K.blk b1 #[.slice aa A.length ac, .slice va V.length vc, .slice ka Kp.length kc] 53]) id (min (min A.length V.length) 20) ⟨0, m, _, _, _, _, _, [], [], by omega, rfl, rfl, rfl, rfl, rfl, rfl, rfl, rfl, (by intro x hx; cases hx), (by intro x hx; cases hx), LvM.nil0, fun _ _ h => h, st⟩ ?_
 clear st
 rintro q r w2 ⟨i, m', lv, pv, tv, v1, v2, N, Ks, hqi, g1, g5, g6, g7, g8, g9, hNe, hKe, hN, hKs, hLv, hmm, st⟩
 refine wc_o 1 g1 (wc_o 5 g5 (wc_o 6 g6 (wc_o 7 g7 (wc_o 8 g8 (wc_o 9 g9 ?_)))))
 have hA := hA.mono hmm
 have hV := hV.mono hmm
 have hK := hK.mono hmm
 refine wc_seq ?_
 refine wc_seq ?_
 refine wc_region ?_
 refine wl_val (v_move' (by conv => (lhs; whnf))) rfl ?_
 refine wl_val (v_fa TF.f53_0 rfl) rfl ?_
 refine wl_val (v_load rfl (st.reads (v := .slice aa A.length ac) 4 rfl TF.t22 rfl)) rfl ?_
 refine wl_val (v_len_s Try.underlying22 rfl) rfl ?_
 refine wl_val (v_lss rfl rfl) rfl ?_
 refine wl_val (v_move' (by conv => (lhs; whnf))) rfl ?_
 refine wl_valg rfl rfl (fun e => (v_move' (by conv => (lhs; whnf)))) rfl ?_
 refine wl_valg rfl rfl (fun e => (v_fa TF.f53_1 (by first | rfl | exact gx e rfl))) rfl ?_
 refine wl_valg rfl rfl (fun e => (v_load (by first | rfl | exact gx e rfl) (st.reads (v := .slice va V.length vc) 4 (by first | rfl | exact gx e rfl) TF.t22 (by first | rfl | exact gx e rfl)))) rfl ?_
 refine wl_valg rfl rfl (fun e => (v_len_s Try.underlying22 (by first | rfl | exact gx e rfl))) rfl ?_
 refine wl_valg rfl rfl (fun e => (v_lss (by first | rfl | exact gx e rfl) (by first | rfl | exact gx e rfl))) rfl ?_
 refine wl_val (v_pickA rfl rfl rfl) rfl ?_
 refine wl_val (v_move' (by conv => (lhs; whnf))) rfl ?_
 refine wl_valg rfl rfl (fun e => (v_move' (by conv => (lhs; whnf)))) rfl ?_
 refine wl_valg rfl rfl (fun e => (v_lss (by first | rfl | exact gx e rfl) (by first | rfl | exact gx e rfl))) rfl ?_
 refine wl_val (v_pickA rfl rfl rfl) rfl ?_
 refine wl_nil ?_
 refine then_go ?_
 refine wc_cond rfl (fun h31 => ?_) (fun h31 => ?_)
 ·refine wc_skip ?_
  refine then_go ?_
  refine wc_seq ?_
  refine wc_block ?_
  refine wc_seq ?_
  have hi3 : i < A.length ∧ i < V.length ∧ i < 20 := by simp at h31; omega
  obtain ⟨hi1, hi2, hi20⟩ := hi3
  have hiZ : i < Z.length := by omega
  obtain ⟨ab, ao, hab, hra⟩ := hA.at hi1
  subst hab
  obtain ⟨vb, vo, hvb, hrv⟩ := hV.at hi2
  subst hvb
  have ha32 := hA.1 _ (List.getElem_mem hi1)
  have hv32 := hV.1 _ (List.getElem_mem hi2)
  have hZi : Z[i] = (A[i], V[i]) := by simp [hZ]
  have htr : trF Z (i + 1) = putL A[i] V[i] (trF Z i) := by rw [trF_succ hiZ, hZi]
  have htl := trF_len (Z := Z) (i := i)
  have htl1 := trF_len (Z := Z) (i := i + 1)
  refine wc_draw TF.mixed ?_
  have st := st.pure (touch_drew _)
  refine fl_ld 0 rfl (v_load rfl (st.reads (v := .agg #[v1, v2]) 3 rfl TF.t34 (getV_all rfl))) (by kernel_rfl) ?_
  refine fl_val 1 rfl (fun _ => (v_fa TF.f53_0 rfl)) rfl (by kernel_rfl) ?_
  refine fl_ld 2 rfl (v_load rfl (st.reads (v := .slice (some ⟨ab, ao, none⟩) A.length ac) 4 rfl TF.t22 rfl)) (by kernel_rfl) ?_
  refine fl_val 3 rfl (fun _ => (v_move' (by conv => (lhs; whnf)))) rfl (by kernel_rfl) ?_
  refine fl_val 4 rfl (fun _ => (v_ias i Try.underlying22 TF.t28 rfl rfl (by first | rfl | omega) (by first | omega | (dsimp only at *; omega)))) rfl (by kernel_rfl) ?_
  refine fl_ld 5 rfl (v_load rfl (hra st.im)) (by kernel_rfl) ?_
  refine fl_val 6 rfl (fun _ => (v_fa TF.f53_1 rfl)) rfl (by kernel_rfl) ?_
  refine fl_ld 7 rfl (v_load rfl (st.reads (v := .slice (some ⟨vb, vo, none⟩) V.length vc) 4 rfl TF.t22 rfl)) (by kernel_rfl) ?_
  refine fl_val 8 rfl (fun _ => (v_move' (by conv => (lhs; whnf)))) rfl (by kernel_rfl) ?_
  refine fl_val 9 rfl (fun _ => (v_ias i Try.underlying22 TF.t28 rfl rfl (by first | rfl | omega) (by first | omega | (dsimp only at *; omega)))) rfl (by kernel_rfl) ?_
  refine fl_ld 10 rfl (v_load rfl (hrv st.im)) (by kernel_rfl) ?_
  refine fl_eff1 11 [9, 8, 6, 4, 3, 1] [7, 2] (by kernel_rfl) ⟨obl_ld rfl rfl rfl (v_load rfl (hrv st.im)), obl_ld rfl rfl rfl (v_load rfl (st.reads (v := .slice (some ⟨vb, vo, none⟩) V.length vc) 4 rfl TF.t22 rfl)), obl_ld rfl rfl rfl (v_load rfl (hra st.im)), obl_ld rfl rfl rfl (v_load rfl (st.reads (v := .slice (some ⟨ab, ao, none⟩) A.length ac) 4 rfl TF.t22 rfl)), obl_ld rfl rfl rfl (v_load rfl (st.reads (v := .agg #[v1, v2]) 3 rfl TF.t34 (getV_all rfl))), trivial⟩ rfl ?_
  refine wl_call rfl (c_rput st.im hLv ha32 hv32 (by omega)) rfl ?_
  rintro v45 w ⟨t45, m1, hg1, hi1', hLv1⟩
  have st := st.grown hg1 t45 hi1'
  obtain ⟨u1, u2, hv45, _⟩ := id hLv1
  subst hv45
  obtain ⟨o1, o2⟩ := hLv1.one1
  rw [← htr] at hLv1
  refine wl_nil ⟨rfl, ?_⟩
  refine fl_eff1 12 [] [] (by kernel_rfl) ⟨obl_ld rfl rfl rfl (v_load rfl (st.reads (v := .slice (some ⟨vb, vo, none⟩) V.length vc) 4 rfl TF.t22 rfl)), obl_ld rfl rfl rfl (v_load rfl (st.reads (v := .slice (some ⟨ab, ao, none⟩) A.length ac) 4 rfl TF.t22 rfl)), trivial⟩ rfl ?_
  refine wl_storeW (cs := #[u1, u2]) 3 st rfl TF.t34 rfl rfl rfl rfl (by intro u hu; simp at hu; rcases hu with rfl | rfl; exact o1; exact o2) ?_
  intro w st
  have st : St m m1 [] wI w [digE lv (linkF (keptF Z Kp i)), lrE pv N, lsE 34 2 kC tv Ks, K.blk b8 #[u1, u2] 34, K.blk b1 #[.slice (some ⟨ab, ao, none⟩) A.length ac, .slice (some ⟨vb, vo, none⟩) V.length vc, .slice ka Kp.length kc] 53] := st
  refine wl_nil ⟨rfl, ?_⟩
  refine fl_nil (by kernel_rfl) trivial ?_
  refine then_go ?_
  refine wc_seq ?_
  obtain ⟨L, hL⟩ : ∃ L, L = trF Z (i + 1) := ⟨_, rfl⟩
  obtain ⟨hfD, hfU, hfd⟩ : Dst 0 L ∧ Up L ∧ D32p L := by rw [hL]; exact ofLv_fine fun x hx => d32_zip hA.1 hV.1 x (by rw [← hZ]; exact List.mem_of_mem_take hx)
  have hap : allP Z (i + 1) = addP (allP Z i) (sv 256 0 L) := by rw [hL]; rfl
  have hkp : keptF Z Kp (i + 1) = if Kp[i]? = some true then keptF Z Kp i ++ [L] else keptF Z Kp i := by rw [hL]; rfl
  rw [← hL] at hLv1 htl1
  refine wc_region ?_
  refine wl_val (v_load rfl (st.reads (v := .agg #[u1, u2]) 3 rfl TF.t34 (getV_all rfl))) rfl ?_
  refine wl_call rfl (c_rsave (g := 256) st.im hLv1 hfd hfD rfl (by omega)) rfl ?_
  rintro v48 w ⟨t48, m2, hg2, hi2', lv1, N1, rfl, hN1, hs1⟩
  have st := st.grown hg2 t48 hi2'
  obtain ⟨na, nc, hlv1⟩ : ∃ a c, lv1 = .slice a N1.length c := by obtain ⟨⟨_, a, c, h, _⟩, _⟩ := hN1; exact ⟨a, c, h⟩
  subst hlv1
  have hNS : N1.length = (sv 256 0 L).length := by rw [← hs1, List.length_map]
  have hNl : N1.length ≤ 10000 := by have h := sv_len (g := 256) (d := 0) (L := L); omega
  refine wl_val (v_move' (by conv => (lhs; whnf))) rfl ?_
  refine wl_val (v_extract rfl rfl) rfl ?_
  refine wl_val (v_extract rfl rfl) rfl ?_
  refine wl_alloc TF.z28 st rfl ?_
  intro b10 w st
  refine wl_storeW (cs := (bs (sum (pg1 256 0 L))).toArray) 0 st rfl TF.t28 rfl rfl (by rw [List.size_toArray, length_bs, length_sum]) rfl (one_bs _) ?_
  intro w st
  have hN := (hN.mono hg1.le).mono hg2.le
  have hKs : ∀ x ∈ Ks, LvM m2 (.agg #[x.2.1, x.2.2]) x.1 := fun x hx => ((hKs x hx).mono hg1.le).mono hg2.le
  have hLv1 := hLv1.mono hg2.le
  have hK := (hK.mono hg1.le).mono hg2.le
  have hmm2 : ∀ k o, m k = some o → m2 k = some o := fun k o h => hg2.le _ _ (hg1.le _ _ (hmm k o h))
  have hal := allP_len (Z := Z) (i := i) (by omega)
  refine wl_val (v_assign' (by conv => (lhs; whnf))) rfl ?_
  refine wl_nil ?_
  refine then_go ?_
  refine wc_seq ?_
  refine wc_seq ?_
  refine wc_region ?_
  refine wl_val (v_assign' (by conv => (lhs; whnf))) rfl ?_
  refine wl_nil ?_
  refine then_go ?_
  refine wc_block ?_
  refine wc_loop (S := Nat) (fun q r w' => ∃ (k : Nat) (pv : Value) (N : List (By × Value)), q + k = N1.length ∧ r 1 = .pointer (some ⟨b1, 0, none⟩) ∧ r 5 = lv ∧ r 6 = pv ∧ r 7 = tv ∧ r 8 = .pointer (some ⟨b8, 0, none⟩) ∧ r 9 = .int .i64 i ∧ r 10 = .pointer (some ⟨b10, 0, none⟩) ∧ r 11 = .slice na N1.length nc ∧ r 12 = .int .i64 k ∧ N.map (·.1) = addP (allP Z i) ((N1.take k).map (·.1)) ∧ Pcs m2 N ∧
   St m m2 [] wI w' [lrE pv N, K.blk b10 (bs (sum (pg1 256 0 L))).toArray 28, digE lv (linkF (keptF Z Kp i)), lsE 34 2 kC tv Ks, K.blk b8 #[u1, u2] 34, K.blk b1 #[.slice (some ⟨ab, ao, none⟩) A.length ac, .slice (some ⟨vb, vo, none⟩) V.length vc, .slice ka Kp.length kc] 53]) id N1.length ⟨0, pv, N, by omega, rfl, rfl, rfl, rfl, rfl, rfl, rfl, rfl, rfl, by simpa [addP] using hNe, hN, (st.perm (List.perm_middle (l₁ := [_, _])))⟩ ?_
  clear st hN hNe
  rintro q2 r w3 ⟨k, pv, N, hqk, g1, g5, g6, g7, g8, g9, g10, g11, g12, hNe, hN, st⟩
  refine wc_o 1 g1 (wc_o 5 g5 (wc_o 6 g6 (wc_o 7 g7 (wc_o 8 g8 (wc_o 9 g9 (wc_o 10 g10 (wc_o 11 g11 (wc_o 12 g12 ?_))))))))
  obtain ⟨pa, pc, hpv⟩ := row_sl (st.at (i := 0) rfl)
  subst hpv
  have hNl2 : N.length ≤ 200000 := by
   have h1 := congrArg List.length hNe
   rw [List.length_map] at h1
   have h2 := addP_len (a := allP Z i) (S := (N1.take k).map (·.1))
   rw [List.length_map, List.length_take] at h2
   omega
  refine wc_seq ?_
  refine wc_seq ?_
  refine wc_region ?_
  refine wl_val (v_move' (by conv => (lhs; whnf))) rfl ?_
  refine wl_val (v_move' (by conv => (lhs; whnf))) rfl ?_
  refine wl_val (v_len_s Try.underlying29 rfl) rfl ?_
  refine wl_val (v_lss rfl rfl) rfl ?_
  refine wl_nil ?_
  refine then_go ?_
  refine wc_if rfl (fun h54 => ?_) (fun h54 => ?_)
  ·refine wc_skip ?_
   refine then_go ?_
   refine wc_seq ?_
   refine wc_block ?_
   refine wc_seq ?_
   refine wc_region ?_
   refine wl_val (v_assign' (by conv => (lhs; whnf))) rfl ?_
   refine wl_nil ?_
   refine then_go ?_
   refine wc_seq ?_
   refine wc_seq ?_
   refine wc_region ?_
   refine wl_val (v_assign' (by conv => (lhs; whnf))) rfl ?_
   refine wl_nil ?_
   refine then_go ?_
   refine wc_block ?_
   have hk : k < N1.length := by omega
   obtain ⟨eb, eo, _, hev, hse, hre⟩ := hN1.elem hk
   cases hev
   obtain ⟨d0, hd0⟩ : ∃ d0 : List Ent, d0 = [K.blk b10 (bs (sum (pg1 256 0 L))).toArray 28, digE lv (linkF (keptF Z Kp i)), lsE 34 2 kC tv Ks, K.blk b8 #[u1, u2] 34, K.blk b1 #[.slice (some ⟨ab, ao, none⟩) A.length ac, .slice (some ⟨vb, vo, none⟩) V.length vc, .slice ka Kp.length kc] 53] := ⟨_, rfl⟩
   rw [← hd0] at st
   refine wc_loop (S := Nat) (fun q r w' => ∃ (j : Nat) (th : Bool), q + j = N.length ∧ r 1 = .pointer (some ⟨b1, 0, none⟩) ∧ r 5 = lv ∧ r 6 = .slice pa N.length pc ∧ r 7 = tv ∧ r 8 = .pointer (some ⟨b8, 0, none⟩) ∧ r 9 = .int .i64 i ∧ r 10 = .pointer (some ⟨b10, 0, none⟩) ∧ r 11 = .slice (some ⟨eb, eo, none⟩) N1.length nc ∧ r 12 = .int .i64 k ∧ r 13 = .bool th ∧ r 14 = .int .i64 j ∧ (th = true ↔ N1[k].1 ∈ (N.take j).map (·.1)) ∧ St m m2 [] wI w' (lrE (.slice pa N.length pc) N :: d0)) id N.length ⟨0, false, by omega, rfl, rfl, rfl, rfl, rfl, rfl, rfl, rfl, rfl, rfl, rfl, by simp, st⟩ ?_
   clear st
   rintro q3 r w4 ⟨j, th, hqj, g1, g5, g6, g7, g8, g9, g10, g11, g12, g13, g14, hth, st⟩
   refine wc_o 1 g1 (wc_o 5 g5 (wc_o 6 g6 (wc_o 7 g7 (wc_o 8 g8 (wc_o 9 g9 (wc_o 10 g10 (wc_o 11 g11 (wc_o 12 g12 (wc_o 13 g13 (wc_o 14 g14 ?_))))))))))
   refine wc_seq ?_
   refine wc_seq ?_
   refine wc_region ?_
   refine wl_val (v_move' (by conv => (lhs; whnf))) rfl ?_
   refine wl_val (v_move' (by conv => (lhs; whnf))) rfl ?_
   refine wl_val (v_len_s Try.underlying29 rfl) rfl ?_
   refine wl_val (v_lss rfl rfl) rfl ?_
   refine wl_nil ?_
   refine then_go ?_
   refine wc_if rfl (fun h60 => ?_) (fun h60 => ?_)
   ·refine wc_skip ?_
    refine then_go ?_
    refine wc_seq ?_
    refine wc_block ?_
    rcases Bool.eq_false_or_eq_true th with htt | htt
    ·have hj : j < N.length := by omega
     obtain ⟨fb, fo, _, hfv, hsf, hrf⟩ := (lr_PcsM st 0 rfl hN).elem hj
     cases hfv
     have htk : N.take (j + 1) = N.take j ++ [N[j]] := List.take_succ_eq_append_getElem hj
     subst htt
     refine wc_draw TF.mixed ?_
     have st := st.pure (touch_drew _)
     refine fl_val 0 rfl (fun _ => (v_move' (by conv => (lhs; whnf)))) rfl (by kernel_rfl) ?_
     refine fl_val 1 rfl (fun _ => (v_move' (by conv => (lhs; whnf)))) rfl (by kernel_rfl) ?_
     refine fl_off 2 rfl rfl rfl rfl rfl rfl (by kernel_rfl) ?_
     refine fl_off 3 rfl rfl rfl rfl rfl rfl (by kernel_rfl) ?_
     refine fl_off 4 rfl rfl rfl rfl rfl rfl (by kernel_rfl) ?_
     refine fl_offd 5 rfl rfl rfl rfl rfl rfl (by kernel_rfl) ?_
     refine fl_offd 6 rfl rfl rfl rfl rfl rfl (by kernel_rfl) ?_
     refine fl_off 7 rfl rfl rfl rfl rfl rfl (by kernel_rfl) ?_
     refine fl_off 8 rfl rfl rfl rfl rfl rfl (by kernel_rfl) ?_
     refine fl_off 9 rfl rfl rfl rfl rfl rfl (by kernel_rfl) ?_
     refine fl_offd 10 rfl rfl rfl rfl rfl rfl (by kernel_rfl) ?_
     refine fl_offd 11 rfl rfl rfl rfl rfl rfl (by kernel_rfl) ?_
     refine fl_off 12 rfl rfl rfl rfl rfl rfl (by kernel_rfl) ?_
     refine fl_val 13 rfl (fun _ => (v_pick rfl)) rfl (by kernel_rfl) ?_
     refine fl_eff1 14 [] [] (by kernel_rfl) ⟨obl_off rfl rfl rfl rfl rfl rfl, obl_off rfl rfl rfl rfl rfl rfl, obl_off rfl rfl rfl rfl rfl rfl, obl_off rfl rfl rfl rfl rfl rfl, trivial⟩ rfl ?_
     refine wl_val (v_assign' (by conv => (lhs; whnf))) rfl ?_
     refine wl_nil ⟨rfl, ?_⟩
     refine fl_nil (by kernel_rfl) trivial ?_
     refine block_go (then_go ?_)
     refine wc_region ?_
     refine wl_val (v_move' (by conv => (lhs; whnf))) rfl ?_
     refine wl_val (v_add' (c := ((j + 1 : Nat) : Int)) rfl rfl (by omega) (by omega) (by omega)) rfl ?_
     refine wl_val (v_assign' (by conv => (lhs; whnf))) rfl ?_
     refine wl_nil ?_
     refine then_go ?_
     refine ⟨q3 - 1, by simp; omega, j + 1, _, by omega, rfl, rfl, rfl, rfl, rfl, rfl, rfl, rfl, rfl, rfl, rfl, ?_, st⟩
     rw [htk, List.map_append, List.mem_append, List.map_singleton, List.mem_singleton]
     first
     | (exact ⟨fun _ => .inl (hth.1 rfl), fun _ => rfl⟩)
     | (rw [decide_eq_true_eq, ← hth]; simp [eq_comm])
    ·have hj : j < N.length := by omega
     obtain ⟨fb, fo, _, hfv, hsf, hrf⟩ := (lr_PcsM st 0 rfl hN).elem hj
     cases hfv
     have htk : N.take (j + 1) = N.take j ++ [N[j]] := List.take_succ_eq_append_getElem hj
     subst htt
     refine wc_draw TF.mixed ?_
     have st := st.pure (touch_drew _)
     refine fl_val 0 rfl (fun _ => (v_move' (by conv => (lhs; whnf)))) rfl (by kernel_rfl) ?_
     refine fl_val 1 rfl (fun _ => (v_move' (by conv => (lhs; whnf)))) rfl (by kernel_rfl) ?_
     refine fl_on 2 rfl rfl rfl rfl (fun _ => (v_move' (by conv => (lhs; whnf)))) rfl (by kernel_rfl) ?_
     refine fl_on 3 rfl rfl rfl rfl (fun _ => (v_move' (by conv => (lhs; whnf)))) rfl (by kernel_rfl) ?_
     refine fl_on 4 rfl rfl rfl rfl (fun _ => (v_ias j Try.underlying29 TF.t37 rfl rfl (by first | rfl | omega) (by first | omega | (dsimp only at *; omega)))) rfl (by kernel_rfl) ?_
     refine fl_ond 5 rfl rfl rfl rfl (v_load rfl (hrf (im_heapM _))) rfl (by kernel_rfl) ?_
     refine fl_ond 6 rfl rfl rfl rfl (v_b2s Try.underlying37 Try.underlying5 Try.underlying9 (im_heapM _) hsf rfl) rfl (by kernel_rfl) ?_
     refine fl_on 7 rfl rfl rfl rfl (fun _ => (v_move' (by conv => (lhs; whnf)))) rfl (by kernel_rfl) ?_
     refine fl_on 8 rfl rfl rfl rfl (fun _ => (v_move' (by conv => (lhs; whnf)))) rfl (by kernel_rfl) ?_
     refine fl_on 9 rfl rfl rfl rfl (fun _ => (v_ias k Try.underlying29 TF.t37 rfl rfl (by first | rfl | omega) (by first | omega | (dsimp only at *; omega)))) rfl (by kernel_rfl) ?_
     refine fl_ond 10 rfl rfl rfl rfl (v_load rfl (hre st.im)) rfl (by kernel_rfl) ?_
     refine fl_ond 11 rfl rfl rfl rfl (v_b2s Try.underlying37 Try.underlying5 Try.underlying9 st.im hse rfl) rfl (by kernel_rfl) ?_
     refine fl_on 12 rfl rfl rfl rfl (fun _ => (v_eqs rfl rfl)) rfl (by kernel_rfl) ?_
     refine fl_val 13 rfl (fun _ => (v_pick rfl)) rfl (by kernel_rfl) ?_
     refine fl_eff1 14 [] [] (by kernel_rfl) ⟨obl_on rfl rfl rfl rfl rfl (v_b2s Try.underlying37 Try.underlying5 Try.underlying9 st.im hse rfl), obl_on rfl rfl rfl rfl rfl (v_load rfl (hre st.im)), obl_on rfl rfl rfl rfl rfl (v_b2s Try.underlying37 Try.underlying5 Try.underlying9 (im_heapM _) hsf rfl), obl_on rfl rfl rfl rfl rfl (v_load rfl (hrf (im_heapM _))), trivial⟩ rfl ?_
     refine wl_val (v_assign' (by conv => (lhs; whnf))) rfl ?_
     refine wl_nil ⟨rfl, ?_⟩
     refine fl_nil (by kernel_rfl) trivial ?_
     refine block_go (then_go ?_)
     refine wc_region ?_
     refine wl_val (v_move' (by conv => (lhs; whnf))) rfl ?_
     refine wl_val (v_add' (c := ((j + 1 : Nat) : Int)) rfl rfl (by omega) (by omega) (by omega)) rfl ?_
     refine wl_val (v_assign' (by conv => (lhs; whnf))) rfl ?_
     refine wl_nil ?_
     refine then_go ?_
     refine ⟨q3 - 1, by simp; omega, j + 1, _, by omega, rfl, rfl, rfl, rfl, rfl, rfl, rfl, rfl, rfl, rfl, rfl, ?_, st⟩
     rw [htk, List.map_append, List.mem_append, List.map_singleton, List.mem_singleton]
     first
     | (exact ⟨fun _ => .inl (hth.1 rfl), fun _ => rfl⟩)
     | (rw [decide_eq_true_eq, ← hth]; simp [eq_comm])
   ·refine wc_exit (then_exit (then_exit (block_hit ?_)))
    refine then_go ?_
    refine wc_seq ?_
    have hjN : j = N.length := by omega
    subst hjN
    rw [List.take_length] at hth
    subst hd0
    have htk2 : (N1.take (k + 1)).map (·.1) = (N1.take k).map (·.1) ++ [N1[k].1] := by rw [List.take_succ_eq_append_getElem hk, List.map_append]; rfl
    refine wc_region ?_
    refine wl_val (v_move' (by conv => (lhs; whnf))) rfl ?_
    refine wl_val (v_not rfl) rfl ?_
    refine wl_nil ?_
    refine then_go ?_
    refine wc_cond rfl (fun h78 => ?_) (fun h78 => ?_)
    ·refine wc_region ?_
     refine wl_val (v_move' (by conv => (lhs; whnf))) rfl ?_
     refine wl_val (v_move' (by conv => (lhs; whnf))) rfl ?_
     refine wl_val (v_move' (by conv => (lhs; whnf))) rfl ?_
     refine wl_val (v_ias k Try.underlying29 TF.t37 rfl rfl (by first | rfl | omega) (by first | omega | (dsimp only at *; omega))) rfl ?_
     refine wl_val (v_load rfl (hre st.im)) rfl ?_
     refine wl_svOne (v := N1[k].2) Try.underlying29 TF.t37 TF.z37 (SlM.one1 hse) rfl st rfl ?_
     intro b84 w st
     refine wl_lrApp (x := N1[k].1) 0 st rfl (SlM.one1 hse) rfl rfl (by omega) rfl ?_
     intro v85 w st
     refine wl_val (v_assign' (by conv => (lhs; whnf))) rfl ?_
     refine wl_nil ?_
     refine block_go (then_go ?_)
     refine wc_region ?_
     refine wl_val (v_move' (by conv => (lhs; whnf))) rfl ?_
     refine wl_val (v_add' (c := ((k + 1 : Nat) : Int)) rfl rfl (by omega) (by omega) (by omega)) rfl ?_
     refine wl_val (v_assign' (by conv => (lhs; whnf))) rfl ?_
     refine wl_nil ?_
     refine then_go ?_
     refine ⟨q2 - 1, by simp; omega, k + 1, v85, N ++ [(N1[k].1, N1[k].2)], by omega, rfl, rfl, rfl, rfl, rfl, rfl, rfl, rfl, rfl, ?_, hN.snoc hse, st⟩
     have hnot : ¬ N1[k].1 ∈ N.map (·.1) := fun h => by have := hth.2 h; rw [this] at h78; cases h78
     rw [htk2, addP_snoc, ← hNe, if_neg hnot, List.map_append]
     rfl
    ·refine wc_skip ?_
     refine block_go (then_go ?_)
     refine wc_region ?_
     refine wl_val (v_move' (by conv => (lhs; whnf))) rfl ?_
     refine wl_val (v_add' (c := ((k + 1 : Nat) : Int)) rfl rfl (by omega) (by omega) (by omega)) rfl ?_
     refine wl_val (v_assign' (by conv => (lhs; whnf))) rfl ?_
     refine wl_nil ?_
     refine then_go ?_
     refine ⟨q2 - 1, by simp; omega, k + 1, .slice pa N.length pc, N, by omega, rfl, rfl, rfl, rfl, rfl, rfl, rfl, rfl, rfl, ?_, hN, st⟩
     have hyes : N1[k].1 ∈ N.map (·.1) := hth.1 (by simpa using h78)
     rw [htk2, addP_snoc, ← hNe, if_pos hyes]
  ·refine wc_exit (then_exit (then_exit (block_hit ?_)))
   refine then_go ?_
   refine wc_seq ?_
   by_cases hki : i < Kp.length
   ·have hkN : k = N1.length := by omega
    rw [hkN, List.take_length, hs1, ← hap] at hNe
    have hkl := keptF_len (Z := Z) (Kp := Kp) (i := i)
    have hKsl : Ks.length ≤ 20 := by have := congrArg List.length hKe; rw [List.length_map] at this; omega
    obtain ⟨kb, ko, hkb⟩ := hK.ptr (by omega) (by decide)
    subst hkb
    have hkq : Kp[i]? = some Kp[i] := List.getElem?_eq_getElem hki
    refine wc_region ?_
    refine wl_val (v_move' (by conv => (lhs; whnf))) rfl ?_
    refine wl_val (v_fa TF.f53_2 rfl) rfl ?_
    refine wl_val (v_load rfl (st.reads (v := .slice (some ⟨kb, ko, none⟩) Kp.length kc) 5 rfl TF.t51 rfl)) rfl ?_
    refine wl_val (v_len_s Try.underlying51 rfl) rfl ?_
    refine wl_val (wl_valD (v_lss rfl rfl) (q := true) (decide_eq_true (by omega))) rfl ?_
    refine wl_val (v_move' (by conv => (lhs; whnf))) rfl ?_
    refine wl_on rfl rfl ?_
    refine wl_val (v_fa TF.f53_2 rfl) rfl ?_
    refine wl_on rfl rfl ?_
    refine wl_val (v_load rfl (st.reads (v := .slice (some ⟨kb, ko, none⟩) Kp.length kc) 5 rfl TF.t51 rfl)) rfl ?_
    refine wl_on rfl rfl ?_
    refine wl_val (v_move' (by conv => (lhs; whnf))) rfl ?_
    refine wl_on rfl rfl ?_
    refine wl_val (v_ias i Try.underlying51 TF.t4 rfl rfl (by first | rfl | omega) (by first | omega | (dsimp only at *; omega))) rfl ?_
    refine wl_on rfl rfl ?_
    refine wl_val (v_load rfl (hK.rd0 rfl hki (by decide) TF.t4 (v' := .bool Kp[i]) rfl st.im)) rfl ?_
    refine wl_val (v_pick rfl) rfl ?_
    refine wl_nil ?_
    refine then_go ?_
    refine wc_cond rfl (fun h97 => ?_) (fun h97 => ?_)
    ·refine wc_seq ?_
     refine wc_region ?_
     refine wl_val (v_move' (by conv => (lhs; whnf))) rfl ?_
     refine wl_val (v_load rfl (st.reads (v := arr (sum (pg1 256 0 L))) 1 rfl TF.t28 (getV_all (by rw [List.size_toArray, length_bs, length_sum])))) rfl ?_
     refine wl_digOne _ (length_sum _) rfl st rfl ?_
     intro b100 w st
     refine wl_digApp 2 st rfl (length_sum _) rfl rfl (by rw [List.length_map]; omega) rfl ?_
     intro v101 w st hv101
     refine wl_val (v_assign' (by conv => (lhs; whnf))) rfl ?_
     refine wl_nil ?_
     refine then_go ?_
     refine wc_region ?_
     refine wl_val (v_move' (by conv => (lhs; whnf))) rfl ?_
     refine wl_val (v_load rfl (st.reads (v := .agg #[u1, u2]) 4 rfl TF.t34 (getV_all rfl))) rfl ?_
     refine wl_lsOne [u1, u2] Try.underlying54 TF.t34 TF.z34 (by decide) (by decide) rfl rfl st rfl ?_
     intro b104 w st
     refine wl_lsApp (c := kC) (e := (L, u1, u2)) 3 st rfl Try.underlying54 TF.t34 TF.z34 rfl rfl (by intro u hu; simp [kC] at hu; rcases hu with rfl | rfl; exact o1; exact o2) rfl rfl (by omega) (by omega) rfl ?_
     intro v105 w st hv105
     refine wl_val (v_assign' (by conv => (lhs; whnf))) rfl ?_
     refine wl_nil ?_
     refine block_go (then_go ?_)
     refine wc_region ?_
     refine wl_val (v_move' (by conv => (lhs; whnf))) rfl ?_
     refine wl_val (v_add' (c := ((i + 1 : Nat) : Int)) rfl rfl (by omega) (by omega) (by omega)) rfl ?_
     refine wl_val (v_assign' (by conv => (lhs; whnf))) rfl ?_
     refine wl_nil ?_
     refine then_go ?_
     have hk1 : keptF Z Kp (i + 1) = keptF Z Kp i ++ [L] := by rw [hkp, hkq, h97, if_pos rfl]
     refine ⟨q - 1, by simp; omega, i + 1, m2, v101, .slice pa N.length pc, v105, u1, u2, N, Ks ++ [(L, u1, u2)], by omega, rfl, rfl, rfl, rfl, rfl, rfl, hNe, by rw [hk1, List.map_append, hKe]; rfl, hN, fun x hx => ?_, hL ▸ hLv1, hmm2, ?_⟩
     ·rcases List.mem_append.1 hx with h | h
      ·exact hKs x h
      ·rw [List.mem_singleton.1 h]; exact hLv1
     ·have e1 : linkF (keptF Z Kp (i + 1)) = linkF (keptF Z Kp i) ++ [sum (pg1 256 0 L)] := by rw [hk1]; unfold linkF; rw [List.map_append]; rfl
      rw [e1]
      exact (st.drop 1).perm (List.Perm.swap _ _ _)
    ·refine wc_skip ?_
     refine block_go (then_go ?_)
     refine wc_region ?_
     refine wl_val (v_move' (by conv => (lhs; whnf))) rfl ?_
     refine wl_val (v_add' (c := ((i + 1 : Nat) : Int)) rfl rfl (by omega) (by omega) (by omega)) rfl ?_
     refine wl_val (v_assign' (by conv => (lhs; whnf))) rfl ?_
     refine wl_nil ?_
     refine then_go ?_
     have hk1 : keptF Z Kp (i + 1) = keptF Z Kp i := by rw [hkp, hkq, h97, if_neg (by simp)]
     refine ⟨q - 1, by simp; omega, i + 1, m2, lv, .slice pa N.length pc, tv, u1, u2, N, Ks, by omega, rfl, rfl, rfl, rfl, rfl, rfl, hNe, by rw [hk1, hKe], hN, hKs, hL ▸ hLv1, hmm2, ?_⟩
     rw [hk1]
     exact (st.drop 1).perm (List.Perm.swap _ _ _)
   ·have hkN : k = N1.length := by omega
    rw [hkN, List.take_length, hs1, ← hap] at hNe
    have hkl := keptF_len (Z := Z) (Kp := Kp) (i := i)
    have hKsl : Ks.length ≤ 20 := by have := congrArg List.length hKe; rw [List.length_map] at this; omega
    have hkq : Kp[i]? = none := List.getElem?_eq_none (by omega)
    refine wc_region ?_
    refine wl_val (v_move' (by conv => (lhs; whnf))) rfl ?_
    refine wl_val (v_fa TF.f53_2 rfl) rfl ?_
    refine wl_val (v_load rfl (st.reads (v := .slice ka Kp.length kc) 5 rfl TF.t51 rfl)) rfl ?_
    refine wl_val (v_len_s Try.underlying51 rfl) rfl ?_
    refine wl_val (wl_valD (v_lss rfl rfl) (q := false) (decide_eq_false (by omega))) rfl ?_
    refine wl_val (v_move' (by conv => (lhs; whnf))) rfl ?_
    refine wl_off rfl rfl rfl rfl ?_
    refine wl_off rfl rfl rfl rfl ?_
    refine wl_off rfl rfl rfl rfl ?_
    refine wl_off rfl rfl rfl rfl ?_
    refine wl_off rfl rfl rfl rfl ?_
    refine wl_val (v_pick rfl) rfl ?_
    refine wl_nil ?_
    refine then_go ?_
    refine wc_false rfl ?_
    refine wc_skip ?_
    refine block_go (then_go ?_)
    refine wc_region ?_
    refine wl_val (v_move' (by conv => (lhs; whnf))) rfl ?_
    refine wl_val (v_add' (c := ((i + 1 : Nat) : Int)) rfl rfl (by omega) (by omega) (by omega)) rfl ?_
    refine wl_val (v_assign' (by conv => (lhs; whnf))) rfl ?_
    refine wl_nil ?_
    refine then_go ?_
    have hk1 : keptF Z Kp (i + 1) = keptF Z Kp i := by rw [hkp, hkq, if_neg (by simp)]
    refine ⟨q - 1, by simp; omega, i + 1, m2, lv, .slice pa N.length pc, tv, u1, u2, N, Ks, by omega, rfl, rfl, rfl, rfl, rfl, rfl, hNe, by rw [hk1, hKe], hN, hKs, hL ▸ hLv1, hmm2, ?_⟩
    rw [hk1]
    exact (st.drop 1).perm (List.Perm.swap _ _ _)
 ·refine wc_exit (then_exit (then_exit (block_hit ?_)))
  refine then_go ?_
  refine wc_seq ?_
  refine wc_region ?_
  refine wl_val (v_move' (by conv => (lhs; whnf))) rfl ?_
  refine wl_val (v_move' (by conv => (lhs; whnf))) rfl ?_
  refine wl_val (v_move' (by conv => (lhs; whnf))) rfl ?_
  refine wl_val (v_assign' (by conv => (lhs; whnf))) rfl ?_
  refine wl_val (v_assign' (by conv => (lhs; whnf))) rfl ?_
  refine wl_val (v_assign' (by conv => (lhs; whnf))) rfl ?_
  refine wl_nil ?_
  refine then_go ?_
  refine wc_ret ?_
  have hi : i = min (min A.length V.length) 20 := by simp at h31; omega
  have st0 := st
  have hlk : D32 (linkF (keptF Z Kp i)) := fun x hx => by obtain ⟨y, _, rfl⟩ := List.mem_map.1 hx; exact length_sum _
  obtain ⟨m2, hg2, hd2, st⟩ := st.keepDig (i := 0) rfl hlk
  have st1 := st
  obtain ⟨m3, hg3, hm3, st⟩ := st.freezeR (i := 0) rfl (by simp)
  obtain ⟨m4, hg4, hls, st⟩ := st.keepLs (i := 0) rfl (fun x _ => rfl)
  refine ret3 rfl rfl rfl ((st.keepOnly (l := []) (List.nil_sublist _)).out ?_)
  exact ⟨lv, pv, tv, N, Ks, i, hi, rfl, (hd2.mono hg3.le).mono hg4.le, PcsM.mono ⟨row_SlM (m := m3) (st1.at (i := 0) rfl) hm3, (hN.mono hg2.le).mono hg3.le⟩ hg4.le, hls, fun x hx => (((hKs x hx).mono hg2.le).mono hg3.le).mono hg4.le, hNe, hKe⟩
end
end Go.Proofs.Ytonlmjpenonabaa

namespace Go.Proofs.Ytonlmjpenonabaa
open Go Go.RowKit Go.ChangeShapes Go.WideShapes K SH PT
section
variable {H : Type} {enc : TypeId × Value → H} {w : World} {sp : Nat → Bool} {held : Bool} {v : Value}
structure TrV where
 a : Value
 v : Value
 k : Value
 A : List By
 V : List By
 K : List Bool
set_option maxRecDepth 100000 in
theorem open_trees {W : World} {r : Reach} {base : Nat} {d : DataW H} {p : List MemPlace} (hv : Value.okWide Try.prog W r base 53 v) (h : DataW.Trod enc Try.prog w 0 sp held 53 v d p) : ∃ t : TrV, v = .agg #[t.a, t.v, t.k] ∧ DigM (heapM w) t.a t.A ∧ DigM (heapM w) t.v t.V ∧ LsM (heapM w) t.k bC 1 t.K := by
 obtain ⟨cs, rfl, _⟩ := okWide_struct Try.underlying53 hv
 obtain ⟨fu, hf⟩ := h
 have hl := trod_len Try.underlying53 TF.t53 hf
 obtain ⟨_, _, e0⟩ := trod_seg TF.f53_0 TF.t22 hf
 obtain ⟨_, _, e1⟩ := trod_seg TF.f53_1 TF.t22 hf
 obtain ⟨_, _, e2⟩ := trod_seg TF.f53_2 TF.t51 hf
 obtain ⟨cs⟩ := cs
 change cs.length = 3 at hl
 match cs, hl with
 | [a, b, c], _ =>
  obtain ⟨A, hA, _⟩ := open_digs (v := a) e0
  obtain ⟨V, hV, _⟩ := open_digs (v := b) e1
  obtain ⟨K, hK, _⟩ := trod_list (v := c) (c := bC) (Q := fun _ => True) Try.underlying51 TF.t4 (by decide) (fun h => by obtain ⟨b, q⟩ := trod_bo h; exact ⟨b, q, trivial⟩) e2
  exact ⟨⟨a, b, c, A, V, K⟩, rfl, hA, hV, hK⟩
end
end Go.Proofs.Ytonlmjpenonabaa

namespace Go.Proofs.Ytonlmjpenonabaa
open Go Go.RowKit K SH PT
def rdX (M : By → Option By) : Nat → By → By × List (By × By) × Nat
 | 0, _ => ([], [], 0)
 | _ + 1, [] => ([], [], 0)
 | g + 1, k :: b =>
  if k = 1 then (b.drop 64, [(b.take 32, (b.drop 32).take 32)], 1) else
  if k = 2 then ((rdX M g (rdX M g b).1).1, (rdX M g b).2.1 ++ (rdX M g (rdX M g b).1).2.1, (rdX M g b).2.2 + (rdX M g (rdX M g b).1).2.2 + 1) else
  if k = 3 then (b.drop 32, (rdX M g ((M (b.take 32)).getD [])).2.1, (rdX M g ((M (b.take 32)).getD [])).2.2 + 1) else
  (b, [], 1)
section
variable {M : By → Option By}
def Below (M : By → Option By) (h : List (By × By)) (s : Nat) (Q : By) : Prop := (rdX M 515 Q).2.2 < s ∧ (∀ x ∈ (rdX M 515 Q).2.1, x ∈ h) ∧ (rdX M 515 Q).2.1 ≠ []
end
def NoClash (S : List By) : Prop := ∀ p ∈ S, ∀ q ∈ S, sum p = sum q → p = q
theorem pgM_mem {N : List (By × Value)} {d p : By} (h : pgM (mapOf N) d = some p) : p ∈ N.map (·.1) ∧ sum p = d := by
 unfold pgM at h
 cases hg : getKV d (mapOf N) with
 | none => rw [hg] at h; cases h
 | some x =>
  rw [hg] at h
  obtain ⟨h1, h2⟩ := mapOf_mem (getKV_mem hg)
  simp only [Option.map_some, Option.some.injEq] at h
  subst h
  exact ⟨List.mem_map.2 ⟨_, h2, rfl⟩, h1.symm⟩
theorem getKV_hit {N : List (By × Value)} {d : By} (h : ∃ x ∈ N, sum x.1 = d) : (getKV d (mapOf N)).isSome = true := by
 induction hk : N.length generalizing N with
 | zero => have := List.eq_nil_of_length_eq_zero hk; subst this; obtain ⟨x, hx, _⟩ := h; cases hx
 | succ k ih =>
  have hne : N ≠ [] := by intro e; subst e; simp at hk
  obtain ⟨x, hx⟩ : ∃ x, x = N.getLast hne := ⟨_, rfl⟩
  have hN : N = N.dropLast ++ [x] := by rw [hx]; exact (List.dropLast_concat_getLast hne).symm
  rw [hN, mapOf_snoc, getKV_ins]
  split
  ·rfl
  ·rename_i hd
   obtain ⟨y, hy, hs⟩ := h
   rw [hN] at hy
   rcases List.mem_append.1 hy with hy | hy
   ·exact ih ⟨y, hy, hs⟩ (by simp [hk])
   ·rw [List.mem_singleton.1 hy] at hs
    exact (hd hs.symm).elim
theorem full_map {S : List By} {N : List (By × Value)} (h : NoClash (N.map (·.1))) (hS : ∀ p ∈ S, p ∈ N.map (·.1)) : FullL (pgM (mapOf N)) S := fun p hp => by
 have hm := hS p hp
 obtain ⟨x, hx, hxp⟩ := List.mem_map.1 hm
 have hh := getKV_hit (N := N) (d := sum p) ⟨x, hx, by rw [hxp]⟩
 cases hg : pgM (mapOf N) (sum p) with
 | none => unfold pgM at hg; cases hq : getKV (sum p) (mapOf N) with
  | none => rw [hq] at hh; cases hh
  | some y => rw [hq] at hg; cases hg
 | some q =>
  obtain ⟨h1, h2⟩ := pgM_mem hg
  rw [h q h1 p hm h2]
end Go.Proofs.Ytonlmjpenonabaa
