/-
  Proved here: for every input the law PagesSaves returns true, and what it was handed reads behind the call as before. No condition.
-/
import Derived.Test.YtonlmjpenonabaaRows
import Derived.Test.YtonlmjpenonabaaSaves3

namespace Go.Proofs.Ytonlmjpenonabaa
open Go Go.RowKit K SH PT
section
variable {M : By → Option By} {g : Nat} {k : UInt8} {b p : By} {n : Nat} {l : List (By × By)} {e : Nat}
theorem rdF_nil : rdF M (g + 1) [] p n l e = ([], l, failE e 15) := rfl
theorem rdF_bad (h : e ≠ 0 ∨ 256 < n) : rdF M (g + 1) (k :: b) p n l e = ([], l, failE e 15) := by rw [rdF, if_pos h]
theorem rdF_0 (h : ¬ (e ≠ 0 ∨ 256 < n)) (hk : k = 0) : rdF M (g + 1) (k :: b) p n l e = (b, l, e) := by rw [rdF, if_neg h, if_pos hk]
theorem rdF_1 (h : ¬ (e ≠ 0 ∨ 256 < n)) (hk : k = 1) : rdF M (g + 1) (k :: b) p n l e =
      ((dgF (dgF b e).2.1 (dgF b e).2.2).2.1, l ++ [((dgF b e).1, (dgF (dgF b e).2.1 (dgF b e).2.2).1)],
        if n ≤ common (dgF b e).1 p then (dgF (dgF b e).2.1 (dgF b e).2.2).2.2 else failE (dgF (dgF b e).2.1 (dgF b e).2.2).2.2 15) := by
  subst hk; rw [rdF, if_neg h, if_neg (by decide), if_pos rfl]
theorem rdF_2 (h : ¬ (e ≠ 0 ∨ 256 < n)) (hk : k = 2) : rdF M (g + 1) (k :: b) p n l e =
      rdF M g (rdF M g b (setB p n false) (n + 1) l e).1 (setB p n true) (n + 1) (rdF M g b (setB p n false) (n + 1) l e).2.1 (rdF M g b (setB p n false) (n + 1) l e).2.2 := by
  subst hk; rw [rdF, if_neg h, if_neg (by decide), if_neg (by decide), if_pos rfl]
theorem rdF_3 (h : ¬ (e ≠ 0 ∨ 256 < n)) (hk : k = 3) : rdF M (g + 1) (k :: b) p n l e = ((dgF b e).2.1, pgF M (rdF M g) (dgF b e).1 p n l (dgF b e).2.2) := by
 subst hk; rw [rdF, if_neg h, if_neg (by decide), if_neg (by decide), if_neg (by decide), if_pos rfl]
theorem rdF_x (h : ¬ (e ≠ 0 ∨ 256 < n)) (h0 : k ≠ 0) (h1 : k ≠ 1) (h2 : k ≠ 2) (h3 : k ≠ 3) : rdF M (g + 1) (k :: b) p n l e = (b, l, failE e 15) := by
 rw [rdF, if_neg h, if_neg h0, if_neg h1, if_neg h2, if_neg h3]
end
theorem rd_outL {m : Mem} {F : List Nat} {wI w : World} {rb mb : Nat} {x : List (By × By) × Nat} {lv' : Value} (A : List Ent) (st : St m m F wI w (A ++ rdL rb mb lv' x.1 x.2)) : RdOut wI w F rb mb x :=
 have st2 : St m m F wI w (rdL rb mb lv' x.1 x.2) := st.keepOnly (List.sublist_append_right _ _)
 ⟨lv', (St.finish (Es := []) (l := rdL rb mb lv' x.1 x.2) st2).1, (St.finish (Es := []) (l := rdL rb mb lv' x.1 x.2) st2).2⟩
theorem pr_at {a : By} (h : a.length = 32) : setSeg (prC2 (z32, z32)).toArray 0 (bs a) = (prC2 (a, z32)).toArray := by
 have := setSeg_mid (a := []) (b := bs z32) (c := bs z32) (l := bs a) (o := 0) rfl (by rw [length_bs, length_bs, h]; rfl)
 simpa [prC2] using this
theorem pr_val {a v : By} (ha : a.length = 32) (h : v.length = 32) : setSeg (prC2 (a, z32)).toArray 32 (bs v) = (prC2 (a, v)).toArray := by
 have := setSeg_mid (a := bs a) (b := bs z32) (c := []) (l := bs v) (o := 32) (by rw [length_bs, ha]) (by rw [length_bs, length_bs, h]; rfl)
 simpa [prC2] using this
theorem kind_ne {k : UInt8} {c : Nat} (hc : c < 256) (h : ¬ ((k.toNat : Int) = (c : Int))) : k ≠ UInt8.ofNat c := fun e => h (by
 rw [e, UInt8.toNat_ofNat', Nat.mod_eq_of_lt hc])
theorem kind_eq {k : UInt8} {c : Nat} (hc : c < 256) (h : (k.toNat : Int) = (c : Int)) : k = UInt8.ofNat c := UInt8.toNat_inj.mp (by
 rw [UInt8.toNat_ofNat', Nat.mod_eq_of_lt hc]; omega)
section
variable {m : Mem} {wI : World}
theorem c_read1 {MM : PgMap} {g : Nat} {b p : By} {n : Nat} {l : List (By × By)} {e rb mb : Nat} {lv bv : Value} (ih : RdC MM g) (him : Im m wI) (hM : PgOk m mb MM) (hE : (joinE (rdL rb mb lv l e)).holds wI) (hm : ∀ k ∈ (joinE (rdL rb mb lv l e)).foot, m k = none) (hb : SlM m bv 1 b.length (bs b)) (hbl : b.length ≤ 1000000000) (hp : p.length = 32) (hn : n ≤ 257) (hg : need n b ≤ g + 1) (hl : (rdF (pgM MM) (g + 1) b p n l e).2.1.length ≤ 1000000000) :
  Ret Try.prog 64 #[.pointer (some ⟨rb, 0, none⟩), bv, arr p, .int .i64 n] wI fun v' w' => RdOut wI w' (joinE (rdL rb mb lv l e)).foot rb mb (rdF (pgM MM) (g + 1) b p n l e).2 ∧ SlM m v' 1 (rdF (pgM MM) (g + 1) b p n l e).1.length (bs (rdF (pgM MM) (g + 1) b p n l e).1) := by
 have st := St.begin him hE hm
 have hl0 : l.length ≤ 1000000000 := Nat.le_trans rdF_grow hl
 obtain ⟨la, lc, hlv⟩ := row_sl (st.at (i := 1) rfl)
 subst hlv
 obtain ⟨ba, bc, hbv, hbc⟩ : ∃ a c, bv = .slice a b.length c ∧ b.length ≤ c := by obtain ⟨_, a, c, h, h2, _⟩ := hb; exact ⟨a, c, h, h2⟩
 subst hbv
 refine ret_of Try.call64 Try.func64 rfl Try.ntmps64 Try.results64 rfl ?_
 refine wc_seq ?_
 refine wc_region ?_
 refine wl_box (v := arr p) rfl st rfl ?_
 intro b6 w st
 refine wl_val (v_assign' (by conv => (lhs; whnf))) rfl ?_
 refine wl_nil ?_
 refine then_go ?_
 refine wc_seq ?_
 refine wc_seq ?_
 refine wc_region ?_
 refine wl_val (v_move' (by conv => (lhs; whnf))) rfl ?_
 refine wl_val (v_nil rfl) rfl ?_
 refine wl_val (v_fa TF.f84_2 rfl) rfl ?_
 refine wl_val (v_load rfl (st.reads 1 rfl TF.t41 rfl)) rfl ?_
 refine wl_val (v_neq rfl rfl) rfl ?_
 refine wl_val (v_move' (by conv => (lhs; whnf))) rfl ?_
 refine wl_valg rfl rfl (fun e => (v_move' (by conv => (lhs; whnf)))) rfl ?_
 refine wl_valg rfl rfl (fun e => (v_len_s Try.underlying37 (by first | rfl | exact gx e rfl))) rfl ?_
 refine wl_valg rfl rfl (fun e => (v_eql (by first | rfl | exact gx e rfl) (by first | rfl | exact gx e rfl))) rfl ?_
 refine wl_val (v_pickO rfl rfl rfl) rfl ?_
 refine wl_val (v_move' (by conv => (lhs; whnf))) rfl ?_
 refine wl_valg rfl rfl (fun e => (v_move' (by conv => (lhs; whnf)))) rfl ?_
 refine wl_valg rfl rfl (fun e => (v_gtr (by first | rfl | exact gx e rfl) (by first | rfl | exact gx e rfl))) rfl ?_
 refine wl_val (v_pickO rfl rfl rfl) rfl ?_
 refine wl_nil ?_
 refine then_go ?_
 refine wc_cond rfl (fun h25 => ?_) (fun h25 => ?_)
 ·refine wc_seq ?_
  refine wc_region ?_
  refine wl_val (v_move' (by conv => (lhs; whnf))) rfl ?_
  have ebad : rdF (pgM MM) (g + 1) b p n l e = ([], l, failE e 15) := by
   match b, h25 with
   | [], _ => rfl
   | k :: b, h => exact rdF_bad (by simp at h; omega)
  refine wl_call rfl (c_rfail (c := 15) st.im (st.at (i := 1) rfl) (st.none (i := 1) rfl)) rfl ?_
  rintro v27 w ⟨t27, hE27⟩
  have st := st.step 1 rfl t27 hE27
  refine wl_nil ?_
  refine then_go ?_
  refine wc_seq ?_
  refine wc_region ?_
  refine wl_val (v_assign' (by conv => (lhs; whnf))) rfl ?_
  refine wl_nil ?_
  refine then_go ?_
  refine wc_ret (then_ret ?_)
  rw [ebad]
  exact ret1 rfl ⟨rd_outL (x := (l, failE e 15)) [_] st, SlM.nil⟩
 ·refine wc_skip ?_
  refine then_go ?_
  refine wc_seq ?_
  obtain ⟨k0, b', hbb⟩ : ∃ k0 b', b = k0 :: b' := by
   cases b with
   | nil => simp at h25
   | cons k b => exact ⟨k, b, rfl⟩
  subst hbb
  have hok : ¬ (e ≠ 0 ∨ 256 < n) := by simp at h25; omega
  have e0 : e = 0 := by omega
  have hn6 : n ≤ 256 := by omega
  obtain ⟨bb, bo, _, hba, _⟩ := SlM.ptr1 hb (by simp) (by decide)
  cases hba
  have hb' := hb.subB 1 (k0 :: b').length (by simp) (Nat.le_refl _)
  rw [show ((k0 :: b').drop 1).take ((k0 :: b').length - 1) = b' by simp] at hb'
  have hbl' : b'.length ≤ 1000000000 := by simp at hbl; omega
  refine wc_region ?_
  refine wl_val (v_move' (by conv => (lhs; whnf))) rfl ?_
  refine wl_val (v_ias 0 Try.underlying37 TF.t5 rfl rfl (by first | rfl | omega) (by simp)) rfl ?_
  refine wl_val (v_load rfl (SlM.rdB TF.t5 0 hb (by simp) st.im)) rfl ?_
  refine wl_val (v_assign' (by conv => (lhs; whnf))) rfl ?_
  refine wl_nil ?_
  refine then_go ?_
  refine wc_seq ?_
  refine wc_region ?_
  refine wl_val (v_move' (by conv => (lhs; whnf))) rfl ?_
  refine wl_val (v_sls 1 (k0 :: b').length Try.underlying37 TF.t5 rfl ⟨_, _, rfl, rfl⟩ rfl (by simp) hbc) rfl ?_
  refine wl_val (v_assign' (by conv => (lhs; whnf))) rfl ?_
  refine wl_nil ?_
  refine then_go ?_
  refine wc_seq ?_
  refine wc_seq ?_
  refine wc_region ?_
  refine wl_val (v_move' (by conv => (lhs; whnf))) rfl ?_
  refine wl_nil ?_
  refine then_go ?_
  refine wc_block ?_
  refine wc_seq ?_
  refine wc_region ?_
  refine wl_val (v_eql rfl rfl) rfl ?_
  refine wl_val (v_assign' (by conv => (lhs; whnf))) rfl ?_
  refine wl_nil ?_
  refine then_go ?_
  refine wc_cond rfl (fun h36 => ?_) (fun h36 => ?_)
  ·refine wc_skip ?_
   refine block_go (then_go ?_)
   refine wc_seq ?_
   refine wc_region ?_
   refine wl_val (v_move' (by conv => (lhs; whnf))) rfl ?_
   refine wl_val (v_assign' (by conv => (lhs; whnf))) rfl ?_
   refine wl_nil ?_
   refine then_go ?_
   refine wc_ret ?_
   rw [rdF_0 hok (kind_eq (c := 0) (by decide) (by simpa using h36))]
   exact ret1 rfl ⟨rd_outL (x := (l, e)) [_] st, hb'⟩
  ·refine wc_seq ?_
   refine wc_region ?_
   refine wl_val (v_eql rfl rfl) rfl ?_
   refine wl_val (v_assign' (by conv => (lhs; whnf))) rfl ?_
   refine wl_nil ?_
   refine then_go ?_
   refine wc_cond rfl (fun h38 => ?_) (fun h38 => ?_)
   ·refine wc_seq ?_
    have hk1 : k0 = 1 := kind_eq (c := 1) (by decide) (by simpa using h38)
    have e1 := rdF_1 (M := pgM MM) (g := g) (b := b') (p := p) (l := l) hok hk1
    rw [e1] at hl ⊢
    have q1 := dgF_len (b := b') (e := e)
    have q2 := dgF_len (b := (dgF b' e).2.1) (e := (dgF b' e).2.2)
    have qr := dgF_rest (b := b') (e := e)
    refine wc_region ?_
    refine wl_alloc TF.z72 st rfl ?_
    intro b10 w st
    refine wl_nil ?_
    refine then_go ?_
    refine wc_seq ?_
    refine wc_region ?_
    refine wl_val (v_move' (by conv => (lhs; whnf))) rfl ?_
    refine wl_val (v_move' (by conv => (lhs; whnf))) rfl ?_
    refine wl_call rfl (c_rdig st.im (st.at (i := 2) rfl) (st.none (i := 2) rfl) hb' hbl') rfl ?_
    rintro v43 w ⟨t43, hE43, v2, rfl, hs2⟩
    have st := st.step 2 rfl t43 hE43
    refine wl_val (v_move' (by conv => (lhs; whnf))) rfl ?_
    refine wl_val (v_extract rfl rfl) rfl ?_
    refine wl_val (v_extract rfl rfl) rfl ?_
    refine wl_val (v_fa TF.f72_0 rfl) rfl ?_
    refine wl_store (v := arr (dgF b' e).1) 0 st rfl TF.t28 rfl rfl (by rw [size_arr, q1]) (one_bs _) (by decide) ?_
    intro w st
    change St _ _ _ _ _ [K.blk b10 (setSeg (prC2 (z32, z32)).toArray 0 (bs (dgF b' e).1)) _, _, _, _] at st
    rw [pr_at q1] at st
    refine wl_val (v_assign' (by conv => (lhs; whnf))) rfl ?_
    refine wl_nil ?_
    refine then_go ?_
    refine wc_seq ?_
    refine wc_region ?_
    refine wl_val (v_move' (by conv => (lhs; whnf))) rfl ?_
    refine wl_val (v_move' (by conv => (lhs; whnf))) rfl ?_
    refine wl_call rfl (c_rdig st.im (st.at (i := 2) rfl) (st.none (i := 2) rfl) hs2 (by omega)) rfl ?_
    rintro v50 w ⟨t50, hE50, v3, rfl, hs3⟩
    have st := st.step 2 rfl t50 hE50
    refine wl_val (v_move' (by conv => (lhs; whnf))) rfl ?_
    refine wl_val (v_extract rfl rfl) rfl ?_
    refine wl_val (v_extract rfl rfl) rfl ?_
    refine wl_val (v_fa TF.f72_1 rfl) rfl ?_
    refine wl_store (v := arr (dgF (dgF b' e).2.1 (dgF b' e).2.2).1) 0 st rfl TF.t28 rfl rfl (by rw [size_arr, q2]) (one_bs _) (by simp [prC2, length_bs, q1]; decide) ?_
    intro w st
    change St _ _ _ _ _ [K.blk b10 (setSeg (prC2 ((dgF b' e).1, z32)).toArray 32 (bs (dgF (dgF b' e).2.1 (dgF b' e).2.2).1)) _, _, _, _] at st
    rw [pr_val q1 q2] at st
    refine wl_val (v_assign' (by conv => (lhs; whnf))) rfl ?_
    refine wl_nil ?_
    refine then_go ?_
    refine wc_seq ?_
    refine wc_seq ?_
    refine wc_region ?_
    refine wl_val (v_fa TF.f72_0 rfl) rfl ?_
    refine wl_val (v_load rfl (st.reads (v := arr (dgF b' e).1) 0 rfl TF.t28 (prC2_a (x := ((dgF b' e).1, _)) q1))) rfl ?_
    refine wl_val (v_load rfl (st.reads (v := arr p) 1 rfl TF.t28 (getV_all (by rw [size_arr]; exact hp)))) rfl ?_
    refine wl_val (v_move' (by conv => (lhs; whnf))) rfl ?_
    refine wl_call rfl (c_pathunder st.im q1 hp) rfl ?_
    rintro v58 w ⟨t58, rfl⟩
    have st := st.pure t58
    refine wl_val (v_not rfl) rfl ?_
    refine wl_nil ?_
    refine then_go ?_
    refine wc_cond rfl (fun h59 => ?_) (fun h59 => ?_)
    ·refine wc_region ?_
     refine wl_val (v_move' (by conv => (lhs; whnf))) rfl ?_
     have hun : ¬ n ≤ common (dgF b' e).1 p := by simpa using h59
     rw [if_neg hun]
     refine wl_call rfl (c_rfail (c := 15) st.im (st.at (i := 2) rfl) (st.none (i := 2) rfl)) rfl ?_
     rintro v61 w ⟨t61, hE61⟩
     have st := st.step 2 rfl t61 hE61
     refine wl_nil ?_
     refine then_go ?_
     refine wc_draw TF.mixed ?_
     have st := st.pure (touch_drew _)
     refine fl_val 0 rfl (fun _ => (v_move' (by conv => (lhs; whnf)))) rfl (by kernel_rfl) ?_
     refine fl_val 1 rfl (fun _ => (v_move' (by conv => (lhs; whnf)))) rfl (by kernel_rfl) ?_
     refine fl_val 2 rfl (fun _ => (v_nil rfl)) rfl (by kernel_rfl) ?_
     refine fl_val 3 rfl (fun _ => (v_fa TF.f84_1 rfl)) rfl (by kernel_rfl) ?_
     refine fl_ld 4 rfl (v_load rfl (by first | exact st.reads 2 rfl TF.t67 rfl | exact st.reads 3 rfl TF.t67 rfl)) (by kernel_rfl) ?_
     refine fl_ld 5 rfl (v_load rfl (st.reads (v := .agg (prC2 ((dgF b' e).1, (dgF (dgF b' e).2.1 (dgF b' e).2.2).1)).toArray) 0 rfl TF.t72 (getV_all (by simp [prC2, length_bs, q1, q2])))) (by kernel_rfl) ?_
     refine fl_eff1 6 [3, 2, 1, 0] [4] (by kernel_rfl) ⟨obl_ld rfl rfl rfl (v_load rfl (st.reads (v := .agg (prC2 ((dgF b' e).1, (dgF (dgF b' e).2.1 (dgF b' e).2.2).1)).toArray) 0 rfl TF.t72 (getV_all (by simp [prC2, length_bs, q1, q2])))), obl_ld rfl rfl rfl (v_load rfl (by first | exact st.reads 2 rfl TF.t67 rfl | exact st.reads 3 rfl TF.t67 rfl)), trivial⟩ rfl ?_
     refine wl_lsOne (prC2 ((dgF b' e).1, (dgF (dgF b' e).2.1 (dgF b' e).2.2).1)) Try.underlying67 TF.t72 TF.z72 (by decide) (by decide) (len_prC2 q1 q2) rfl st rfl ?_
     intro b68 w st
     refine wl_nil ⟨rfl, ?_⟩
     refine fl_eff1 7 [3, 2, 1, 0] [] (by kernel_rfl) ⟨obl_ld rfl rfl rfl (v_load rfl (by first | exact st.reads 2 rfl TF.t67 rfl | exact st.reads 3 rfl TF.t67 rfl)), trivial⟩ rfl ?_
     refine wl_lsApp 3 (c := prC2) (e := ((dgF b' e).1, (dgF (dgF b' e).2.1 (dgF b' e).2.2).1)) st rfl Try.underlying67 TF.t72 TF.z72 rfl (len_prC2 q1 q2) one_prC2 rfl rfl (by omega) (by omega) rfl ?_
     intro lv2 w st hlv2
     refine wl_nil ⟨rfl, ?_⟩
     refine fl_val 8 rfl (fun _ => (v_nil rfl)) rfl (by kernel_rfl) ?_
     refine fl_val 9 rfl (fun _ => (v_fa TF.f84_1 rfl)) rfl (by kernel_rfl) ?_
     refine fl_eff1 10 [8] [] (by kernel_rfl) trivial rfl ?_
     refine wl_store1 2 st rfl TF.t67 rfl rfl hlv2 (lt_ok rfl) ?_
     intro w st
     refine wl_nil ⟨rfl, ?_⟩
     refine fl_nil (by kernel_rfl) trivial ?_
     refine block_go (then_go ?_)
     refine wc_seq ?_
     refine wc_region ?_
     refine wl_val (v_move' (by conv => (lhs; whnf))) rfl ?_
     refine wl_val (v_assign' (by conv => (lhs; whnf))) rfl ?_
     refine wl_nil ?_
     refine then_go ?_
     refine wc_ret ?_
     exact ret1 rfl ⟨rd_outL (x := (_, _)) [_, _] st, hs3⟩
    ·refine wc_skip ?_
     refine then_go ?_
     refine wc_draw TF.mixed ?_
     have st := st.pure (touch_drew _)
     refine fl_val 0 rfl (fun _ => (v_move' (by conv => (lhs; whnf)))) rfl (by kernel_rfl) ?_
     refine fl_val 1 rfl (fun _ => (v_move' (by conv => (lhs; whnf)))) rfl (by kernel_rfl) ?_
     refine fl_val 2 rfl (fun _ => (v_nil rfl)) rfl (by kernel_rfl) ?_
     refine fl_val 3 rfl (fun _ => (v_fa TF.f84_1 rfl)) rfl (by kernel_rfl) ?_
     refine fl_ld 4 rfl (v_load rfl (by first | exact st.reads 2 rfl TF.t67 rfl | exact st.reads 3 rfl TF.t67 rfl)) (by kernel_rfl) ?_
     refine fl_ld 5 rfl (v_load rfl (st.reads (v := .agg (prC2 ((dgF b' e).1, (dgF (dgF b' e).2.1 (dgF b' e).2.2).1)).toArray) 0 rfl TF.t72 (getV_all (by simp [prC2, length_bs, q1, q2])))) (by kernel_rfl) ?_
     refine fl_eff1 6 [3, 2, 1, 0] [4] (by kernel_rfl) ⟨obl_ld rfl rfl rfl (v_load rfl (st.reads (v := .agg (prC2 ((dgF b' e).1, (dgF (dgF b' e).2.1 (dgF b' e).2.2).1)).toArray) 0 rfl TF.t72 (getV_all (by simp [prC2, length_bs, q1, q2])))), obl_ld rfl rfl rfl (v_load rfl (by first | exact st.reads 2 rfl TF.t67 rfl | exact st.reads 3 rfl TF.t67 rfl)), trivial⟩ rfl ?_
     refine wl_lsOne (prC2 ((dgF b' e).1, (dgF (dgF b' e).2.1 (dgF b' e).2.2).1)) Try.underlying67 TF.t72 TF.z72 (by decide) (by decide) (len_prC2 q1 q2) rfl st rfl ?_
     intro b68 w st
     refine wl_nil ⟨rfl, ?_⟩
     refine fl_eff1 7 [3, 2, 1, 0] [] (by kernel_rfl) ⟨obl_ld rfl rfl rfl (v_load rfl (by first | exact st.reads 2 rfl TF.t67 rfl | exact st.reads 3 rfl TF.t67 rfl)), trivial⟩ rfl ?_
     refine wl_lsApp 3 (c := prC2) (e := ((dgF b' e).1, (dgF (dgF b' e).2.1 (dgF b' e).2.2).1)) st rfl Try.underlying67 TF.t72 TF.z72 rfl (len_prC2 q1 q2) one_prC2 rfl rfl (by omega) (by omega) rfl ?_
     intro lv2 w st hlv2
     refine wl_nil ⟨rfl, ?_⟩
     refine fl_val 8 rfl (fun _ => (v_nil rfl)) rfl (by kernel_rfl) ?_
     refine fl_val 9 rfl (fun _ => (v_fa TF.f84_1 rfl)) rfl (by kernel_rfl) ?_
     refine fl_eff1 10 [8] [] (by kernel_rfl) trivial rfl ?_
     refine wl_store1 2 st rfl TF.t67 rfl rfl hlv2 (lt_ok rfl) ?_
     intro w st
     refine wl_nil ⟨rfl, ?_⟩
     refine fl_nil (by kernel_rfl) trivial ?_
     refine block_go (then_go ?_)
     refine wc_seq ?_
     refine wc_region ?_
     refine wl_val (v_move' (by conv => (lhs; whnf))) rfl ?_
     refine wl_val (v_assign' (by conv => (lhs; whnf))) rfl ?_
     refine wl_nil ?_
     refine then_go ?_
     refine wc_ret ?_
     have hun : n ≤ common (dgF b' e).1 p := by simpa using h59
     rw [if_pos hun]
     exact ret1 rfl ⟨rd_outL (x := (_, _)) [_, _] st, hs3⟩
   ·refine wc_seq ?_
    refine wc_region ?_
    refine wl_val (v_eql rfl rfl) rfl ?_
    refine wl_val (v_assign' (by conv => (lhs; whnf))) rfl ?_
    refine wl_nil ?_
    refine then_go ?_
    refine wc_cond rfl (fun h72 => ?_) (fun h72 => ?_)
    ·refine wc_seq ?_
     have hk2 : k0 = 2 := kind_eq (c := 2) (by decide) (by simpa using h72)
     have e2 := rdF_2 (M := pgM MM) (g := g) (b := b') (p := p) (l := l) hok hk2
     rw [e2] at hl ⊢
     have hl1 : (rdF (pgM MM) g b' (setB p n false) (n + 1) l e).2.1.length ≤ 1000000000 := Nat.le_trans rdF_grow hl
     have hr1 := rdF_rest (M := pgM MM) (g := g) (b := b') (p := setB p n false) (n := n + 1) (l := l) (e := e)
     have hnd : ∀ c : By, need (n + 1) c ≤ g := fun c => by
      unfold need at hg ⊢
      split at hg <;> split <;> omega
     refine wc_region ?_
     refine wl_val (v_move' (by conv => (lhs; whnf))) rfl ?_
     refine wl_val (v_move' (by conv => (lhs; whnf))) rfl ?_
     refine wl_val (v_load rfl (st.reads (v := arr p) 0 rfl TF.t28 (getV_all (by rw [size_arr]; exact hp)))) rfl ?_
     refine wl_val (v_move' (by conv => (lhs; whnf))) rfl ?_
     refine wl_call rfl (c_set st.im hp (by omega)) rfl ?_
     rintro v78 w ⟨t78, rfl⟩
     have st := st.pure t78
     refine wl_val (v_move' (by conv => (lhs; whnf))) rfl ?_
     refine wl_val (v_add' (c := ((n + 1 : Nat) : Int)) rfl rfl (by omega) (by omega) (by omega)) rfl ?_
     have st := K.St.joinLast (pre := [_]) (l := rdL rb mb (.slice la l.length lc) l e) st
     refine wl_call rfl (ih st.im hM (st.at (i := 1) rfl) (st.none (i := 1) rfl) hb' hbl' (len_setB.trans hp) (by omega) (hnd _) hl1) rfl ?_
     rintro v81 w ⟨⟨lv1, t81, hE81⟩, hs81⟩
     have st := st.step 1 rfl t81 hE81
     refine wl_val (v_assign' (by conv => (lhs; whnf))) rfl ?_
     refine wl_nil ?_
     refine then_go ?_
     refine wc_region ?_
     refine wl_val (v_move' (by conv => (lhs; whnf))) rfl ?_
     refine wl_val (v_move' (by conv => (lhs; whnf))) rfl ?_
     refine wl_val (v_load rfl (st.reads (v := arr p) 0 rfl TF.t28 (getV_all (by rw [size_arr]; exact hp)))) rfl ?_
     refine wl_val (v_move' (by conv => (lhs; whnf))) rfl ?_
     refine wl_call rfl (c_set st.im hp (by omega)) rfl ?_
     rintro v86 w ⟨t86, rfl⟩
     have st := st.pure t86
     refine wl_val (v_move' (by conv => (lhs; whnf))) rfl ?_
     refine wl_val (v_add' (c := ((n + 1 : Nat) : Int)) rfl rfl (by omega) (by omega) (by omega)) rfl ?_
     refine wl_call rfl (ih st.im hM (st.at (i := 1) rfl) (st.none (i := 1) rfl) hs81 (by omega) (len_setB.trans hp) (by omega) (hnd _) hl) rfl ?_
     rintro v89 w ⟨⟨lv2, t89, hE89⟩, hs89⟩
     have st := st.step 1 rfl t89 hE89
     have st := K.St.splitLast (pre := [_]) (l := rdL rb mb lv2 _ _) st
     refine wl_val (v_assign' (by conv => (lhs; whnf))) rfl ?_
     refine wl_nil ?_
     refine block_go (then_go ?_)
     refine wc_seq ?_
     refine wc_region ?_
     refine wl_val (v_move' (by conv => (lhs; whnf))) rfl ?_
     refine wl_val (v_assign' (by conv => (lhs; whnf))) rfl ?_
     refine wl_nil ?_
     refine then_go ?_
     refine wc_ret ?_
     exact ret1 rfl ⟨rd_outL [_] st, hs89⟩
    ·refine wc_seq ?_
     refine wc_region ?_
     refine wl_val (v_eql rfl rfl) rfl ?_
     refine wl_val (v_assign' (by conv => (lhs; whnf))) rfl ?_
     refine wl_nil ?_
     refine then_go ?_
     refine wc_cond rfl (fun h90 => ?_) (fun h90 => ?_)
     ·refine wc_seq ?_
      have hk3 : k0 = 3 := kind_eq (c := 3) (by decide) (by simpa using h90)
      have e3 := rdF_3 (M := pgM MM) (g := g) (b := b') (p := p) (l := l) hok hk3
      rw [e3] at hl ⊢
      have q1 := dgF_len (b := b') (e := e)
      refine wc_region ?_
      refine wl_alloc TF.z28 st rfl ?_
      intro b11 w st
      refine wl_nil ?_
      refine then_go ?_
      refine wc_seq ?_
      refine wc_region ?_
      refine wl_val (v_move' (by conv => (lhs; whnf))) rfl ?_
      refine wl_val (v_move' (by conv => (lhs; whnf))) rfl ?_
      refine wl_call rfl (c_rdig st.im (st.at (i := 2) rfl) (st.none (i := 2) rfl) hb' hbl') rfl ?_
      rintro v95 w ⟨t95, hE95, v2, rfl, hs2⟩
      have st := st.step 2 rfl t95 hE95
      refine wl_val (v_move' (by conv => (lhs; whnf))) rfl ?_
      refine wl_val (v_extract rfl rfl) rfl ?_
      refine wl_val (v_extract rfl rfl) rfl ?_
      refine wl_storeW 0 st rfl TF.t28 rfl rfl (by rw [List.size_toArray, length_bs]; exact q1) rfl (one_bs _) ?_
      intro w st
      refine wl_val (v_assign' (by conv => (lhs; whnf))) rfl ?_
      refine wl_nil ?_
      refine then_go ?_
      refine wc_region ?_
      refine wl_val (v_move' (by conv => (lhs; whnf))) rfl ?_
      refine wl_val (v_load rfl (st.reads (v := arr (dgF b' e).1) 0 rfl TF.t28 (getV_all (by rw [List.size_toArray, length_bs]; exact q1)))) rfl ?_
      refine wl_val (v_load rfl (st.reads (v := arr p) 1 rfl TF.t28 (getV_all (by rw [size_arr]; exact hp)))) rfl ?_
      refine wl_val (v_move' (by conv => (lhs; whnf))) rfl ?_
      have st := K.St.joinLast (pre := [_, _]) (l := rdL rb mb (.slice la l.length lc) l (dgF b' e).2.2) st
      refine wl_call rfl (c_rpage ih st.im hM (st.at (i := 2) rfl) (st.none (i := 2) rfl) q1 hp hn (by unfold need at hg; rw [hk3] at hg; simp at hg; omega) hl) rfl ?_
      rintro v102 w ⟨lv1, t102, hE102⟩
      have st := st.step 2 rfl t102 hE102
      have st := K.St.splitLast (pre := [_, _]) (l := rdL rb mb lv1 _ _) st
      refine wl_nil ?_
      refine block_go (then_go ?_)
      refine wc_seq ?_
      refine wc_region ?_
      refine wl_val (v_move' (by conv => (lhs; whnf))) rfl ?_
      refine wl_val (v_assign' (by conv => (lhs; whnf))) rfl ?_
      refine wl_nil ?_
      refine then_go ?_
      refine wc_ret ?_
      exact ret1 rfl ⟨rd_outL [_, _] st, hs2⟩
     ·refine wc_region ?_
      refine wl_val (v_move' (by conv => (lhs; whnf))) rfl ?_
      refine wl_call rfl (c_rfail (c := 15) st.im (st.at (i := 1) rfl) (st.none (i := 1) rfl)) rfl ?_
      rintro v35 w ⟨t35, hE35⟩
      have st := st.step 1 rfl t35 hE35
      refine wl_nil ?_
      refine block_go (then_go ?_)
      refine wc_seq ?_
      refine wc_region ?_
      refine wl_val (v_move' (by conv => (lhs; whnf))) rfl ?_
      refine wl_val (v_assign' (by conv => (lhs; whnf))) rfl ?_
      refine wl_nil ?_
      refine then_go ?_
      refine wc_ret ?_
      rw [rdF_x hok (kind_ne (c := 0) (by decide) (by simpa using h36)) (kind_ne (c := 1) (by decide) (by simpa using h38)) (kind_ne (c := 2) (by decide) (by simpa using h72)) (kind_ne (c := 3) (by decide) (by simpa using h90))]
      exact ret1 rfl ⟨rd_outL (x := (l, failE e 15)) [_] st, hb'⟩
theorem c_read {MM : PgMap} : ∀ {g : Nat}, RdC MM g := by
 intro g
 induction g with
 | zero =>
  intro b p n l e rb mb lv bv m w _ _ _ _ _ _ _ _ hg _
  exfalso
  unfold need at hg
  omega
 | succ g ih =>
  intro b p n l e rb mb lv bv m w him hM hE hm hb hbl hp hn hg hl
  exact c_read1 ih him hM hE hm hb hbl hp hn hg hl
end
end Go.Proofs.Ytonlmjpenonabaa

namespace Go.Proofs.Ytonlmjpenonabaa
open Go Go.RowKit K SH PT
def mapOf (N : List (By × Value)) : PgMap := N.foldl (fun M x => insKV (sum x.1) x M) []
theorem mapOf_snoc {N : List (By × Value)} {x : By × Value} : mapOf (N ++ [x]) = insKV (sum x.1) x (mapOf N) := by simp [mapOf]
theorem mapOf_mem : ∀ {N : List (By × Value)} {y : By × (By × Value)}, y ∈ mapOf N → y.1 = sum y.2.1 ∧ y.2 ∈ N := by
 intro N
 induction h : N.length generalizing N with
 | zero => intro y hy; have := List.eq_nil_of_length_eq_zero h; subst this; cases hy
 | succ k ih =>
  intro y hy
  have hne : N ≠ [] := by intro e; subst e; simp at h
  rw [← List.dropLast_concat_getLast hne, mapOf_snoc] at hy
  rcases mem_insKV hy with e | hy
  ·subst e
   exact ⟨rfl, List.getLast_mem hne⟩
  ·have := ih (N := N.dropLast) (by simp [h]) hy
   exact ⟨this.1, (List.dropLast_sublist N).subset this.2⟩
theorem mapOf_keys {N : List (By × Value)} : ∀ x ∈ mapOf N, x.1.length = 32 := fun x hx => by rw [(mapOf_mem hx).1, length_sum]
theorem pgF_d32 {M : By → Option By} {rd : By → By → Nat → List (By × By) → Nat → By × List (By × By) × Nat} {d p : By} {n : Nat} {l : List (By × By)} {e : Nat} (hl : D32p l) (h : ∀ b p n e, D32p (rd b p n l e).2.1) : D32p (pgF M rd d p n l e).1 := by
 unfold pgF
 split
 ·exact hl
 ·split
  ·exact hl
  ·split
   ·exact hl
   ·split <;> exact h _ _ _ _
theorem rdF_d32 {M : By → Option By} : ∀ {g : Nat} {b p : By} {n : Nat} {l : List (By × By)} {e : Nat}, D32p l → D32p (rdF M g b p n l e).2.1
 | 0, _, _, _, _, _, h => h
 | _ + 1, [], _, _, _, _, h => h
 | g + 1, k :: b, p, n, l, e, h => by
  unfold rdF
  split
  ·exact h
  ·split
   ·exact h
   ·split
    ·intro x hx
     rcases List.mem_append.1 hx with hx | hx
     ·exact h x hx
     ·rw [List.mem_singleton.1 hx]
      exact ⟨dgF_len, dgF_len⟩
    ·split
     ·exact rdF_d32 (g := g) (rdF_d32 (g := g) h)
     ·split
      ·exact pgF_d32 h fun _ _ _ _ => rdF_d32 (g := g) h
      ·exact h
def ldF (M : By → Option By) (d : By) : List (By × By) × Nat := pgF M (rdF M 515) d z32 0 [] 0
theorem ldF_d32 {M : By → Option By} {d : By} : D32p (ldF M d).1 := pgF_d32 (by intro x hx; cases hx) fun _ _ _ _ => rdF_d32 (by intro x hx; cases hx)
def LdOut (m : Mem) (v : Value) (M : By → Option By) (d : By) : Prop :=
 if (ldF M d).2 ≠ 0 then v = .tuple #[.pointer none, .int .i64 (ldF M d).2] else
 if sum (pg1 256 0 (ofLv (ldF M d).1)) = d then ∃ p, v = .tuple #[ptrP p, .int .i64 0] ∧ TreeM m p (treeOf (ofLv (ldF M d).1)) else v = .tuple #[.pointer none, .int .i64 15]
theorem ofLv_fine {Z : List (By × By)} (h : D32p Z) : Dst 0 (ofLv Z) ∧ Up (ofLv Z) ∧ D32p (ofLv Z) := ⟨(ofLv_dst fun x hx => (h x hx).1).1, up_ofLv h, ofLv_d32 h⟩
section
variable {m : Mem} {wI : World}
theorem c_load {d : By} {lv : Value} {N : List (By × Value)} (him : Im m wI) (hd : d.length = 32) (hN : PcsM m lv N) (hNl : ∀ x ∈ N, x.1.length ≤ 1000000000) (hNn : N.length ≤ 1000000000) (hl : (ldF (pgM (mapOf N)) d).1.length ≤ 100000) :
  Ret Try.prog 20 #[arr d, lv] wI fun v' w' => Out m wI w' fun m' => LdOut m' v' (pgM (mapOf N)) d := by
 have st := St.start him
 have hXd := ldF_d32 (M := pgM (mapOf N)) (d := d)
 unfold LdOut
 obtain ⟨X, hX⟩ : ∃ X, X = ldF (pgM (mapOf N)) d := ⟨_, rfl⟩
 have hX' : pgF (pgM (mapOf N)) (rdF (pgM (mapOf N)) 515) d z32 0 [] 0 = X := hX.symm
 rw [← hX] at hl hXd
 rw [← hX]
 obtain ⟨na, nc, hlv⟩ : ∃ a c, lv = .slice a N.length c := by obtain ⟨⟨_, a, c, h, _⟩, _⟩ := hN; exact ⟨a, c, h⟩
 subst hlv
 refine ret_of Try.call20 Try.func20 rfl Try.ntmps20 Try.results20 rfl ?_
 refine wc_seq ?_
 refine wc_region ?_
 refine wl_box (v := arr d) rfl st rfl ?_
 intro b2 w st
 refine wl_val (v_assign' (by conv => (lhs; whnf))) rfl ?_
 refine wl_val (v_assign' (by conv => (lhs; whnf))) rfl ?_
 refine wl_nil ?_
 refine then_go ?_
 refine wc_seq ?_
 refine wc_region ?_
 refine wl_makeMap arr (fun x : By × Value => x.2) st rfl ?_
 intro b14 w hb14 st
 refine wl_val (v_build (c' := #[.map (some b14), .slice none 0 0, .int .i64 0]) [(0, .map (some b14))] TF.z84 TF.p84 rfl ⟨0, 1, rfl, rfl, by decide, rfl⟩) rfl ?_
 refine wl_box (v := .agg #[.map (some b14), .slice none 0 0, .int .i64 0]) rfl st rfl ?_
 intro b16 w st
 refine wl_val (v_assign' (by conv => (lhs; whnf))) rfl ?_
 refine wl_nil ?_
 refine then_go ?_
 refine wc_seq ?_
 refine wc_seq ?_
 refine wc_region ?_
 refine wl_val (v_move' (by conv => (lhs; whnf))) rfl ?_
 refine wl_val (v_len_s Try.underlying29 rfl) rfl ?_
 refine wl_val (v_move' (by conv => (lhs; whnf))) rfl ?_
 refine wl_nil ?_
 refine then_go ?_
 refine wc_block ?_
 refine wc_loop (S := Nat) (fun q r w' => ∃ (i : Nat), q + i = N.length ∧ r 2 = .pointer (some ⟨b2, 0, none⟩) ∧ r 6 = .pointer (some ⟨b16, 0, none⟩) ∧ r 17 = .slice na N.length nc ∧ r 18 = .int .i64 N.length ∧ r 19 = .int .i64 i ∧ St m m [] wI w' [rdB b16 b14 (.slice none 0 0) 0, mapE arr (fun x : By × Value => x.2) b14 (mapOf (N.take i)), K.blk b2 (bs d).toArray 28]) id N.length ⟨0, by omega, rfl, rfl, rfl, rfl, rfl, st⟩ ?_
 clear st
 rintro q r w2 ⟨i, hqi, g2, g6, g17, g18, g19, st⟩
 refine wc_o 2 g2 (wc_o 6 g6 (wc_o 17 g17 (wc_o 18 g18 (wc_o 19 g19 ?_))))
 refine wc_seq ?_
 refine wc_region ?_
 refine wl_val (v_lss rfl rfl) rfl ?_
 refine wl_nil ?_
 refine then_go ?_
 refine wc_seq ?_
 refine wc_if rfl (fun h20 => ?_) (fun h20 => ?_)
 ·refine wc_skip ?_
  refine then_go ?_
  refine wc_seq ?_
  refine wc_block ?_
  refine wc_seq ?_
  have hi : i < N.length := by omega
  obtain ⟨nb, no, _, hnv, hs0, hrd⟩ := hN.elem hi
  cases hnv
  have hsl := hNl _ (List.getElem_mem hi)
  refine wc_region ?_
  refine wl_val (v_ias i Try.underlying29 TF.t37 rfl rfl (by first | rfl | omega) (by first | omega | (dsimp only at *; omega))) rfl ?_
  refine wl_val (v_load rfl (hrd st.im)) rfl ?_
  refine wl_val (v_assign' (by conv => (lhs; whnf))) rfl ?_
  refine wl_nil ?_
  refine then_go ?_
  refine wc_draw TF.mixed ?_
  have st := st.pure (touch_drew _)
  refine fl_val 0 rfl (fun _ => (v_move' (by conv => (lhs; whnf)))) rfl (by kernel_rfl) ?_
  refine fl_val 1 rfl (fun _ => (v_nil rfl)) rfl (by kernel_rfl) ?_
  refine fl_val 2 rfl (fun _ => (v_fa TF.f84_0 rfl)) rfl (by kernel_rfl) ?_
  refine fl_ld 3 rfl (v_load rfl (st.reads 0 rfl TF.t82 rfl)) (by kernel_rfl) ?_
  refine fl_val 4 rfl (fun _ => (v_move' (by conv => (lhs; whnf)))) rfl (by kernel_rfl) ?_
  refine fl_val 6 rfl (fun _ => (v_move' (by conv => (lhs; whnf)))) rfl (by kernel_rfl) ?_
  refine fl_eff1 5 [6, 2, 1, 0] [3] (by kernel_rfl) ⟨obl_ld rfl rfl rfl (v_load rfl (st.reads 0 rfl TF.t82 rfl)), trivial⟩ rfl ?_
  refine wl_call rfl (c_tagsof st.im hs0 (by omega)) rfl ?_
  rintro v28 w ⟨t28, rfl⟩
  have st := st.pure t28
  refine wl_nil ⟨rfl, ?_⟩
  refine fl_eff1 7 [] [] (by kernel_rfl) ⟨obl_ld rfl rfl rfl (v_load rfl (st.reads 0 rfl TF.t82 rfl)), trivial⟩ rfl ?_
  refine wl_mapPut (v := N[i]) 1 st rfl dig_keyT Try.underlying82 mapOf_keys (length_sum _) rfl rfl rfl ?_
  intro w st
  refine wl_nil ⟨rfl, ?_⟩
  refine fl_nil (by kernel_rfl) trivial ?_
  refine block_go (then_go ?_)
  refine wc_region ?_
  refine wl_val (v_add' (c := ((i + 1 : Nat) : Int)) rfl rfl (by omega) (by omega) (by omega)) rfl ?_
  refine wl_val (v_move' (by conv => (lhs; whnf))) rfl ?_
  refine wl_nil ?_
  refine then_go ?_
  refine ⟨q - 1, by simp; omega, i + 1, by omega, rfl, rfl, rfl, rfl, rfl, ?_⟩
  rw [List.take_succ_eq_append_getElem hi, mapOf_snoc]
  exact st
 ·refine wc_exit (then_exit (then_exit (block_hit ?_)))
  refine then_go ?_
  refine wc_seq ?_
  have hiN : i = N.length := by omega
  subst hiN
  rw [List.take_length] at st
  obtain ⟨m1, hg1, hmap, st⟩ := st.freezeMap (i := 1) rfl (by simp)
  have hN := hN.mono hg1.le
  have hM : PgOk m1 b14 (mapOf N) := ⟨hmap, mapOf_keys, fun x hx => ⟨hN.2 _ (mapOf_mem hx).2, hNl _ (mapOf_mem hx).2⟩⟩
  have st : St m m1 [] wI w2 [rdB b16 b14 (.slice none 0 0) 0, K.blk b2 (bs d).toArray 28] := st
  have st := nilRow st 72 64
  have st : St m m1 [] wI w2 [rdB b16 b14 (.slice none 0 0) 0, lsE 72 64 prC2 (.slice none 0 0) [], K.blk b2 (bs d).toArray 28] := st.perm (List.Perm.swap _ _ _)
  have st := K.St.join (l := rdL b16 b14 (.slice none 0 0) [] 0) st
  refine wc_region ?_
  refine wl_val (v_move' (by conv => (lhs; whnf))) rfl ?_
  refine wl_val (v_load rfl (st.reads (v := arr d) 1 rfl TF.t28 (getV_all (by rw [List.size_toArray, length_bs]; exact hd)))) rfl ?_
  refine wl_val (v_build_a (c' := (bs z32).toArray) [] TF.z28 Try.underlying28 TF.t5 rfl rfl) rfl ?_
  refine wl_call rfl (c_rpage (g := 515) (n := 0) (p := z32) c_read st.im hM (st.at (i := 0) rfl) (st.none (i := 0) rfl) hd rfl (by omega) (by decide) (by rw [hX']; omega)) rfl ?_
  rintro v34 w ⟨lv1, t34, hE34⟩
  have st := st.step 0 rfl t34 hE34
  rw [hX'] at st
  have st := K.St.split (l := rdL b16 b14 lv1 X.1 X.2) st
  obtain ⟨m2, hg2, hls, st⟩ := st.keepLs (i := 1) rfl (fun x hx => len_prC2 (hXd x hx).1 (hXd x hx).2)
  have st : St m m2 [] wI w [rdB b16 b14 lv1 X.2, K.blk b2 (bs d).toArray 28] := st
  obtain ⟨xa, xc, hxv⟩ := hls.sl
  subst hxv
  refine wl_nil ?_
  refine then_go ?_
  refine wc_seq ?_
  refine wc_seq ?_
  refine wc_region ?_
  refine wl_val (v_move' (by conv => (lhs; whnf))) rfl ?_
  refine wl_val (v_nil rfl) rfl ?_
  refine wl_val (v_fa TF.f84_2 rfl) rfl ?_
  refine wl_val (v_load rfl (st.reads 0 rfl TF.t41 rfl)) rfl ?_
  refine wl_val (v_neq rfl rfl) rfl ?_
  refine wl_nil ?_
  refine then_go ?_
  refine wc_cond rfl (fun h39 => ?_) (fun h39 => ?_)
  ·refine wc_seq ?_
   refine wc_draw TF.mixed ?_
   have st := st.pure (touch_drew _)
   refine fl_val 0 rfl (fun _ => (v_move' (by conv => (lhs; whnf)))) rfl (by kernel_rfl) ?_
   refine fl_val 1 rfl (fun _ => (v_nil rfl)) rfl (by kernel_rfl) ?_
   refine fl_val 2 rfl (fun _ => (v_fa TF.f84_2 rfl)) rfl (by kernel_rfl) ?_
   refine fl_ld 3 rfl (v_load rfl (st.reads 0 rfl TF.t41 rfl)) (by kernel_rfl) ?_
   refine fl_eff1 4 [2, 1, 0] [3] (by kernel_rfl) ⟨obl_ld rfl rfl rfl (v_load rfl (st.reads 0 rfl TF.t41 rfl)), trivial⟩ rfl ?_
   refine wl_val (v_assign' (by conv => (lhs; whnf))) rfl ?_
   refine wl_nil ⟨rfl, ?_⟩
   refine fl_eff1 5 [] [] (by kernel_rfl) ⟨obl_ld rfl rfl rfl (v_load rfl (st.reads 0 rfl TF.t41 rfl)), trivial⟩ rfl ?_
   refine wl_val (v_assign' (by conv => (lhs; whnf))) rfl ?_
   refine wl_nil ⟨rfl, ?_⟩
   refine fl_nil (by kernel_rfl) trivial ?_
   refine then_go ?_
   refine wc_ret (then_ret ?_)
   have hx2 : X.2 ≠ 0 := by simpa using h39
   refine ret2 rfl rfl ((st.keepOnly (l := []) (List.nil_sublist _)).out ?_)
   rw [if_pos hx2]
   rfl
  ·refine wc_skip ?_
   refine then_go ?_
   refine wc_seq ?_
   refine wc_region ?_
   have hx2 : ¬ X.2 ≠ 0 := by simpa using h39
   refine wl_call rfl (c_tempty st.im) rfl ?_
   rintro v44 w ⟨t44, m3, hg3, hi3, p0, rfl, hp0⟩
   have st := st.grown hg3 t44 hi3
   have hls := hls.mono hg3.le
   refine wl_val (v_assign' (by conv => (lhs; whnf))) rfl ?_
   refine wl_nil ?_
   refine then_go ?_
   refine wc_seq ?_
   refine wc_seq ?_
   refine wc_region ?_
   refine wl_val (v_move' (by conv => (lhs; whnf))) rfl ?_
   refine wl_val (v_nil rfl) rfl ?_
   refine wl_val (v_fa TF.f84_1 rfl) rfl ?_
   refine wl_val (v_load rfl (st.reads 0 rfl TF.t67 rfl)) rfl ?_
   refine wl_val (v_len_s Try.underlying67 rfl) rfl ?_
   refine wl_val (v_move' (by conv => (lhs; whnf))) rfl ?_
   refine wl_nil ?_
   refine then_go ?_
   refine wc_block ?_
   refine wc_loop (S := Nat) (fun q r w' => ∃ (i p : Nat) (mm : Mem), q + i = X.1.length ∧ r 2 = .pointer (some ⟨b2, 0, none⟩) ∧ r 9 = ptrP p ∧ r 48 = .slice xa X.1.length xc ∧ r 49 = .int .i64 X.1.length ∧ r 50 = .int .i64 i ∧ LsM mm (.slice xa X.1.length xc) prC2 64 X.1 ∧ TreeM mm p (treeOf (ofLv (X.1.take i))) ∧ St m mm [] wI w' [rdB b16 b14 (.slice xa X.1.length xc) X.2, K.blk b2 (bs d).toArray 28]) id X.1.length ⟨0, p0, m3, by omega, rfl, rfl, rfl, rfl, rfl, hls, by simpa [ofLv, treeOf, canon_nil] using hp0, st⟩ ?_
   clear st hls hp0
   rintro q r w2 ⟨i, p, mm, hqi, g2, g9, g48, g49, g50, hls, hp, st⟩
   refine wc_o 2 g2 (wc_o 9 g9 (wc_o 48 g48 (wc_o 49 g49 (wc_o 50 g50 ?_))))
   refine wc_seq ?_
   refine wc_region ?_
   refine wl_val (v_lss rfl rfl) rfl ?_
   refine wl_nil ?_
   refine then_go ?_
   refine wc_seq ?_
   refine wc_if rfl (fun h51 => ?_) (fun h51 => ?_)
   ·refine wc_skip ?_
    refine then_go ?_
    refine wc_seq ?_
    refine wc_block ?_
    refine wc_seq ?_
    have hi : i < X.1.length := by omega
    obtain ⟨q1, q2⟩ := hXd _ (List.getElem_mem hi)
    obtain ⟨xb, xo, hxa⟩ := hls.ptr (by omega) (by decide)
    subst hxa
    refine wc_region ?_
    refine wl_val (v_ias i Try.underlying67 TF.t72 rfl rfl (by first | rfl | omega) (by first | omega | (dsimp only at *; omega))) rfl ?_
    refine wl_val (v_load rfl (hls.rd0 rfl hi (by decide) TF.t72 (v' := .agg (prC2 X.1[i]).toArray) (getV_all (by rw [List.size_toArray]; exact len_prC2 q1 q2)) st.im)) rfl ?_
    refine wl_alloc TF.z72 st rfl ?_
    intro b11 w st
    refine wl_storeW (cs := (prC2 X.1[i]).toArray) 0 st rfl TF.t72 rfl rfl (by rw [List.size_toArray]; exact len_prC2 q1 q2) rfl one_prC2 ?_
    intro w st
    refine wl_nil ?_
    refine then_go ?_
    refine wc_region ?_
    refine wl_val (v_move' (by conv => (lhs; whnf))) rfl ?_
    refine wl_val (v_fa TF.f72_0 rfl) rfl ?_
    refine wl_val (v_load rfl (st.reads (v := arr X.1[i].1) 0 rfl TF.t28 (prC2_a q1))) rfl ?_
    refine wl_val (v_fa TF.f72_1 rfl) rfl ?_
    refine wl_val (v_load rfl (st.reads (v := arr X.1[i].2) 0 rfl TF.t28 (prC2_v q1 q2))) rfl ?_
    have hfi := ofLv_fine (Z := X.1.take i) fun x hx => hXd x (List.mem_of_mem_take hx)
    have hle := length_ofLv (X.1.take i)
    have hz : (X.1.take i).length ≤ X.1.length := by simp; omega
    refine wl_call rfl (c_tput' st.im hp q1 q2 hfi.1 (by omega)) rfl ?_
    rintro v59 w ⟨t59, m4, hg4, hi4, p4, rfl, hp4⟩
    have st := st.grown hg4 t59 hi4
    have hls := hls.mono hg4.le
    refine wl_val (v_assign' (by conv => (lhs; whnf))) rfl ?_
    refine wl_nil ?_
    refine block_go (then_go ?_)
    refine wc_region ?_
    refine wl_val (v_add' (c := ((i + 1 : Nat) : Int)) rfl rfl (by omega) (by omega) (by omega)) rfl ?_
    refine wl_val (v_move' (by conv => (lhs; whnf))) rfl ?_
    refine wl_nil ?_
    refine then_go ?_
    refine ⟨q - 1, by simp; omega, i + 1, p4, m4, by omega, rfl, rfl, rfl, rfl, rfl, hls, ?_, st.keepOnly (List.sublist_append_right [_] [_, _])⟩
    rw [List.take_succ_eq_append_getElem hi, ofLv_snoc]
    exact hp4
   ·refine wc_exit (then_exit (then_exit (block_hit ?_)))
    refine then_go ?_
    refine wc_seq ?_
    refine wc_seq ?_
    refine wc_region ?_
    refine wl_val (v_move' (by conv => (lhs; whnf))) rfl ?_
    have hiX : i = X.1.length := by omega
    subst hiX
    rw [List.take_length] at hp
    obtain ⟨hfD, hfU, hfd⟩ := ofLv_fine hXd
    have hle := length_ofLv X.1
    refine wl_call rfl (c_save st.im hp hfD hfU hfd (by omega)) rfl ?_
    rintro v63 w ⟨t63, m5, hg5, hi5, sv2, N2, rfl, hN2, hs2⟩
    have st := st.grown hg5 t63 hi5
    have hp := hp.mono hg5.le
    refine wl_val (v_move' (by conv => (lhs; whnf))) rfl ?_
    refine wl_val (v_extract rfl rfl) rfl ?_
    refine wl_val (v_extract rfl rfl) rfl ?_
    refine wl_alloc TF.z28 st rfl ?_
    intro b12 w st
    refine wl_storeW (cs := (bs (sum (pg1 256 0 (ofLv X.1)))).toArray) 0 st rfl TF.t28 rfl rfl (by rw [List.size_toArray, length_bs, length_sum]) rfl (one_bs _) ?_
    intro w st
    refine wl_val (v_assign' (by conv => (lhs; whnf))) rfl ?_
    refine wl_nil ?_
    refine then_go ?_
    refine wc_seq ?_
    refine wc_region ?_
    refine wl_val (v_load rfl (st.reads (v := arr (sum (pg1 256 0 (ofLv X.1)))) 0 rfl TF.t28 (getV_all (by rw [List.size_toArray, length_bs, length_sum])))) rfl ?_
    refine wl_val (v_load rfl (st.reads (v := arr d) 2 rfl TF.t28 (getV_all (by rw [List.size_toArray, length_bs]; exact hd)))) rfl ?_
    refine wl_val (v_ne_arr Try.underlying28 TF.t5 Try.underlying5 TF.e28 rfl rfl (length_sum _) hd) rfl ?_
    refine wl_nil ?_
    refine then_go ?_
    refine wc_cond rfl (fun h68 => ?_) (fun h68 => ?_)
    ·refine wc_seq ?_
     refine wc_region ?_
     refine wl_val (v_assign' (by conv => (lhs; whnf))) rfl ?_
     refine wl_val (v_assign' (by conv => (lhs; whnf))) rfl ?_
     refine wl_nil ?_
     refine then_go ?_
     refine wc_ret (then_ret ?_)
     have hne : ¬ sum (pg1 256 0 (ofLv X.1)) = d := by simpa using h68
     refine ret2 rfl rfl ((st.keepOnly (l := []) (List.nil_sublist _)).out ?_)
     rw [if_neg hx2, if_neg hne]
     rfl
    ·refine wc_skip ?_
     refine then_go ?_
     refine wc_seq ?_
     refine wc_region ?_
     refine wl_val (v_move' (by conv => (lhs; whnf))) rfl ?_
     refine wl_val (v_assign' (by conv => (lhs; whnf))) rfl ?_
     refine wl_val (v_assign' (by conv => (lhs; whnf))) rfl ?_
     refine wl_nil ?_
     refine then_go ?_
     refine wc_ret ?_
     have heq : sum (pg1 256 0 (ofLv X.1)) = d := by simpa using h68
     refine ret2 rfl rfl ((st.keepOnly (l := []) (List.nil_sublist _)).out ?_)
     rw [if_neg hx2, if_pos heq]
     exact ⟨p, rfl, hp⟩
end
end Go.Proofs.Ytonlmjpenonabaa

namespace Go.Proofs.Ytonlmjpenonabaa
open Go Go.RowKit K SH PT
theorem rdF_err {M : By → Option By} {G : Nat} {b p : By} {n : Nat} {l : List (By × By)} {e : Nat} (h : e ≠ 0) : rdF M (G + 1) b p n l e = ([], l, e) := by
 have hf : failE e 15 = e := by rw [failE, if_neg h]
 cases b with
 | nil => rw [rdF_nil, hf]
 | cons k b => rw [rdF_bad (.inl h), hf]
theorem dgF_at {a t : By} {e : Nat} (h : a.length = 32) : dgF (a ++ t) e = (a, t, e) := by
 unfold dgF
 rw [if_neg (by simp; omega), List.take_left' h, List.drop_left' h]
def Pre (p : By) (d : Nat) (L : List (By × By)) : Prop := ∀ x ∈ L, ∀ k, k < d → bit x.1 k = bit p k
theorem Pre.half {p : By} {d : Nat} {L : List (By × By)} (h : Pre p d L) (hp : p.length = 32) (hd : d < 256) (on : Bool) : Pre (setB p d on) (d + 1) (halfL L d on) := by
 intro x hx k hk
 obtain ⟨hx1, hx2⟩ := (mem_half hd).1 hx
 rw [bit_setB hp hd (by omega)]
 split
 ·rename_i e; rw [e]; exact hx2
 ·exact h x hx1 k (by omega)
section
variable {M : By → Option By}
theorem rd_wh : ∀ {g d : Nat} {L : List (By × By)} {p t : By} {l : List (By × By)} {G : Nat}, g + d = 256 → Dst d L → Up L → D32p L → p.length = 32 → Pre p d L → 2 * (257 - d) + 1 ≤ G →
  rdF M G (wh g d L ++ t) p d l 0 = (t, l ++ L, 0)
 | g, d, [], p, t, l, G, hgd, _, _, _, _, _, hG => by
  obtain ⟨G, rfl⟩ : ∃ G', G = G' + 1 := ⟨G - 1, by omega⟩
  rw [wh_nil]
  show rdF M (G + 1) (0 :: t) p d l 0 = _
  rw [rdF_0 (by omega) rfl, List.append_nil]
 | g, d, [x], p, t, l, G, hgd, _, _, hL, hp, hpre, hG => by
  obtain ⟨G, rfl⟩ : ∃ G', G = G' + 1 := ⟨G - 1, by omega⟩
  obtain ⟨h1, h2⟩ := hL x (by simp)
  rw [wh_one]
  show rdF M (G + 1) (1 :: ((x.1 ++ x.2) ++ t)) p d l 0 = _
  rw [rdF_1 (by omega) rfl, List.append_assoc, dgF_at h1]
  show ((dgF (x.2 ++ t) 0).2.1, l ++ [(x.1, (dgF (x.2 ++ t) 0).1)], if d ≤ common x.1 p then (dgF (x.2 ++ t) 0).2.2 else failE (dgF (x.2 ++ t) 0).2.2 15) = _
  rw [dgF_at h2, if_pos (common_ge (fun k hk => hpre x (by simp) k hk) (by omega))]
 | 0, d, x :: y :: L, p, t, l, G, hgd, hD, _, _, _, _, hG => by
  rw [show d = 256 by omega] at hD
  exact hD.two.elim
 | g + 1, d, x :: y :: L, p, t, l, G, hgd, hD, hU, hL, hp, hpre, hG => by
  obtain ⟨G, rfl⟩ : ∃ G', G = G' + 1 := ⟨G - 1, by omega⟩
  rw [wh_more (by simp)]
  show rdF M (G + 1) (2 :: ((wh g (d + 1) (halfL (x :: y :: L) d false) ++ wh g (d + 1) (halfL (x :: y :: L) d true)) ++ t)) p d l 0 = _
  rw [rdF_2 (by omega) rfl, List.append_assoc]
  rw [rd_wh (g := g) (d := d + 1) (by omega) (hD.half (by omega) false) (up_half hU) hL.half (len_setB.trans hp) (hpre.half hp (by omega) false) (by omega)]
  show rdF M G (wh g (d + 1) (halfL (x :: y :: L) d true) ++ t) (setB p d true) (d + 1) (l ++ halfL (x :: y :: L) d false) 0 = _
  rw [rd_wh (g := g) (d := d + 1) (by omega) (hD.half (by omega) true) (up_half hU) hL.half (len_setB.trans hp) (hpre.half hp (by omega) true) (by omega)]
  rw [List.append_assoc, ← up_part hU hD (by omega)]
def FullL (M : By → Option By) (S : List By) : Prop := ∀ p ∈ S, M (sum p) = some p
def HonL (M : By → Option By) (S : List By) : Prop := ∀ p ∈ S, M (sum p) = none ∨ M (sum p) = some p
def PgS (M : By → Option By) (g : Nat) : Prop := ∀ {d : Nat} {L : List (By × By)} {p : By} {l : List (By × By)} {G : Nat}, g + d = 256 → Dst d L → Up L → D32p L → p.length = 32 → Pre p d L → (0 < d → 2 ≤ L.length) → 2 * (257 - d) + 1 ≤ G → HonL M (sv g d L) →
 (FullL M (sv g d L) → pgF M (rdF M G) (sum (pg1 g d L)) p d l 0 = (l ++ L, 0)) ∧
 (¬ FullL M (sv g d L) → (pgF M (rdF M G) (sum (pg1 g d L)) p d l 0).1.length ≤ l.length + L.length ∧ (pgF M (rdF M G) (sum (pg1 g d L)) p d l 0).2 = 7)
theorem rd_side {g d : Nat} {h : List (By × By)} {p t : By} {l : List (By × By)} {G : Nat} (ih : PgS M g) (hgd : g + d = 256) (hD : Dst d h) (hU : Up h) (hL : D32p h) (hp : p.length = 32) (hpre : Pre p d h) (hG : 2 * (257 - d) + 2 ≤ G) (hon : HonL M (restB (sv g d h) h)) :
  (FullL M (restB (sv g d h) h) → rdF M G (sideB (sv g d h) (wh g d h) h ++ t) p d l 0 = (t, l ++ h, 0)) ∧
  (¬ FullL M (restB (sv g d h) h) → (rdF M G (sideB (sv g d h) (wh g d h) h ++ t) p d l 0).2.1.length ≤ l.length + h.length ∧ (rdF M G (sideB (sv g d h) (wh g d h) h ++ t) p d l 0).2.2 = 7) := by
 by_cases h2 : h.length < 2
 ·rw [sideB, if_pos h2, restB, if_pos h2]
  exact ⟨fun _ => rd_wh hgd hD hU hL hp hpre (by omega), fun hn => (hn (by intro q hq; cases hq)).elim⟩
 ·rw [restB, if_neg h2] at hon ⊢
  rw [sideB, if_neg h2]
  obtain ⟨G, rfl⟩ : ∃ G', G = G' + 1 := ⟨G - 1, by omega⟩
  show (_ → rdF M (G + 1) (3 :: (sum (pg1 g d h) ++ t)) p d l 0 = _) ∧ (_ → (rdF M (G + 1) (3 :: (sum (pg1 g d h) ++ t)) p d l 0).2.1.length ≤ _ ∧ (rdF M (G + 1) (3 :: (sum (pg1 g d h) ++ t)) p d l 0).2.2 = 7)
  rw [rdF_3 (by omega) rfl, dgF_at (length_sum _)]
  obtain ⟨i1, i2⟩ := ih (l := l) (G := G) hgd hD hU hL hp hpre (fun _ => by omega) (by omega) hon
  exact ⟨fun hf => by rw [i1 hf], fun hn => i2 hn⟩
theorem headD_wh {g d : Nat} {L : List (By × By)} : (wh g d L).headD 0 ≠ 3 := by
 match g, L with
 | g, [] => rw [wh_nil]; decide
 | g, [x] => rw [wh_one]; exact (by decide : (1 : UInt8) ≠ 3)
 | 0, x :: y :: l => exact (by decide : (2 : UInt8) ≠ 3)
 | g + 1, x :: y :: l => rw [wh_more (by simp)]; exact (by decide : (2 : UInt8) ≠ 3)
theorem pg_all {b p : By} {n : Nat} {l L : List (By × By)} {rd : By → By → Nat → List (By × By) → Nat → By × List (By × By) × Nat} {d : By} (hM : M d = some b) (hb : b.headD 0 ≠ 3) (h2 : 0 < n → 2 ≤ L.length) (h : rd b p n l 0 = ([], l ++ L, 0)) : pgF M rd d p n l 0 = (l ++ L, 0) := by
 rw [pgF_ok rfl hM (fun hh => hb hh.2), h]
 rw [h]
 simp
 omega
theorem pg_not {b p : By} {n k : Nat} {l : List (By × By)} {rd : By → By → Nat → List (By × By) → Nat → By × List (By × By) × Nat} {d : By} (hM : M d = some b) (hb : b.headD 0 ≠ 3) (h1 : (rd b p n l 0).2.1.length ≤ k) (h : (rd b p n l 0).2.2 = 7) : (pgF M rd d p n l 0).1.length ≤ k ∧ (pgF M rd d p n l 0).2 = 7 := by
 by_cases hq : 0 < (rd b p n l 0).1.length ∨ (0 < n ∧ (rd b p n l 0).2.1.length < l.length + 2)
 ·rw [pgF_bad rfl hM (fun hh => hb hh.2) hq, h]
  exact ⟨h1, rfl⟩
 ·rw [pgF_ok rfl hM (fun hh => hb hh.2) hq]
  exact ⟨h1, h⟩
theorem pg_small {g d : Nat} {L : List (By × By)} {p : By} {l : List (By × By)} {G : Nat} (hs : (wh g d L).length ≤ 512) (hgd : g + d = 256) (hD : Dst d L) (hU : Up L) (hL : D32p L) (hp : p.length = 32) (hpre : Pre p d L) (h2 : 0 < d → 2 ≤ L.length) (hG : 2 * (257 - d) + 1 ≤ G) (hon : HonL M (sv g d L)) :
 (FullL M (sv g d L) → pgF M (rdF M G) (sum (pg1 g d L)) p d l 0 = (l ++ L, 0)) ∧
 (¬ FullL M (sv g d L) → (pgF M (rdF M G) (sum (pg1 g d L)) p d l 0).1.length ≤ l.length + L.length ∧ (pgF M (rdF M G) (sum (pg1 g d L)) p d l 0).2 = 7) := by
 have e : pg1 g d L = wh g d L := by unfold pg1; rw [sv_small hs]; rfl
 rw [e]
 rw [sv_small hs] at hon ⊢
 refine ⟨fun hf => ?_, fun hn => ?_⟩
 ·have hM := hf _ (List.mem_singleton.2 rfl)
  have hr := rd_wh (M := M) (t := []) (l := l) hgd hD hU hL hp hpre hG
  rw [List.append_nil] at hr
  exact pg_all hM headD_wh h2 hr
 ·have hM : M (sum (wh g d L)) = none := (hon _ (List.mem_singleton.2 rfl)).resolve_right fun h => hn fun q hq => by rw [List.mem_singleton.1 hq]; exact h
  rw [pgF_none rfl hM]
  exact ⟨by simp, rfl⟩
theorem pg_back : ∀ {g : Nat}, PgS M g := by
 intro g
 induction g with
 | zero =>
  intro d L p l G hgd hD hU hL hp hpre h2 hG hon
  refine pg_small ?_ hgd hD hU hL hp hpre h2 hG hon
  match L, hD with
  | [], _ => rw [wh_nil]; decide
  | [x], _ => exact Nat.le_trans (wh_lt2 (by simp) hL) (by decide)
  | x :: y :: l, hD => rw [show d = 256 by omega] at hD; exact hD.two.elim
 | succ g ih =>
  intro d L p l G hgd hD hU hL hp hpre h2 hG hon
  by_cases hs : (wh (g + 1) d L).length ≤ 512
  ·exact pg_small hs hgd hD hU hL hp hpre h2 hG hon
  ·have hsv := sv_big hs
   obtain ⟨h0, e0⟩ : ∃ h0, h0 = halfL L d false := ⟨_, rfl⟩
   obtain ⟨h1, e1⟩ : ∃ h1, h1 = halfL L d true := ⟨_, rfl⟩
   have hpg : pg1 (g + 1) d L = 2 :: (sideB (sv g (d + 1) h0) (wh g (d + 1) h0) h0 ++ sideB (sv g (d + 1) h1) (wh g (d + 1) h1) h1) := by unfold pg1; rw [hsv, e0, e1]; rfl
   rw [← e0, ← e1] at hsv
   have hLs : L = h0 ++ h1 := by rw [e0, e1]; exact up_part hU hD (by omega)
   have hD0 : Dst (d + 1) h0 := e0 ▸ hD.half (by omega) false
   have hD1 : Dst (d + 1) h1 := e1 ▸ hD.half (by omega) true
   have hU0 : Up h0 := e0 ▸ up_half hU
   have hU1 : Up h1 := e1 ▸ up_half hU
   have hL0 : D32p h0 := e0 ▸ hL.half
   have hL1 : D32p h1 := e1 ▸ hL.half
   have hP0 : Pre (setB p d false) (d + 1) h0 := e0 ▸ hpre.half hp (by omega) false
   have hP1 : Pre (setB p d true) (d + 1) h1 := e1 ▸ hpre.half hp (by omega) true
   have hh : (pg1 (g + 1) d L).headD 0 ≠ 3 := by rw [hpg]; exact (by decide : (2 : UInt8) ≠ 3)
   have hm1 : pg1 (g + 1) d L ∈ sv (g + 1) d L := by rw [sv_eq]; exact List.mem_cons_self
   have hon0 : HonL M (restB (sv g (d + 1) h0) h0) := fun q hq => hon q (by rw [hsv]; exact List.mem_cons_of_mem _ (List.mem_append_left _ hq))
   have hon1 : HonL M (restB (sv g (d + 1) h1) h1) := fun q hq => hon q (by rw [hsv]; exact List.mem_cons_of_mem _ (List.mem_append_right _ hq))
   have hfull : FullL M (sv (g + 1) d L) ↔ M (sum (pg1 (g + 1) d L)) = some (pg1 (g + 1) d L) ∧ FullL M (restB (sv g (d + 1) h0) h0) ∧ FullL M (restB (sv g (d + 1) h1) h1) := by
    rw [hsv, hpg]
    unfold FullL
    simp only [List.mem_cons, List.mem_append]
    refine ⟨fun h => ⟨h _ (.inl rfl), fun q hq => h q (.inr (.inl hq)), fun q hq => h q (.inr (.inr hq))⟩, fun h q hq => ?_⟩
    rcases hq with rfl | hq | hq
    ·exact h.1
    ·exact h.2.1 q hq
    ·exact h.2.2 q hq
   rcases hon _ hm1 with hM | hM
   ·refine ⟨fun hf => absurd ((hfull.1 hf).1.symm.trans hM) (by simp), fun _ => ?_⟩
    rw [pgF_none rfl hM]
    exact ⟨by simp, rfl⟩
   ·obtain ⟨G, rfl⟩ : ∃ G', G = G' + 1 := ⟨G - 1, by omega⟩
    obtain ⟨G, rfl⟩ : ∃ G', G = G' + 1 := ⟨G - 1, by omega⟩
    obtain ⟨a1, a2⟩ := rd_side (M := M) (l := l) (t := sideB (sv g (d + 1) h1) (wh g (d + 1) h1) h1) (G := G + 1) ih (by omega) hD0 hU0 hL0 (len_setB.trans hp) hP0 (by omega) hon0
    have hr : rdF M (G + 1 + 1) (pg1 (g + 1) d L) p d l 0 = rdF M (G + 1) (rdF M (G + 1) (sideB (sv g (d + 1) h0) (wh g (d + 1) h0) h0 ++ sideB (sv g (d + 1) h1) (wh g (d + 1) h1) h1) (setB p d false) (d + 1) l 0).1 (setB p d true) (d + 1) (rdF M (G + 1) (sideB (sv g (d + 1) h0) (wh g (d + 1) h0) h0 ++ sideB (sv g (d + 1) h1) (wh g (d + 1) h1) h1) (setB p d false) (d + 1) l 0).2.1 (rdF M (G + 1) (sideB (sv g (d + 1) h0) (wh g (d + 1) h0) h0 ++ sideB (sv g (d + 1) h1) (wh g (d + 1) h1) h1) (setB p d false) (d + 1) l 0).2.2 := by
     rw [hpg]
     exact rdF_2 (by omega) rfl
    have hlen : L.length = h0.length + h1.length := by rw [hLs, List.length_append]
    by_cases f0 : FullL M (restB (sv g (d + 1) h0) h0)
    ·rw [a1 f0] at hr
     obtain ⟨b1, b2⟩ := rd_side (M := M) (l := l ++ h0) (t := []) (G := G + 1) ih (by omega) hD1 hU1 hL1 (len_setB.trans hp) hP1 (by omega) hon1
     rw [List.append_nil] at b1 b2
     by_cases f1 : FullL M (restB (sv g (d + 1) h1) h1)
     ·refine ⟨fun _ => ?_, fun hn => (hn (hfull.2 ⟨hM, f0, f1⟩)).elim⟩
      refine pg_all hM hh h2 (hr.trans ?_)
      rw [hLs, ← List.append_assoc]
      exact b1 f1
     ·refine ⟨fun hf => (f1 (hfull.1 hf).2.2).elim, fun _ => pg_not hM hh ?_ ?_⟩
      ·rw [hr]
       have := (b2 f1).1
       rw [List.length_append] at this
       show (rdF M (G + 1) (sideB (sv g (d + 1) h1) (wh g (d + 1) h1) h1) (setB p d true) (d + 1) (l ++ h0) 0).2.1.length ≤ _
       omega
      ·rw [hr]; exact (b2 f1).2
    ·obtain ⟨c1, c2⟩ := a2 f0
     rw [c2, rdF_err (e := 7) (by decide)] at hr
     refine ⟨fun hf => (f0 (hfull.1 hf).2.1).elim, fun _ => pg_not hM hh ?_ ?_⟩
     ·rw [hr]
      show (rdF M (G + 1) (sideB (sv g (d + 1) h0) (wh g (d + 1) h0) h0 ++ sideB (sv g (d + 1) h1) (wh g (d + 1) h1) h1) (setB p d false) (d + 1) l 0).2.1.length ≤ _
      omega
     ·rw [hr]
theorem ld_back {L : List (By × By)} (hD : Dst 0 L) (hU : Up L) (hL : D32p L) (hon : HonL M (sv 256 0 L)) :
  (FullL M (sv 256 0 L) → ldF M (sum (pg1 256 0 L)) = (L, 0)) ∧ (¬ FullL M (sv 256 0 L) → (ldF M (sum (pg1 256 0 L))).1.length ≤ L.length ∧ (ldF M (sum (pg1 256 0 L))).2 = 7) := by
 have h := pg_back (M := M) (g := 256) (d := 0) (L := L) (p := z32) (l := []) (G := 515) rfl hD hU hL rfl (fun _ _ k hk => by omega) (fun h => by omega) (by decide) hon
 simpa [ldF] using h
end
end Go.Proofs.Ytonlmjpenonabaa

namespace Go.Proofs.Ytonlmjpenonabaa
open Go Go.RowKit K SH PT
section
variable {m : Mem} {wI : World}
theorem c_same17 {av bv : Value} {a b : By} (him : Im m wI) (ha : SlM m av 1 a.length (bs a)) (hb : SlM m bv 1 b.length (bs b)) :
  Ret Try.prog 37 #[av, bv] wI fun v w' => Tch wI w' [] [] ∧ v = .bool (decide (a = b)) := by
 refine ret_of Try.call37 Try.func37 rfl Try.ntmps37 Try.results37 rfl ?_
 refine wc_seq ?_
 refine wc_region ?_
 refine wl_val (v_assign' (by conv => (lhs; whnf))) rfl ?_
 refine wl_nil ?_
 refine then_go ?_
 refine wc_seq ?_
 refine wc_region ?_
 refine wl_val (v_move' (by conv => (lhs; whnf))) rfl ?_
 refine wl_val (v_b2s Try.underlying37 Try.underlying5 Try.underlying9 him ha rfl) rfl ?_
 refine wl_val (v_move' (by conv => (lhs; whnf))) rfl ?_
 refine wl_val (v_b2s Try.underlying37 Try.underlying5 Try.underlying9 him hb rfl) rfl ?_
 refine wl_val (v_eqs rfl rfl) rfl ?_
 refine wl_val (v_assign' (by conv => (lhs; whnf))) rfl ?_
 refine wl_nil ?_
 refine then_go ?_
 refine wc_ret ?_
 exact ret1 rfl ⟨Tch.refl _ _, rfl⟩
theorem c_sametexts {av bv : Value} {A B : List (By × Value)} (him : Im m wI) (ha : PcsM m av A) (hb : PcsM m bv B) (hAB : A.map (·.1) = B.map (·.1)) (hA : A.length ≤ 1000000000) :
  Ret Try.prog 18 #[av, bv] wI fun v w' => Tch wI w' [] [] ∧ v = .bool true := by
 have st := St.start him
 have hlen : A.length = B.length := by have := congrArg List.length hAB; simpa using this
 obtain ⟨na, nc, hlv⟩ : ∃ a c, av = .slice a A.length c := by obtain ⟨⟨_, a, c, h, _⟩, _⟩ := ha; exact ⟨a, c, h⟩
 obtain ⟨nb, nd, hlb⟩ : ∃ a c, bv = .slice a B.length c := by obtain ⟨⟨_, a, c, h, _⟩, _⟩ := hb; exact ⟨a, c, h⟩
 subst hlv hlb
 refine ret_of Try.call18 Try.func18 rfl Try.ntmps18 Try.results18 rfl ?_
 refine wc_seq ?_
 refine wc_region ?_
 refine wl_val (v_assign' (by conv => (lhs; whnf))) rfl ?_
 refine wl_nil ?_
 refine then_go ?_
 refine wc_seq ?_
 refine wc_seq ?_
 refine wc_region ?_
 refine wl_val (v_move' (by conv => (lhs; whnf))) rfl ?_
 refine wl_val (v_len_s Try.underlying29 rfl) rfl ?_
 refine wl_val (v_move' (by conv => (lhs; whnf))) rfl ?_
 refine wl_val (v_len_s Try.underlying29 rfl) rfl ?_
 refine wl_val (v_neqF (a := (A.length : Int)) (b := (B.length : Int)) (by omega) rfl rfl) rfl ?_
 refine wl_nil ?_
 refine then_go ?_
 refine wc_false rfl ?_
 refine wc_skip ?_
 refine then_go ?_
 refine wc_seq ?_
 refine wc_seq ?_
 refine wc_region ?_
 refine wl_val (v_assign' (by conv => (lhs; whnf))) rfl ?_
 refine wl_nil ?_
 refine then_go ?_
 refine wc_block ?_
 refine wc_loop (S := Nat) (fun q r w' => ∃ (i : Nat), q + i = A.length ∧ r 0 = .slice na A.length nc ∧ r 1 = .slice nb B.length nd ∧ r 5 = .int .i64 i ∧ St m m [] wI w' []) id A.length ⟨0, by omega, rfl, rfl, rfl, st⟩ ?_
 clear st
 rintro q r w2 ⟨i, hqi, g0, g1, g5, st⟩
 refine wc_o 0 g0 (wc_o 1 g1 (wc_o 5 g5 ?_))
 refine wc_seq ?_
 refine wc_seq ?_
 refine wc_region ?_
 refine wl_val (v_move' (by conv => (lhs; whnf))) rfl ?_
 refine wl_val (v_move' (by conv => (lhs; whnf))) rfl ?_
 refine wl_val (v_len_s Try.underlying29 rfl) rfl ?_
 refine wl_val (v_lss rfl rfl) rfl ?_
 refine wl_nil ?_
 refine then_go ?_
 refine wc_if rfl (fun h14 => ?_) (fun h14 => ?_)
 ·refine wc_skip ?_
  refine then_go ?_
  refine wc_seq ?_
  refine wc_block ?_
  refine wc_seq ?_
  have hi : i < A.length := by omega
  have hj : i < B.length := by omega
  obtain ⟨ab, ao, _, hav, hs0, hra⟩ := ha.elem hi
  obtain ⟨bb, bo, _, hbv, hs1, hrb⟩ := hb.elem hj
  cases hav
  cases hbv
  have heq : A[i].1 = B[i].1 := by
   have := congrArg (fun l => l[i]?) hAB
   simpa [hi, hj] using this
  refine wc_draw TF.mixed ?_
  have st := st.pure (touch_drew _)
  refine fl_val 0 rfl (fun _ => (v_move' (by conv => (lhs; whnf)))) rfl (by kernel_rfl) ?_
  refine fl_val 1 rfl (fun _ => (v_move' (by conv => (lhs; whnf)))) rfl (by kernel_rfl) ?_
  refine fl_val 2 rfl (fun _ => (v_ias i Try.underlying29 TF.t37 rfl rfl (by first | rfl | omega) (by first | omega | (dsimp only at *; omega)))) rfl (by kernel_rfl) ?_
  refine fl_ld 3 rfl (v_load rfl (hra st.im)) (by kernel_rfl) ?_
  refine fl_val 4 rfl (fun _ => (v_move' (by conv => (lhs; whnf)))) rfl (by kernel_rfl) ?_
  refine fl_val 5 rfl (fun _ => (v_move' (by conv => (lhs; whnf)))) rfl (by kernel_rfl) ?_
  refine fl_val 6 rfl (fun _ => (v_ias i Try.underlying29 TF.t37 rfl rfl (by first | rfl | omega) (by first | omega | (dsimp only at *; omega)))) rfl (by kernel_rfl) ?_
  refine fl_ld 7 rfl (v_load rfl (hrb st.im)) (by kernel_rfl) ?_
  refine fl_eff1 8 [6, 5, 4, 2, 1, 0] [] (by kernel_rfl) ⟨obl_ld rfl rfl rfl (v_load rfl (hrb st.im)), obl_ld rfl rfl rfl (v_load rfl (hra st.im)), trivial⟩ rfl ?_
  refine wl_call rfl (c_same17 st.im hs0 hs1) rfl ?_
  rintro v25 w ⟨t25, rfl⟩
  have st := st.pure t25
  refine wl_nil ⟨rfl, ?_⟩
  refine fl_val 9 rfl (fun _ => (v_not rfl)) rfl (by kernel_rfl) ?_
  refine fl_nil (by kernel_rfl) trivial ?_
  refine then_go ?_
  refine wc_false (by rw [heq]; simp; rfl) ?_
  refine wc_skip ?_
  refine block_go (then_go ?_)
  refine wc_region ?_
  refine wl_val (v_move' (by conv => (lhs; whnf))) rfl ?_
  refine wl_val (v_add' (c := ((i + 1 : Nat) : Int)) rfl rfl (by omega) (by omega) (by omega)) rfl ?_
  refine wl_val (v_assign' (by conv => (lhs; whnf))) rfl ?_
  refine wl_nil ?_
  refine then_go ?_
  exact ⟨q - 1, by simp; omega, i + 1, by omega, rfl, rfl, rfl, st⟩
 ·refine wc_exit (then_exit (then_exit (block_hit ?_)))
  refine then_go ?_
  refine wc_seq ?_
  refine wc_region ?_
  refine wl_val (v_assign' (by conv => (lhs; whnf))) rfl ?_
  refine wl_nil ?_
  refine then_go ?_
  refine wc_ret ?_
  exact ret1 rfl ⟨st.touch, rfl⟩
theorem c_few17 {a : Option Addr} {k c : Nat} (him : Im m wI) :
  Ret Try.prog 12 #[.slice a k c] wI fun v w' => Tch wI w' [] [] ∧ v = .bool (decide ((k : Int) ≤ 40)) := by
 refine ret_of Try.call12 Try.func12 rfl Try.ntmps12 Try.results12 rfl ?_
 refine wc_seq ?_
 refine wc_region ?_
 refine wl_val (v_assign' (by conv => (lhs; whnf))) rfl ?_
 refine wl_nil ?_
 refine then_go ?_
 refine wc_seq ?_
 refine wc_region ?_
 refine wl_val (v_move' (by conv => (lhs; whnf))) rfl ?_
 refine wl_val (v_len_s Try.underlying22 rfl) rfl ?_
 refine wl_val (v_leq rfl rfl) rfl ?_
 refine wl_val (v_assign' (by conv => (lhs; whnf))) rfl ?_
 refine wl_nil ?_
 refine then_go ?_
 refine wc_ret ?_
 exact ret1 rfl ⟨Tch.refl _ _, rfl⟩
end
end Go.Proofs.Ytonlmjpenonabaa

namespace Go.Proofs.Ytonlmjpenonabaa
open Go Go.RowKit K SH PT
def dg1 (x : UInt8) : By := x :: List.replicate 31 0
def L2 : List (By × By) := [(dg1 1, dg1 7), (dg1 2, dg1 8)]
theorem L2_d32 : D32p L2 := by intro x hx; simp [L2] at hx; rcases hx with rfl | rfl <;> exact ⟨rfl, rfl⟩
theorem L2_of : ofLv L2 = L2 := by decide +kernel
theorem L2_fine : Dst 0 L2 ∧ Up L2 ∧ D32p L2 := by have := ofLv_fine L2_d32; rwa [L2_of] at this
theorem L2_wh : (wh 256 0 L2).length ≤ 512 := by decide +kernel
theorem L2_ne : sum (wh 256 0 L2) ≠ z32 := by decide +kernel
theorem L2_head : ∃ b, wh 256 0 L2 = 2 :: b := ⟨_, wh_more (by decide)⟩
theorem two_ofN {N : List (By × Value)} (h : N.map (·.1) = sv 256 0 L2) : ∃ v, N = [(wh 256 0 L2, v)] := by
 rw [sv_small L2_wh] at h
 cases N with
 | nil => cases h
 | cons x r =>
  rw [List.map_cons, List.cons.injEq, List.map_eq_nil_iff] at h
  exact ⟨x.2, by rw [h.2, ← h.1]⟩
theorem one_map {b : By} {v : Value} {d : By} : pgM (mapOf [(b, v)]) d = if sum b = d then some b else none := by
 simp only [mapOf, List.foldl_cons, List.foldl_nil, insKV, pgM, getKV]
 split <;> rfl
theorem one_ld {b : By} {v : Value} {L : List (By × By)} (hs : sv 256 0 L = [b]) (hD : Dst 0 L) (hU : Up L) (hL : D32p L) : ldF (pgM (mapOf [(b, v)])) (sum b) = (L, 0) := by
 have hM : pgM (mapOf [(b, v)]) (sum b) = some b := by rw [one_map, if_pos rfl]
 have h := (ld_back (M := pgM (mapOf [(b, v)])) hD hU hL (fun q hq => .inr (by rw [hs] at hq; rw [List.mem_singleton.1 hq]; exact hM))).1 (fun q hq => by rw [hs] at hq; rw [List.mem_singleton.1 hq]; exact hM)
 have e : pg1 256 0 L = b := by unfold pg1; rw [hs]; rfl
 rwa [e] at h
theorem one_no {b : By} {v : Value} {d : By} (h : sum b ≠ d) : ldF (pgM (mapOf [(b, v)])) d = ([], 7) := by
 unfold ldF
 rw [pgF_none rfl (by rw [one_map, if_neg h])]
 rfl
section
variable {m : Mem} {wI : World}
theorem c_works17 (him : Im m wI) : Ret Try.prog 13 #[] wI fun v w' => Tch wI w' [] [] ∧ v = .bool true := by
 have st := St.start him
 refine ret_of Try.call13 Try.func13 rfl Try.ntmps13 Try.results13 rfl ?_
 refine wc_seq ?_
 refine wc_region ?_
 refine wl_val (v_assign' (by conv => (lhs; whnf))) rfl ?_
 refine wl_nil ?_
 refine then_go ?_
 refine wc_seq ?_
 refine wc_region ?_
 refine wl_val (v_build_a (c' := (bs (dg1 1)).toArray) [(0, .int .u8 1)] TF.z28 Try.underlying28 TF.t5 rfl ⟨0, 1, rfl, rfl, by decide, rfl⟩) rfl ?_
 refine wl_val (v_build_a (c' := (bs (dg1 2)).toArray) [(0, .int .u8 2)] TF.z28 Try.underlying28 TF.t5 rfl ⟨0, 1, rfl, rfl, by decide, rfl⟩) rfl ?_
 refine wl_lsTwo (bs (dg1 1)) (bs (dg1 2)) Try.underlying22 TF.t28 TF.z28 (by decide) (by decide) rfl rfl rfl rfl st rfl ?_
 intro b10 w st
 have st : St m m [] wI w [digE (.slice (some ⟨b10, 0, none⟩) 2 2) [dg1 1, dg1 2]] := st.rowShut 0 (b := b10) (k := 2) (cap := 2) (size := 32) (xs := digs [dg1 1, dg1 2]) rfl (by decide) rfl (by decide) rfl
 obtain ⟨m1, hg1, hd1, st⟩ := st.keepDig (i := 0) rfl (by intro x hx; simp at hx; rcases hx with rfl | rfl <;> rfl)
 refine wl_val (v_build_a (c' := (bs (dg1 7)).toArray) [(0, .int .u8 7)] TF.z28 Try.underlying28 TF.t5 rfl ⟨0, 1, rfl, rfl, by decide, rfl⟩) rfl ?_
 refine wl_val (v_build_a (c' := (bs (dg1 8)).toArray) [(0, .int .u8 8)] TF.z28 Try.underlying28 TF.t5 rfl ⟨0, 1, rfl, rfl, by decide, rfl⟩) rfl ?_
 refine wl_lsTwo (bs (dg1 7)) (bs (dg1 8)) Try.underlying22 TF.t28 TF.z28 (by decide) (by decide) rfl rfl rfl rfl st rfl ?_
 intro b13 w st
 have st : St m m1 [] wI w [digE (.slice (some ⟨b13, 0, none⟩) 2 2) [dg1 7, dg1 8]] := st.rowShut 0 (b := b13) (k := 2) (cap := 2) (size := 32) (xs := digs [dg1 7, dg1 8]) rfl (by decide) rfl (by decide) rfl
 obtain ⟨m2, hg2, hd2, st⟩ := st.keepDig (i := 0) rfl (by intro x hx; simp at hx; rcases hx with rfl | rfl <;> rfl)
 have hd1 := hd1.mono hg2.le
 refine wl_call rfl (c_tof' st.im hd1 hd2 (by decide)) rfl ?_
 rintro v14 w ⟨t14, m3, hg3, hi3, p, rfl, hp⟩
 have st := st.grown hg3 t14 hi3
 have hp : TreeM m3 p (treeOf L2) := by
  have e : ofLv (([dg1 1, dg1 2] : List By).zip [dg1 7, dg1 8]) = L2 := L2_of
  rw [e] at hp
  exact hp
 refine wl_val (v_assign' (by conv => (lhs; whnf))) rfl ?_
 refine wl_nil ?_
 refine then_go ?_
 refine wc_seq ?_
 refine wc_seq ?_
 refine wc_region ?_
 refine wl_val (v_move' (by conv => (lhs; whnf))) rfl ?_
 refine wl_val (v_eq_nil Try.underlying25 rfl rfl) rfl ?_
 refine wl_nil ?_
 refine then_go ?_
 refine wc_false rfl ?_
 refine wc_skip ?_
 refine then_go ?_
 refine wc_seq ?_
 refine wc_region ?_
 refine wl_val (v_move' (by conv => (lhs; whnf))) rfl ?_
 refine wl_call rfl (c_save st.im hp L2_fine.1 L2_fine.2.1 L2_d32 (by decide)) rfl ?_
 rintro v19 w ⟨t19, m4, hg4, hi4, sv2, N, rfl, hN, hs2⟩
 have st := st.grown hg4 t19 hi4
 have hp := hp.mono hg4.le
 obtain ⟨pv, rfl⟩ := two_ofN hs2
 have e1 : pg1 256 0 L2 = wh 256 0 L2 := by unfold pg1; rw [sv_small L2_wh]; rfl
 have hW1 : sum (wh 256 0 L2) ≠ z32 := L2_ne
 have hW2 : sv 256 0 L2 = [wh 256 0 L2] := sv_small L2_wh
 have hW3 := L2_wh
 have hW4 := L2_head
 rw [e1]
 generalize wh 256 0 L2 = W at *
 obtain ⟨pb, po, _, hpv, hs0, hrp⟩ := hN.elem (i := 0) (by simp)
 obtain ⟨DW, hDW⟩ : ∃ DW, DW = sum W := ⟨_, rfl⟩
 have hDl : DW.length = 32 := by rw [hDW]; exact length_sum _
 rw [← hDW] at hW1 ⊢
 have hW5 : 0 < W.length := by obtain ⟨b, hb⟩ := hW4; rw [hb]; simp
 have hW6 : ((W[0].toNat : Nat) : Int) = 2 := by
  obtain ⟨b, hb⟩ := hW4
  have : W[0]? = some 2 := by rw [hb]; rfl
  rw [List.getElem?_eq_getElem hW5] at this
  rw [Option.some.inj this]; rfl
 obtain ⟨qb, qo, qc, hqv, _⟩ := SlM.ptr1 hs0 hW5 (by decide)
 cases hpv
 have hqv : pv = .slice (some ⟨qb, qo, none⟩) W.length qc := hqv
 subst hqv
 refine wl_val (v_move' (by conv => (lhs; whnf))) rfl ?_
 refine wl_val (v_extract rfl rfl) rfl ?_
 refine wl_val (v_extract rfl rfl) rfl ?_
 refine wl_alloc TF.z28 st rfl ?_
 intro b2 w st
 refine wl_storeW (cs := (bs (DW)).toArray) 0 st rfl TF.t28 rfl rfl (by rw [List.size_toArray, length_bs, hDl]) rfl (one_bs _) ?_
 intro w st
 refine wl_val (v_assign' (by conv => (lhs; whnf))) rfl ?_
 refine wl_nil ?_
 refine then_go ?_
 refine wc_seq ?_
 refine wc_region ?_
 refine wl_val (v_load rfl (st.reads (v := arr (DW)) 0 rfl TF.t28 (getV_all (by rw [List.size_toArray, length_bs, hDl])))) rfl ?_
 refine wl_val (v_move' (by conv => (lhs; whnf))) rfl ?_
 have hNl : ∀ x ∈ [((W : By), Value.slice (some ⟨qb, qo, none⟩) W.length qc)], x.1.length ≤ 1000000000 := fun x hx => by rw [List.mem_singleton.1 hx]; exact Nat.le_trans hW3 (by decide)
 refine wl_call rfl (c_load st.im (hDl) hN hNl (by simp) (by rw [hDW, one_ld hW2 L2_fine.1 L2_fine.2.1 L2_d32]; decide)) rfl ?_
 rintro v25 w ⟨t25, m5, hg5, hi5, hv25⟩
 have st := st.grown hg5 t25 hi5
 unfold LdOut at hv25
 rw [hDW, one_ld hW2 L2_fine.1 L2_fine.2.1 L2_d32, if_neg (by decide), L2_of, e1, if_pos rfl] at hv25
 obtain ⟨p2, rfl, hp2⟩ := hv25
 have hN := hN.mono hg5.le
 have hp := hp.mono hg5.le
 refine wl_val (v_move' (by conv => (lhs; whnf))) rfl ?_
 refine wl_val (v_extract rfl rfl) rfl ?_
 refine wl_val (v_extract rfl rfl) rfl ?_
 refine wl_val (v_assign' (by conv => (lhs; whnf))) rfl ?_
 refine wl_val (v_assign' (by conv => (lhs; whnf))) rfl ?_
 refine wl_nil ?_
 refine then_go ?_
 refine wc_seq ?_
 refine wc_region ?_
 refine wl_val (v_build_a (c' := (bs z32).toArray) [] TF.z28 Try.underlying28 TF.t5 rfl rfl) rfl ?_
 refine wl_val (v_move' (by conv => (lhs; whnf))) rfl ?_
 refine wl_call rfl (c_load (d := z32) st.im rfl hN hNl (by simp) (by rw [one_no (hDW ▸ hW1)]; decide)) rfl ?_
 rintro v31 w ⟨t31, m6, hg6, hi6, hv31⟩
 have st := st.grown hg6 t31 hi6
 unfold LdOut at hv31
 rw [one_no (hDW ▸ hW1), if_pos (by decide)] at hv31
 subst hv31
 have hN := hN.mono hg6.le
 have hp := hp.mono hg6.le
 have hp2 := hp2.mono hg6.le
 obtain ⟨_, _, _, hpv2, hs0, hrp⟩ := hN.elem (i := 0) (by simp)
 cases hpv2
 refine wl_val (v_move' (by conv => (lhs; whnf))) rfl ?_
 refine wl_val (v_extract rfl rfl) rfl ?_
 refine wl_val (v_extract rfl rfl) rfl ?_
 refine wl_val (v_assign' (by conv => (lhs; whnf))) rfl ?_
 refine wl_val (v_assign' (by conv => (lhs; whnf))) rfl ?_
 refine wl_nil ?_
 refine then_go ?_
 refine wc_seq ?_
 refine wc_region ?_
 refine wl_val (v_move' (by conv => (lhs; whnf))) rfl ?_
 refine wl_val (v_len_s Try.underlying29 rfl) rfl ?_
 refine wl_val (v_eqlT (by simp) rfl rfl) rfl ?_
 refine wl_val (v_move' (by conv => (lhs; whnf))) rfl ?_
 refine wl_on rfl rfl ?_
 refine wl_val (v_move' (by conv => (lhs; whnf))) rfl ?_
 refine wl_on rfl rfl ?_
 refine wl_val (v_ias 0 Try.underlying29 TF.t37 rfl rfl (by first | rfl | omega) (by simp)) rfl ?_
 refine wl_on rfl rfl ?_
 refine wl_val (v_load rfl (hrp st.im)) rfl ?_
 refine wl_on rfl rfl ?_
 refine wl_val (v_ias 0 Try.underlying37 TF.t5 rfl rfl (by first | rfl | omega) hW5) rfl ?_
 refine wl_on rfl rfl ?_
 refine wl_val (v_load rfl (SlM.rdB TF.t5 0 hs0 hW5 st.im)) rfl ?_
 refine wl_on rfl rfl ?_
 refine wl_val (v_eqlT hW6 rfl rfl) rfl ?_
 refine wl_val (v_pick rfl) rfl ?_
 refine wl_val (v_move' (by conv => (lhs; whnf))) rfl ?_
 refine wl_on rfl rfl ?_
 refine wl_val (v_move' (by conv => (lhs; whnf))) rfl ?_
 refine wl_on rfl rfl ?_
 refine wl_val (v_eqlT rfl rfl rfl) rfl ?_
 refine wl_val (v_pick rfl) rfl ?_
 refine wl_val (v_move' (by conv => (lhs; whnf))) rfl ?_
 refine wl_on rfl rfl ?_
 refine wl_val (v_move' (by conv => (lhs; whnf))) rfl ?_
 refine wl_on rfl rfl ?_
 refine wl_val (v_ne_nil Try.underlying25 rfl rfl) rfl ?_
 refine wl_val (v_pick rfl) rfl ?_
 refine wl_val (v_move' (by conv => (lhs; whnf))) rfl ?_
 refine wl_on rfl rfl ?_
 refine wl_val (v_move' (by conv => (lhs; whnf))) rfl ?_
 refine wl_on rfl rfl ?_
 refine wl_call rfl (c_troot st.im hp2) rfl ?_
 rintro v55 w ⟨t55, rfl⟩
 have st := st.pure t55
 refine wl_on rfl rfl ?_
 refine wl_val (v_move' (by conv => (lhs; whnf))) rfl ?_
 refine wl_on rfl rfl ?_
 refine wl_call rfl (c_troot st.im hp) rfl ?_
 rintro v57 w ⟨t57, rfl⟩
 have st := st.pure t57
 refine wl_on rfl rfl ?_
 refine wl_val (wl_valD (v_eq_arr Try.underlying28 TF.t5 Try.underlying5 TF.e28 rfl rfl (length_root _) (length_root _)) (decide_eq_true rfl)) rfl ?_
 refine wl_val (v_pick rfl) rfl ?_
 refine wl_val (v_move' (by conv => (lhs; whnf))) rfl ?_
 refine wl_on rfl rfl ?_
 refine wl_val (v_move' (by conv => (lhs; whnf))) rfl ?_
 refine wl_on rfl rfl ?_
 refine wl_val (v_eqlT rfl rfl rfl) rfl ?_
 refine wl_val (v_pick rfl) rfl ?_
 refine wl_val (v_assign' (by conv => (lhs; whnf))) rfl ?_
 refine wl_nil ?_
 refine then_go ?_
 refine wc_ret ?_
 exact ret1 rfl ⟨(st.keepOnly (l := []) (List.nil_sublist _)).touch, rfl⟩
end
end Go.Proofs.Ytonlmjpenonabaa

namespace Go.Proofs.Ytonlmjpenonabaa
open Go Go.RowKit K SH
theorem fill_ones {z : Value} (hz : z.oneCell' = true) : ∀ (vs pre : List Value), (∀ v ∈ vs, v.oneCell' = true) →
  FillR (fun i => some (i * 1, 1)) (pre ++ List.replicate vs.length z).toArray ((vs.zipIdx pre.length).map fun p : Value × Nat => (p.2, p.1)) (pre ++ vs).toArray
 | [], pre, _ => by simp [FillR]
 | v :: vs, pre, h => by
  have hv := h v (by simp)
  simp only [List.zipIdx_cons, List.map_cons]
  refine fill_one pre [z] (List.replicate vs.length z) (by simp [List.replicate_succ]) (by simp) (by rw [cells_one hv]; rfl) ?_
  rw [cells_one hv]
  have ih := fill_ones hz vs (pre ++ [v]) fun u hu => h u (by simp [hu])
  simpa using ih
section
variable {P : Program} {n : Nat} {ops : Array Oper} {Q : Po} {rest : List Oper} {r : Fr} {w : World} {d : Nat} {ty : TypeId} {pos : String} {after : Array Edge} {m0 m : Mem} {F : List Nat} {w0 : World} {Es : List Ent}
theorem wl_pcsN {k : Nat} {parts : Array (Nat × Operand)} (L : List (List UInt8 × Value)) (st : St m0 m [] w0 w Es) (hk : L.length = k) (hk0 : 0 < k) (hk1 : k ≤ 1000) (hvs : (parts.toList.map fun p => (p.1, ev r p.2)) = ((L.map fun x => x.2).zipIdx.map fun p : Value × Nat => (p.2, p.1)))
  (hL : ∀ x ∈ L, SlM m x.2 1 x.1.length (bs x.1)) (hd : Nat.blt d n = true)
  (kk : ∀ m' v' w', (∀ k o, m k = some o → m' k = some o) → St m0 m' [] w0 w' Es → PcsM m' v' L → WL Try.prog n ops Q rest (upd d v' r) w') :
  WL Try.prog n ops Q (⟨some d, .buildSlice 29 k parts, ty, pos, after, none⟩ :: rest) r w := by
 have hone : ∀ v ∈ L.map (·.2), v.oneCell' = true := by
  intro v hv
  obtain ⟨x, hx, rfl⟩ := List.mem_map.1 hv
  obtain ⟨_, a, c, h, _⟩ := hL x hx
  rw [h]
  rfl
 have hfill := fill_ones (z := .slice none 0 0) rfl (L.map (·.2)) [] hone
 refine wl_buildSlice (c' := (L.map (·.2)).toArray) _ Try.underlying29 TF.t37 TF.z37 (by omega) (by omega) hvs ?_ st hd ?_
 ·have e : madeCells (Value.slice none 0 0).cells (k * 1) = ([] ++ List.replicate (L.map fun x : List UInt8 × Value => x.2).length (Value.slice none 0 0)).toArray := by
   rw [show (Value.slice none 0 0).cells = Array.replicate (0 + 1) (Value.slice none 0 0) from rfl, madeCells_rep]
   simp [hk]
  rw [e]
  exact hfill
 ·intro b w' st'
  obtain ⟨m1, hg1, hm1, st1⟩ := st'.freeze (i := 0) rfl (by simp)
  refine kk m1 _ w' hg1.le st1 ⟨?_, fun z hz => (hL z hz).mono hg1.le⟩
  rw [← hk]
  exact SlM.of hm1 (by simp) (Nat.le_refl _) (fun j u hj => by simpa using hj)
variable {T U : TypeId} {x y : Operand}
end
section
variable {m : Mem} {wI : World}
structure Rt where
 epoch : UInt64
 prev : List UInt8
 tree : List UInt8
 next : List UInt8
deriving DecidableEq
def Rt.ok (t : Rt) : Prop := t.prev.length = 32 ∧ t.tree.length = 32 ∧ t.next.length = 32
end
end Go.Proofs.Ytonlmjpenonabaa

namespace Go.Proofs.Ytonlmjpenonabaa
open Go Go.RowKit K SH PT
theorem wh_len : ∀ {g d : Nat} {L : List (By × By)}, D32p L → (wh g d L).length ≤ 1 + (66 + 2 * g) * L.length
 | g, d, [], _ => by rw [wh_nil]; simp
 | g, d, [x], h => by rw [wh_one]; have := h x (by simp); simp [this.1, this.2]; omega
 | 0, d, x :: y :: l, _ => Nat.le_add_right 1 _
 | g + 1, d, x :: y :: l, h => by
  rw [wh_halves (by simp)]
  have h1 := wh_len (g := g) (d := d + 1) (h.half (d := d) (b := false))
  have h2 := wh_len (g := g) (d := d + 1) (h.half (d := d) (b := true))
  have h3 : (halfL (x :: y :: l) d false).length + (halfL (x :: y :: l) d true).length = (x :: y :: l).length := by
   have q0 : halfL (x :: y :: l) d false = (x :: y :: l).filter fun x => !bitI x.1 d := List.filter_congr fun x _ => by cases bitI x.1 d <;> rfl
   have q1 : halfL (x :: y :: l) d true = (x :: y :: l).filter fun x => bitI x.1 d := List.filter_congr fun x _ => by cases bitI x.1 d <;> rfl
   rw [q0, q1]
   exact length_split (fun x : By × By => bitI x.1 d) _
  have e2 : (66 + 2 * g) * (halfL (x :: y :: l) d false).length + (66 + 2 * g) * (halfL (x :: y :: l) d true).length = (66 + 2 * g) * (x :: y :: l).length := by rw [← Nat.mul_add, h3]
  have e3 : (66 + 2 * (g + 1)) * (x :: y :: l).length = (66 + 2 * g) * (x :: y :: l).length + 2 * (x :: y :: l).length := by rw [← Nat.add_mul]; congr 1
  have e4 : 2 ≤ (x :: y :: l).length := by simp
  omega
theorem wh_le9 {g d : Nat} {L : List (By × By)} (h : D32p L) (hg : g ≤ 256) (hL : L.length ≤ 1000000) : (wh g d L).length ≤ 1000000000 := by
 have := wh_len (g := g) (d := d) h
 have h2 : (66 + 2 * g) * L.length ≤ 578 * 1000000 := Nat.mul_le_mul (by omega) hL
 omega
theorem DigM.sl1 {m : Mem} {b o k cap i : Nat} {L : List By} (h : DigM m (.slice (some ⟨b, o, none⟩) k cap) L) (hi : i < L.length) : SlM m (.slice (some ⟨b, o + i * 32 + 0 * 1, none⟩) (32 - 0) (32 - 0)) 1 L[i].length (bs L[i]) := by
 have hl : L[i].length = 32 := h.1 _ (List.getElem_mem hi)
 obtain ⟨_, a', c', he, _, _, hc⟩ := h.2
 cases he
 rw [hl]
 refine ⟨by rw [length_bs, hl], _, _, rfl, Nat.le_refl _, by simp, fun j u hj => ?_⟩
 have hj32 : j < 32 := by
  rcases Nat.lt_or_ge j 32 with h' | h'
  ·exact h'
  ·rw [List.getElem?_eq_none (by rw [length_bs, hl]; exact h')] at hj; cases hj
 have e := cells_digs h.1 hi
 have e2 : (digs L)[i * 32 + j]? = some u := by
  rw [← e] at hj
  simp only [cellsAt] at hj
  rw [List.getElem?_take_of_lt hj32, List.getElem?_drop] at hj
  exact hj
 obtain ⟨b', o', c, t, fr, e3, e4, e5⟩ := hc _ _ e2
 cases e3
 exact ⟨b, _, c, t, fr, rfl, e4, by rw [show o + i * 32 + 0 * 1 + j = o + (i * 32 + j) by omega]; exact e5⟩
section
variable {m : Mem} {wI : World}
theorem c_half17 {lv : Value} {L : List (By × By)} {d : Int} {on : Bool} (him : Im m wI) (hl : LvM m lv L) (hL : L.length ≤ 1099511627776) :
  Ret Try.prog 35 #[lv, .int .i64 d, .bool on] wI fun v w' => Out m wI w' fun m' => LvM m' v (halfL L d on) := by
 have st := St.start him
 obtain ⟨a1, c1, a2, c2, rfl, h1, h2⟩ := hl.open
 have hd1 : ∀ M : List (By × By), M ⊆ L → D32 (M.map (·.1)) := fun M hM x hx => by
  obtain ⟨y, hy, rfl⟩ := List.mem_map.1 hx
  exact h1.1 _ (List.mem_map.2 ⟨y, hM hy, rfl⟩)
 have hd2 : ∀ M : List (By × By), M ⊆ L → D32 (M.map (·.2)) := fun M hM x hx => by
  obtain ⟨y, hy, rfl⟩ := List.mem_map.1 hx
  exact h2.1 _ (List.mem_map.2 ⟨y, hM hy, rfl⟩)
 refine ret_of Try.call35 Try.func35 rfl Try.ntmps35 Try.results35 rfl ?_
 refine wc_seq ?_
 refine wc_region ?_
 refine wl_box (v := .agg #[.slice a1 L.length c1, .slice a2 L.length c2]) rfl st rfl ?_
 intro b3 w st
 refine wl_alloc TF.z34 st rfl ?_
 intro b6 w st
 refine wl_nil ?_
 refine then_go ?_
 refine wc_seq ?_
 refine wc_region ?_
 refine wl_val (v_build (c' := #[.slice none 0 0, .slice none 0 0]) [] TF.z34 TF.p34 rfl rfl) rfl ?_
 refine wl_alloc TF.z34 st rfl ?_
 intro b7 w st
 refine wl_storeW (cs := #[.slice none 0 0, .slice none 0 0]) 0 st rfl TF.t34 rfl rfl rfl rfl (by simp [Value.oneCell']) ?_
 intro w st
 refine wl_nil ?_
 refine then_go ?_
 refine wc_seq ?_
 refine wc_seq ?_
 refine wc_region ?_
 refine wl_val (v_assign' (by conv => (lhs; whnf))) rfl ?_
 refine wl_nil ?_
 refine then_go ?_
 refine wc_block ?_
 have st := st.nilDig.nilDig
 refine wc_loop (S := Nat) (fun q r w' => ∃ (i : Nat) (v1 v2 : Value), q + i = L.length ∧ r 1 = .int .i64 d ∧ r 2 = .bool on ∧ r 3 = .pointer (some ⟨b3, 0, none⟩) ∧ r 6 = .pointer (some ⟨b6, 0, none⟩) ∧ r 7 = .pointer (some ⟨b7, 0, none⟩) ∧ r 8 = .int .i64 i ∧ St m m [] wI w' [digE v1 ((halfL (L.take i) d on).map (·.1)), digE v2 ((halfL (L.take i) d on).map (·.2)), K.blk b7 #[v1, v2] 34, K.blk b6 #[.slice none 0 0, .slice none 0 0] 34, K.blk b3 #[.slice a1 L.length c1, .slice a2 L.length c2] 34]) id L.length ⟨0, _, _, by omega, rfl, rfl, rfl, rfl, rfl, rfl, st⟩ ?_
 rintro q r w2 ⟨i, v1, v2, hqi, g1, g2, g3, g6, g7, g8, st⟩
 refine wc_o 1 g1 (wc_o 2 g2 (wc_o 3 g3 (wc_o 6 g6 (wc_o 7 g7 (wc_o 8 g8 ?_)))))
 refine wc_seq ?_
 refine wc_seq ?_
 refine wc_region ?_
 refine wl_val (v_move' (by conv => (lhs; whnf))) rfl ?_
 refine wl_val (v_fa TF.f34_0 rfl) rfl ?_
 refine wl_val (v_load rfl (st.reads 4 rfl TF.t22 rfl)) rfl ?_
 refine wl_val (v_len_s Try.underlying22 rfl) rfl ?_
 refine wl_val (v_lss rfl rfl) rfl ?_
 refine wl_nil ?_
 refine then_go ?_
 refine wc_if rfl (fun h14 => ?_) (fun h14 => ?_)
 ·refine wc_skip ?_
  refine then_go ?_
  refine wc_seq ?_
  refine wc_block ?_
  refine wc_seq ?_
  have hi : i < L.length := by omega
  have hm1 : i < (L.map (·.1)).length := by rw [List.length_map]; exact hi
  have hm2 : i < (L.map (·.2)).length := by rw [List.length_map]; exact hi
  have hle := halfL_le (L := L.take i) (d := d) (on := on)
  have htl : (L.take i).length ≤ L.length := by simp; omega
  have e1 : (L.map (·.1))[i] = L[i].1 := by simp
  have e2 : (L.map (·.2))[i] = L[i].2 := by simp
  have l1 : L[i].1.length = 32 := by rw [← e1]; exact h1.1.get hm1
  have l2 : L[i].2.length = 32 := by rw [← e2]; exact h2.1.get hm2
  have htk := halfL_take (d := d) (on := on) hi
  obtain ⟨ba, oa, hba⟩ := h1.ptr (by omega)
  obtain ⟨bv, ov, hbv⟩ := h2.ptr (by omega)
  subst hba
  subst hbv
  refine wc_region ?_
  refine wl_val (v_fa TF.f34_0 rfl) rfl ?_
  refine wl_val (v_load rfl (st.reads 4 rfl TF.t22 rfl)) rfl ?_
  refine wl_val (v_move' (by conv => (lhs; whnf))) rfl ?_
  refine wl_val (v_ias i Try.underlying22 TF.t28 rfl rfl (by first | rfl | omega) (by first | omega | (dsimp only at *; omega))) rfl ?_
  refine wl_val (v_load rfl (h1.rd rfl hm1 e1 st.im)) rfl ?_
  refine wl_val (v_move' (by conv => (lhs; whnf))) rfl ?_
  refine wl_call rfl (c_rbit st.im l1) rfl ?_
  rintro v23 w ⟨t23, rfl⟩
  have st := st.pure t23
  refine wl_val (v_move' (by conv => (lhs; whnf))) rfl ?_
  refine wl_val (v_eqb Try.underlying4 rfl rfl) rfl ?_
  refine wl_nil ?_
  refine then_go ?_
  refine wc_cond rfl (fun h25 => ?_) (fun h25 => ?_)
  ·refine wc_seq ?_
   refine wc_draw TF.mixed ?_
   have st := st.pure (touch_drew _)
   refine fl_val 0 rfl (fun _ => (v_fa TF.f34_0 rfl)) rfl (by kernel_rfl) ?_
   refine fl_ld 1 rfl (v_load rfl (by first | exact st.reads 2 rfl TF.t22 rfl | exact st.reads 3 rfl TF.t22 rfl)) (by kernel_rfl) ?_
   refine fl_val 2 rfl (fun _ => (v_fa TF.f34_0 rfl)) rfl (by kernel_rfl) ?_
   refine fl_ld 3 rfl (v_load rfl (by first | exact st.reads 4 rfl TF.t22 rfl | exact st.reads 5 rfl TF.t22 rfl)) (by kernel_rfl) ?_
   refine fl_val 4 rfl (fun _ => (v_move' (by conv => (lhs; whnf)))) rfl (by kernel_rfl) ?_
   refine fl_val 5 rfl (fun _ => (v_ias i Try.underlying22 TF.t28 rfl rfl (by first | rfl | omega) (by first | omega | (dsimp only at *; omega)))) rfl (by kernel_rfl) ?_
   refine fl_ld 6 rfl (v_load rfl (h1.rd rfl hm1 e1 st.im)) (by kernel_rfl) ?_
   refine fl_eff1 7 [5, 4, 2, 0] [3, 1] (by kernel_rfl) ⟨obl_ld rfl rfl rfl (v_load rfl (h1.rd rfl hm1 e1 st.im)), obl_ld rfl rfl rfl (v_load rfl (by first | exact st.reads 4 rfl TF.t22 rfl | exact st.reads 5 rfl TF.t22 rfl)), obl_ld rfl rfl rfl (v_load rfl (by first | exact st.reads 2 rfl TF.t22 rfl | exact st.reads 3 rfl TF.t22 rfl)), trivial⟩ rfl ?_
   refine wl_digOne _ l1 rfl st rfl ?_
   intro b33 w st
   refine wl_nil ⟨rfl, ?_⟩
   refine fl_eff1 8 [5, 4, 2, 0] [3] (by kernel_rfl) ⟨obl_ld rfl rfl rfl (v_load rfl (by first | exact st.reads 4 rfl TF.t22 rfl | exact st.reads 5 rfl TF.t22 rfl)), obl_ld rfl rfl rfl (v_load rfl (by first | exact st.reads 2 rfl TF.t22 rfl | exact st.reads 3 rfl TF.t22 rfl)), trivial⟩ rfl ?_
   refine wl_digApp 0 st rfl l1 rfl rfl (by rw [List.length_map]; omega) rfl ?_
   intro v1' w st hv1
   refine wl_nil ⟨rfl, ?_⟩
   refine fl_val 9 rfl (fun _ => (v_fa TF.f34_0 rfl)) rfl (by kernel_rfl) ?_
   refine fl_eff1 10 [] [] (by kernel_rfl) ⟨obl_ld rfl rfl rfl (v_load rfl (by first | exact st.reads 4 rfl TF.t22 rfl | exact st.reads 5 rfl TF.t22 rfl)), trivial⟩ rfl ?_
   refine wl_store1 2 st rfl TF.t22 rfl (by conv => (lhs; whnf)) hv1 (by first | exact lt_ok rfl | decide | simp) ?_
   intro w st
   refine wl_nil ⟨rfl, ?_⟩
   refine fl_nil (by kernel_rfl) trivial ?_
   refine then_go ?_
   refine wc_draw TF.mixed ?_
   have st := st.pure (touch_drew _)
   refine fl_val 0 rfl (fun _ => (v_fa TF.f34_1 rfl)) rfl (by kernel_rfl) ?_
   refine fl_ld 1 rfl (v_load rfl (by first | exact st.reads 2 rfl TF.t22 rfl | exact st.reads 3 rfl TF.t22 rfl)) (by kernel_rfl) ?_
   refine fl_val 2 rfl (fun _ => (v_fa TF.f34_1 rfl)) rfl (by kernel_rfl) ?_
   refine fl_ld 3 rfl (v_load rfl (by first | exact st.reads 4 rfl TF.t22 rfl | exact st.reads 5 rfl TF.t22 rfl)) (by kernel_rfl) ?_
   refine fl_val 4 rfl (fun _ => (v_move' (by conv => (lhs; whnf)))) rfl (by kernel_rfl) ?_
   refine fl_val 5 rfl (fun _ => (v_ias i Try.underlying22 TF.t28 rfl rfl (by first | rfl | omega) (by first | omega | (dsimp only at *; omega)))) rfl (by kernel_rfl) ?_
   refine fl_ld 6 rfl (v_load rfl (h2.rd rfl hm2 e2 st.im)) (by kernel_rfl) ?_
   refine fl_eff1 7 [5, 4, 2, 0] [3, 1] (by kernel_rfl) ⟨obl_ld rfl rfl rfl (v_load rfl (h2.rd rfl hm2 e2 st.im)), obl_ld rfl rfl rfl (v_load rfl (by first | exact st.reads 4 rfl TF.t22 rfl | exact st.reads 5 rfl TF.t22 rfl)), obl_ld rfl rfl rfl (v_load rfl (by first | exact st.reads 2 rfl TF.t22 rfl | exact st.reads 3 rfl TF.t22 rfl)), trivial⟩ rfl ?_
   refine wl_digOne _ l2 rfl st rfl ?_
   intro b43 w st
   refine wl_nil ⟨rfl, ?_⟩
   refine fl_eff1 8 [5, 4, 2, 0] [3] (by kernel_rfl) ⟨obl_ld rfl rfl rfl (v_load rfl (by first | exact st.reads 4 rfl TF.t22 rfl | exact st.reads 5 rfl TF.t22 rfl)), obl_ld rfl rfl rfl (v_load rfl (by first | exact st.reads 2 rfl TF.t22 rfl | exact st.reads 3 rfl TF.t22 rfl)), trivial⟩ rfl ?_
   refine wl_digApp 1 st rfl l2 rfl rfl (by rw [List.length_map]; omega) rfl ?_
   intro v2' w st hv2
   refine wl_nil ⟨rfl, ?_⟩
   refine fl_val 9 rfl (fun _ => (v_fa TF.f34_1 rfl)) rfl (by kernel_rfl) ?_
   refine fl_eff1 10 [] [] (by kernel_rfl) ⟨obl_ld rfl rfl rfl (v_load rfl (by first | exact st.reads 4 rfl TF.t22 rfl | exact st.reads 5 rfl TF.t22 rfl)), trivial⟩ rfl ?_
   refine wl_store1 2 st rfl TF.t22 rfl (by conv => (lhs; whnf)) hv2 (by first | exact lt_ok rfl | decide | simp) ?_
   intro w st
   refine wl_nil ⟨rfl, ?_⟩
   refine fl_nil (by kernel_rfl) trivial ?_
   refine block_go (then_go ?_)
   refine wc_region ?_
   refine wl_val (v_move' (by conv => (lhs; whnf))) rfl ?_
   refine wl_val (v_add' rfl rfl rfl (by first | omega | (dsimp only at *; omega)) (by first | omega | (dsimp only at *; omega))) rfl ?_
   refine wl_val (v_assign' (by conv => (lhs; whnf))) rfl ?_
   refine wl_nil ?_
   refine then_go ?_
   rw [if_pos h25] at htk
   refine ⟨q - 1, by simp; omega, i + 1, v1', v2', by omega, rfl, rfl, rfl, rfl, rfl, rfl, ?_⟩
   rw [htk, List.map_append, List.map_append]
   exact st
  ·refine wc_skip ?_
   refine block_go (then_go ?_)
   refine wc_region ?_
   refine wl_val (v_move' (by conv => (lhs; whnf))) rfl ?_
   refine wl_val (v_add' rfl rfl rfl (by first | omega | (dsimp only at *; omega)) (by first | omega | (dsimp only at *; omega))) rfl ?_
   refine wl_val (v_assign' (by conv => (lhs; whnf))) rfl ?_
   refine wl_nil ?_
   refine then_go ?_
   rw [if_neg (by rw [h25]; simp), List.append_nil] at htk
   refine ⟨q - 1, by simp; omega, i + 1, v1, v2, by omega, rfl, rfl, rfl, rfl, rfl, rfl, ?_⟩
   rw [htk]
   exact st
 ·refine wc_exit (then_exit (then_exit (block_hit ?_)))
  refine then_go ?_
  refine wc_seq ?_
  refine wc_region ?_
  refine wl_val (v_load rfl (st.reads 2 rfl TF.t34 (getV_all rfl))) rfl ?_
  refine wl_storeW (cs := #[v1, v2]) 3 st rfl TF.t34 rfl rfl rfl rfl ?_ ?_
  ·intro u hu
   simp at hu
   rcases hu with rfl | rfl
   ·exact row_one (st.at (i := 0) rfl)
   ·exact row_one (st.at (i := 1) rfl)
  intro w st
  refine wl_nil ?_
  refine then_go ?_
  refine wc_ret ?_
  have hiL : i = L.length := by omega
  subst hiL
  rw [List.take_length] at st
  have hrd := st.reads (v := .agg #[v1, v2]) 3 rfl TF.t34 (getV_all rfl)
  obtain ⟨m1, hg1, hq1, st⟩ := st.keepDig (i := 0) rfl (hd1 _ List.filter_sublist.subset)
  obtain ⟨m2, hg2, hq2, st⟩ := st.keepDig (i := 0) rfl (hd2 _ List.filter_sublist.subset)
  exact ret1c rfl hrd ((st.keepOnly (l := []) (List.nil_sublist _)).out ⟨_, _, rfl, hq1.mono hg2.le, hq2⟩)
def WhC (g : Nat) : Prop := ∀ {d : Nat} {L : List (By × By)} {lv : Value} {m : Mem} {w : World}, Im m w → LvM m lv L → D32p L → Dst d L → g + d = 256 → L.length ≤ 1000000 →
 Ret Try.prog 34 #[lv, .int .i64 d] w fun v' w' => Out m w w' fun m' => SlM m' v' 1 (wh g d L).length (bs (wh g d L))
theorem c_whole0 {g d : Nat} {L : List (By × By)} {lv : Value} (ih : ∀ g', g = g' + 1 → WhC g') (him : Im m wI) (hl : LvM m lv L) (hdp : D32p L) (hD : Dst d L) (hgd : g + d = 256) (hL : L.length ≤ 1000000) :
  Ret Try.prog 34 #[lv, .int .i64 d] wI fun v' w' => Out m wI w' fun m' => SlM m' v' 1 (wh g d L).length (bs (wh g d L)) := by
 have st := St.start him
 obtain ⟨a1, c1, a2, c2, rfl, h1, h2⟩ := hl.open
 refine ret_of Try.call34 Try.func34 rfl Try.ntmps34 Try.results34 rfl ?_
 refine wc_seq ?_
 refine wc_region ?_
 refine wl_box (v := .agg #[.slice a1 L.length c1, .slice a2 L.length c2]) rfl st rfl ?_
 intro b2 w st
 refine wl_val (v_assign' (by conv => (lhs; whnf))) rfl ?_
 refine wl_nil ?_
 refine then_go ?_
 refine wc_seq ?_
 refine wc_seq ?_
 refine wc_region ?_
 refine wl_val (v_fa TF.f34_0 rfl) rfl ?_
 refine wl_val (v_load rfl (st.reads 0 rfl TF.t22 rfl)) rfl ?_
 refine wl_val (v_len_s Try.underlying22 rfl) rfl ?_
 refine wl_val (v_eql rfl rfl) rfl ?_
 refine wl_nil ?_
 refine then_go ?_
 refine wc_if rfl (fun h8 => ?_) (fun h8 => ?_)
 ·refine wc_seq ?_
  refine wc_region ?_
  refine wl_byteR 0 Try.underlying37 TF.t5 TF.z5 rfl st rfl ?_
  intro b13 w st
  refine wl_val (v_assign' (by conv => (lhs; whnf))) rfl ?_
  refine wl_nil ?_
  refine then_go ?_
  refine wc_ret (then_ret ?_)
  have hL0 : L = [] := List.eq_nil_of_length_eq_zero (by omega)
  subst hL0
  rw [wh_nil]
  exact ret1 rfl st.bytesOut
 ·refine wc_skip ?_
  refine then_go ?_
  refine wc_seq ?_
  refine wc_seq ?_
  refine wc_region ?_
  refine wl_val (v_fa TF.f34_0 rfl) rfl ?_
  refine wl_val (v_load rfl (st.reads 0 rfl TF.t22 rfl)) rfl ?_
  refine wl_val (v_len_s Try.underlying22 rfl) rfl ?_
  refine wl_val (v_eql rfl rfl) rfl ?_
  refine wl_nil ?_
  refine then_go ?_
  refine wc_if rfl (fun h13 => ?_) (fun h13 => ?_)
  ·refine wc_seq ?_
   have hx0 : 0 < L.length := by omega
   obtain ⟨hx1, hx2⟩ := hdp _ (List.getElem_mem hx0)
   have hLx : L = [L[0]] := by
    match L, hx0, h13 with
    | [x], _, _ => rfl
    | x :: y :: l, _, h => simp at h; omega
   obtain ⟨b1, o1, hb1⟩ := h1.ptr (by rw [List.length_map]; exact hx0)
   obtain ⟨b2', o2, hb2⟩ := h2.ptr (by rw [List.length_map]; exact hx0)
   subst hb1
   subst hb2
   have s1 := h1.sl1 (i := 0) (by rw [List.length_map]; exact hx0)
   have s2 := h2.sl1 (i := 0) (by rw [List.length_map]; exact hx0)
   rw [List.getElem_map] at s1 s2
   refine wc_draw TF.mixed ?_
   have st := st.pure (touch_drew _)
   refine fl_val 1 rfl (fun _ => (v_fa TF.f34_0 rfl)) rfl (by kernel_rfl) ?_
   refine fl_ld 2 rfl (v_load rfl (by first | exact st.reads 0 rfl TF.t22 rfl | exact st.reads 1 rfl TF.t22 rfl)) (by kernel_rfl) ?_
   refine fl_val 3 rfl (fun _ => (v_ias 0 Try.underlying22 TF.t28 rfl rfl (by first | rfl | omega) (by first | omega | (dsimp only at *; omega)))) rfl (by kernel_rfl) ?_
   refine fl_val 4 rfl (fun _ => (v_sla 0 32 Try.underlying28 TF.t5 rfl rfl rfl (by omega) (by omega) (by omega))) rfl (by kernel_rfl) ?_
   refine fl_val 5 rfl (fun _ => (v_fa TF.f34_1 rfl)) rfl (by kernel_rfl) ?_
   refine fl_ld 6 rfl (v_load rfl (by first | exact st.reads 0 rfl TF.t22 rfl | exact st.reads 1 rfl TF.t22 rfl)) (by kernel_rfl) ?_
   refine fl_val 7 rfl (fun _ => (v_ias 0 Try.underlying22 TF.t28 rfl rfl (by first | rfl | omega) (by first | omega | (dsimp only at *; omega)))) rfl (by kernel_rfl) ?_
   refine fl_val 8 rfl (fun _ => (v_sla 0 32 Try.underlying28 TF.t5 rfl rfl rfl (by omega) (by omega) (by omega))) rfl (by kernel_rfl) ?_
   refine fl_eff1 0 [8, 7, 5, 4, 3, 1] [6, 2] (by kernel_rfl) ⟨obl_ld rfl rfl rfl (v_load rfl (by first | exact st.reads 0 rfl TF.t22 rfl | exact st.reads 1 rfl TF.t22 rfl)), obl_ld rfl rfl rfl (v_load rfl (by first | exact st.reads 0 rfl TF.t22 rfl | exact st.reads 1 rfl TF.t22 rfl)), trivial⟩ rfl ?_
   refine wl_byte1 1 Try.underlying37 TF.t5 TF.z5 rfl st rfl ?_
   intro b14 w st
   obtain ⟨m1, hg1, hm1, st⟩ := st.freeze (i := 0) rfl (by simp)
   change St _ _ _ _ _ [_] at st
   have hs0 : SlM m1 (.slice (some ⟨b14, 0, none⟩) 1 1) 1 ([1] : By).length (bs [1]) := SlM.ofBlock (pre := []) (post := []) hm1 (by simp) rfl (Nat.le_refl _)
   have s1 := s1.mono hg1.le
   have s2 := s2.mono hg1.le
   refine wl_nil ⟨rfl, ?_⟩
   refine fl_eff1 9 [7, 5, 3, 1] [6, 2] (by kernel_rfl) ⟨obl_ld rfl rfl rfl (v_load rfl (by first | exact st.reads 0 rfl TF.t22 rfl | exact st.reads 1 rfl TF.t22 rfl)), obl_ld rfl rfl rfl (v_load rfl (by first | exact st.reads 0 rfl TF.t22 rfl | exact st.reads 1 rfl TF.t22 rfl)), trivial⟩ rfl ?_
   refine wl_pcsN [(([1] : By), _), (L[0].1, _), (L[0].2, _)] st rfl (by decide) (by decide) rfl (by simp only [List.mem_cons, List.not_mem_nil, or_false]; rintro z (rfl | rfl | rfl) <;> first | exact hs0 | exact s1 | exact s2) rfl ?_
   intro m3 v23 w hle3 st hp3
   refine wl_nil ⟨rfl, ?_⟩
   refine fl_eff1 10 [7, 5, 3, 1] [6, 2] (by kernel_rfl) ⟨obl_ld rfl rfl rfl (v_load rfl (by first | exact st.reads 0 rfl TF.t22 rfl | exact st.reads 1 rfl TF.t22 rfl)), obl_ld rfl rfl rfl (v_load rfl (by first | exact st.reads 0 rfl TF.t22 rfl | exact st.reads 1 rfl TF.t22 rfl)), trivial⟩ rfl ?_
   have hj : ∀ a b c, joinB [(([1] : By), a), (L[0].1, b), (L[0].2, c)] = (1 :: (L[0].1 ++ L[0].2) : By) := fun a b c => by simp [joinB]
   refine wl_call rfl (c_join st.im hp3 (by rw [hj]; simp [hx1, hx2]) (by simp)) rfl ?_
   rintro v24 w ⟨t24, m4, hg4, hi4, hs4⟩
   have st := st.grown hg4 t24 hi4
   rw [hj] at hs4
   refine wl_nil ⟨rfl, ?_⟩
   refine fl_eff1 11 [] [] (by kernel_rfl) ⟨obl_ld rfl rfl rfl (v_load rfl (by first | exact st.reads 0 rfl TF.t22 rfl | exact st.reads 1 rfl TF.t22 rfl)), obl_ld rfl rfl rfl (v_load rfl (by first | exact st.reads 0 rfl TF.t22 rfl | exact st.reads 1 rfl TF.t22 rfl)), trivial⟩ rfl ?_
   refine wl_val (v_assign' (by conv => (lhs; whnf))) rfl ?_
   refine wl_nil ⟨rfl, ?_⟩
   refine fl_nil (by kernel_rfl) trivial ?_
   refine then_go ?_
   refine wc_ret (then_ret ?_)
   rw [hLx, wh_one]
   exact ret1 rfl ((st.keepOnly (l := []) (List.nil_sublist _)).out hs4)
  ·refine wc_skip ?_
   refine then_go ?_
   refine wc_seq ?_
   have h2L : 2 ≤ L.length := by omega
   obtain ⟨g', hg'⟩ : ∃ g', g = g' + 1 := by
    cases g with
    | zero =>
     match L, h2L, hD with
     | x :: y :: l, _, hD => rw [show d = 256 by omega] at hD; exact hD.two.elim
    | succ g' => exact ⟨g', rfl⟩
   subst hg'
   have ihW : WhC g' := ih g' rfl
   have hl : LvM m (.agg #[.slice a1 L.length c1, .slice a2 L.length c2]) L := ⟨_, _, rfl, h1, h2⟩
   obtain ⟨A, hA⟩ : ∃ A, A = wh g' (d + 1) (halfL L d false) := ⟨_, rfl⟩
   obtain ⟨B, hB⟩ : ∃ B, B = wh g' (d + 1) (halfL L d true) := ⟨_, rfl⟩
   have hAl : A.length ≤ 1000000000 := hA ▸ wh_le9 hdp.half (by omega) (Nat.le_trans (List.length_filter_le ..) hL)
   have hBl : B.length ≤ 1000000000 := hB ▸ wh_le9 hdp.half (by omega) (Nat.le_trans (List.length_filter_le ..) hL)
   refine wc_draw TF.mixed ?_
   have st := st.pure (touch_drew _)
   show FL _ _ ?ops5 ?post5 [] [] [] _ _
   have fin : ∀ (r : Fr) (w : World) (m2 : Mem) (v25 v31 v37 v28 v34 : Value), r 2 = .pointer (some ⟨b2, 0, none⟩) → r 1 = .int .i64 d → r 25 = v25 → r 31 = v31 → r 37 = v37 → r 28 = v28 → r 34 = v34 → SlM m2 v25 1 ([2] : By).length (bs [2]) → SlM m2 v31 1 A.length (bs A) → SlM m2 v37 1 B.length (bs B) →
    St m m2 [] wI w [K.blk b2 #[.slice a1 L.length c1, .slice a2 L.length c2] 34] → FL Try.prog 40 ?ops5 ?post5 [12, 9, 6, 3, 0, 11, 10, 8, 7, 5, 4, 2, 1] [10, 4] [] r w := by
    clear st
    rintro r w m2 v25 v31 v37 v28 v34 g2 g1 g25 g31 g37 g28 g34 hs0 s1 s2 st
    refine fl_o 2 g2 (fl_o 1 g1 (fl_o 25 g25 (fl_o 31 g31 (fl_o 37 g37 (fl_o 28 g28 (fl_o 34 g34 ?_))))))
    refine fl_eff1 13 [10, 4] [] (by kernel_rfl) trivial rfl ?_
    refine wl_pcsN [(([2] : By), _), (A, _), (B, _)] st rfl (by decide) (by decide) rfl (by simp only [List.mem_cons, List.not_mem_nil, or_false]; rintro z (rfl | rfl | rfl) <;> first | exact hs0 | exact s1 | exact s2) rfl ?_
    intro m3 v38 w hle3 st hp3
    refine wl_nil ⟨rfl, ?_⟩
    refine fl_eff1 14 [10, 4] [] (by kernel_rfl) trivial rfl ?_
    have hj : ∀ a b c, joinB [(([2] : By), a), (A, b), (B, c)] = (2 :: (A ++ B) : By) := fun a b c => by simp [joinB]
    refine wl_call rfl (c_join st.im hp3 (by rw [hj]; simp; omega) (by simp)) rfl ?_
    rintro v39 w ⟨t39, m4, hg4, hi4, hs4⟩
    have st := st.grown hg4 t39 hi4
    rw [hj] at hs4
    refine wl_nil ⟨rfl, ?_⟩
    refine fl_eff1 15 [] [] (by kernel_rfl) trivial rfl ?_
    refine wl_val (v_assign' (by conv => (lhs; whnf))) rfl ?_
    refine wl_nil ⟨rfl, ?_⟩
    refine fl_nil (by kernel_rfl) trivial ?_
    refine then_go ?_
    refine wc_ret ?_
    rw [wh_more h2L, ← hA, ← hB]
    exact ret1 rfl ((st.keepOnly (l := []) (List.nil_sublist _)).out hs4)
   refine fl_ld 1 rfl (v_load rfl (st.reads (v := .agg #[.slice a1 L.length c1, .slice a2 L.length c2]) 0 rfl TF.t34 (getV_all rfl))) (by kernel_rfl) ?_
   refine fl_val 2 rfl (fun _ => (v_move' (by conv => (lhs; whnf)))) rfl (by kernel_rfl) ?_
   refine fl_val 4 rfl (fun _ => (v_move' (by conv => (lhs; whnf)))) rfl (by kernel_rfl) ?_
   refine fl_val 5 rfl (fun _ => (v_add' (c := ((d + 1 : Nat) : Int)) rfl rfl (by omega) (by omega) (by omega))) rfl (by kernel_rfl) ?_
   refine fl_ld 7 rfl (v_load rfl (st.reads (v := .agg #[.slice a1 L.length c1, .slice a2 L.length c2]) 0 rfl TF.t34 (getV_all rfl))) (by kernel_rfl) ?_
   refine fl_val 8 rfl (fun _ => (v_move' (by conv => (lhs; whnf)))) rfl (by kernel_rfl) ?_
   refine fl_val 10 rfl (fun _ => (v_move' (by conv => (lhs; whnf)))) rfl (by kernel_rfl) ?_
   refine fl_val 11 rfl (fun _ => (v_add' (c := ((d + 1 : Nat) : Int)) rfl rfl (by omega) (by omega) (by omega))) rfl (by kernel_rfl) ?_
   refine fl_effs [0, 3] (by kernel_rfl) ⟨obl_ld rfl rfl rfl (v_load rfl (st.reads (v := .agg #[.slice a1 L.length c1, .slice a2 L.length c2]) 0 rfl TF.t34 (getV_all rfl))), obl_ld rfl rfl rfl (v_load rfl (st.reads (v := .agg #[.slice a1 L.length c1, .slice a2 L.length c2]) 0 rfl TF.t34 (getV_all rfl))), trivial⟩ (all2 ?_ ?_)
   ·refine stepE 0 (pure' := [11, 10, 8, 5, 4, 2]) (lds' := [7, 1]) rfl (by kernel_rfl) (by kernel_rfl) ?_
    refine wl_byte1 2 Try.underlying37 TF.t5 TF.z5 rfl st rfl ?_
    intro b25 w st
    obtain ⟨mm25, gr25, hm25, st⟩ := st.freeze (i := 0) rfl (by simp)
    change St _ _ _ _ _ [_] at st
    have hl := hl.mono gr25.le
    have hs0 : SlM mm25 (.slice (some ⟨b25, 0, none⟩) 1 1) 1 ([2] : By).length (bs [2]) := SlM.ofBlock (pre := []) (post := []) hm25 (by simp) rfl (Nat.le_refl _)
    refine wl_nil ⟨rfl, ?_⟩
    refine fl_eff1 3 [11, 10, 8, 5, 4] [7] (by kernel_rfl) ⟨obl_ld rfl rfl rfl (v_load rfl (st.reads (v := .agg #[.slice a1 L.length c1, .slice a2 L.length c2]) 0 rfl TF.t34 (getV_all rfl))), obl_ld rfl rfl rfl (v_load rfl (st.reads (v := .agg #[.slice a1 L.length c1, .slice a2 L.length c2]) 0 rfl TF.t34 (getV_all rfl))), trivial⟩ rfl ?_
    refine wl_call rfl (c_half17 (d := d) (on := false) st.im hl (by omega)) rfl ?_
    rintro v28 w ⟨t28, mm28, gr28, im28, hF⟩
    have st := st.grown gr28 t28 im28
    have hl := hl.mono gr28.le
    have hs0 := hs0.mono gr28.le
    refine wl_nil ⟨rfl, ?_⟩
    refine fl_eff1 6 [11, 10, 8, 4] [7] (by kernel_rfl) ⟨obl_ld rfl rfl rfl (v_load rfl (st.reads (v := .agg #[.slice a1 L.length c1, .slice a2 L.length c2]) 0 rfl TF.t34 (getV_all rfl))), trivial⟩ rfl ?_
    refine wl_call rfl (ihW st.im hF hdp.half (hD.half (by omega) false) (by omega) (Nat.le_trans (List.length_filter_le ..) hL)) rfl ?_
    rintro v31 w ⟨t31, mm31, gr31, im31, s31⟩
    have st := st.grown gr31 t31 im31
    have hl := hl.mono gr31.le
    have hs0 := hs0.mono gr31.le
    have hF := hF.mono gr31.le
    rw [← hA] at s31
    refine wl_nil ⟨rfl, ?_⟩
    refine fl_eff1 9 [11, 10, 4] [] (by kernel_rfl) ⟨obl_ld rfl rfl rfl (v_load rfl (st.reads (v := .agg #[.slice a1 L.length c1, .slice a2 L.length c2]) 0 rfl TF.t34 (getV_all rfl))), trivial⟩ rfl ?_
    refine wl_call rfl (c_half17 (d := d) (on := true) st.im hl (by omega)) rfl ?_
    rintro v34 w ⟨t34, mm34, gr34, im34, hT⟩
    have st := st.grown gr34 t34 im34
    have hl := hl.mono gr34.le
    have hs0 := hs0.mono gr34.le
    have hF := hF.mono gr34.le
    have s31 := s31.mono gr34.le
    refine wl_nil ⟨rfl, ?_⟩
    refine fl_eff1 12 [10, 4] [] (by kernel_rfl) trivial rfl ?_
    refine wl_call rfl (ihW st.im hT hdp.half (hD.half (by omega) true) (by omega) (Nat.le_trans (List.length_filter_le ..) hL)) rfl ?_
    rintro v37 w ⟨t37, mm37, gr37, im37, s37⟩
    have st := st.grown gr37 t37 im37
    have hl := hl.mono gr37.le
    have hs0 := hs0.mono gr37.le
    have hF := hF.mono gr37.le
    have s31 := s31.mono gr37.le
    have hT := hT.mono gr37.le
    rw [← hB] at s37
    refine wl_nil ⟨rfl, ?_⟩
    refine FL.permB [12, 9, 6, 3, 0, 11, 10, 8, 7, 5, 4, 2, 1] [10, 4] [] (by kernel_rfl) ?_
    exact fin _ _ _ _ _ _ _ _ rfl rfl rfl rfl rfl rfl rfl hs0 s31 s37 st
   ·refine stepE 3 (pure' := [11, 10, 8, 5, 4]) (lds' := [7]) rfl (by kernel_rfl) (by kernel_rfl) ?_
    refine wl_call rfl (c_half17 (d := d) (on := false) st.im hl (by omega)) rfl ?_
    rintro v28 w ⟨t28, mm28, gr28, im28, hF⟩
    have st := st.grown gr28 t28 im28
    have hl := hl.mono gr28.le
    refine wl_nil ⟨rfl, ?_⟩
    refine fl_effs [0, 6] (by kernel_rfl) ⟨obl_ld rfl rfl rfl (v_load rfl (st.reads (v := .agg #[.slice a1 L.length c1, .slice a2 L.length c2]) 0 rfl TF.t34 (getV_all rfl))), trivial⟩ (all2 ?_ ?_)
    ·refine stepE 0 (pure' := [11, 10, 8, 5, 4]) (lds' := [7]) rfl (by kernel_rfl) (by kernel_rfl) ?_
     refine wl_byte1 2 Try.underlying37 TF.t5 TF.z5 rfl st rfl ?_
     intro b25 w st
     obtain ⟨mm25, gr25, hm25, st⟩ := st.freeze (i := 0) rfl (by simp)
     change St _ _ _ _ _ [_] at st
     have hl := hl.mono gr25.le
     have hF := hF.mono gr25.le
     have hs0 : SlM mm25 (.slice (some ⟨b25, 0, none⟩) 1 1) 1 ([2] : By).length (bs [2]) := SlM.ofBlock (pre := []) (post := []) hm25 (by simp) rfl (Nat.le_refl _)
     refine wl_nil ⟨rfl, ?_⟩
     refine fl_eff1 6 [11, 10, 8, 4] [7] (by kernel_rfl) ⟨obl_ld rfl rfl rfl (v_load rfl (st.reads (v := .agg #[.slice a1 L.length c1, .slice a2 L.length c2]) 0 rfl TF.t34 (getV_all rfl))), trivial⟩ rfl ?_
     refine wl_call rfl (ihW st.im hF hdp.half (hD.half (by omega) false) (by omega) (Nat.le_trans (List.length_filter_le ..) hL)) rfl ?_
     rintro v31 w ⟨t31, mm31, gr31, im31, s31⟩
     have st := st.grown gr31 t31 im31
     have hl := hl.mono gr31.le
     have hF := hF.mono gr31.le
     have hs0 := hs0.mono gr31.le
     rw [← hA] at s31
     refine wl_nil ⟨rfl, ?_⟩
     refine fl_eff1 9 [11, 10, 4] [] (by kernel_rfl) ⟨obl_ld rfl rfl rfl (v_load rfl (st.reads (v := .agg #[.slice a1 L.length c1, .slice a2 L.length c2]) 0 rfl TF.t34 (getV_all rfl))), trivial⟩ rfl ?_
     refine wl_call rfl (c_half17 (d := d) (on := true) st.im hl (by omega)) rfl ?_
     rintro v34 w ⟨t34, mm34, gr34, im34, hT⟩
     have st := st.grown gr34 t34 im34
     have hl := hl.mono gr34.le
     have hF := hF.mono gr34.le
     have hs0 := hs0.mono gr34.le
     have s31 := s31.mono gr34.le
     refine wl_nil ⟨rfl, ?_⟩
     refine fl_eff1 12 [10, 4] [] (by kernel_rfl) trivial rfl ?_
     refine wl_call rfl (ihW st.im hT hdp.half (hD.half (by omega) true) (by omega) (Nat.le_trans (List.length_filter_le ..) hL)) rfl ?_
     rintro v37 w ⟨t37, mm37, gr37, im37, s37⟩
     have st := st.grown gr37 t37 im37
     have hl := hl.mono gr37.le
     have hF := hF.mono gr37.le
     have hs0 := hs0.mono gr37.le
     have s31 := s31.mono gr37.le
     have hT := hT.mono gr37.le
     rw [← hB] at s37
     refine wl_nil ⟨rfl, ?_⟩
     refine FL.permB [12, 9, 6, 3, 0, 11, 10, 8, 7, 5, 4, 2, 1] [10, 4] [] (by kernel_rfl) ?_
     exact fin _ _ _ _ _ _ _ _ rfl rfl rfl rfl rfl rfl rfl hs0 s31 s37 st
    ·refine stepE 6 (pure' := [11, 10, 8, 4]) (lds' := [7]) rfl (by kernel_rfl) (by kernel_rfl) ?_
     refine wl_call rfl (ihW st.im hF hdp.half (hD.half (by omega) false) (by omega) (Nat.le_trans (List.length_filter_le ..) hL)) rfl ?_
     rintro v31 w ⟨t31, mm31, gr31, im31, s31⟩
     have st := st.grown gr31 t31 im31
     have hl := hl.mono gr31.le
     have hF := hF.mono gr31.le
     rw [← hA] at s31
     refine wl_nil ⟨rfl, ?_⟩
     refine fl_effs [0, 9] (by kernel_rfl) ⟨obl_ld rfl rfl rfl (v_load rfl (st.reads (v := .agg #[.slice a1 L.length c1, .slice a2 L.length c2]) 0 rfl TF.t34 (getV_all rfl))), trivial⟩ (all2 ?_ ?_)
     ·refine stepE 0 (pure' := [11, 10, 8, 4]) (lds' := [7]) rfl (by kernel_rfl) (by kernel_rfl) ?_
      refine wl_byte1 2 Try.underlying37 TF.t5 TF.z5 rfl st rfl ?_
      intro b25 w st
      obtain ⟨mm25, gr25, hm25, st⟩ := st.freeze (i := 0) rfl (by simp)
      change St _ _ _ _ _ [_] at st
      have hl := hl.mono gr25.le
      have hF := hF.mono gr25.le
      have s31 := s31.mono gr25.le
      have hs0 : SlM mm25 (.slice (some ⟨b25, 0, none⟩) 1 1) 1 ([2] : By).length (bs [2]) := SlM.ofBlock (pre := []) (post := []) hm25 (by simp) rfl (Nat.le_refl _)
      refine wl_nil ⟨rfl, ?_⟩
      refine fl_eff1 9 [11, 10, 4] [] (by kernel_rfl) ⟨obl_ld rfl rfl rfl (v_load rfl (st.reads (v := .agg #[.slice a1 L.length c1, .slice a2 L.length c2]) 0 rfl TF.t34 (getV_all rfl))), trivial⟩ rfl ?_
      refine wl_call rfl (c_half17 (d := d) (on := true) st.im hl (by omega)) rfl ?_
      rintro v34 w ⟨t34, mm34, gr34, im34, hT⟩
      have st := st.grown gr34 t34 im34
      have hl := hl.mono gr34.le
      have hF := hF.mono gr34.le
      have s31 := s31.mono gr34.le
      have hs0 := hs0.mono gr34.le
      refine wl_nil ⟨rfl, ?_⟩
      refine fl_eff1 12 [10, 4] [] (by kernel_rfl) trivial rfl ?_
      refine wl_call rfl (ihW st.im hT hdp.half (hD.half (by omega) true) (by omega) (Nat.le_trans (List.length_filter_le ..) hL)) rfl ?_
      rintro v37 w ⟨t37, mm37, gr37, im37, s37⟩
      have st := st.grown gr37 t37 im37
      have hl := hl.mono gr37.le
      have hF := hF.mono gr37.le
      have s31 := s31.mono gr37.le
      have hs0 := hs0.mono gr37.le
      have hT := hT.mono gr37.le
      rw [← hB] at s37
      refine wl_nil ⟨rfl, ?_⟩
      refine FL.permB [12, 9, 6, 3, 0, 11, 10, 8, 7, 5, 4, 2, 1] [10, 4] [] (by kernel_rfl) ?_
      exact fin _ _ _ _ _ _ _ _ rfl rfl rfl rfl rfl rfl rfl hs0 s31 s37 st
     ·refine stepE 9 (pure' := [11, 10, 4]) (lds' := []) rfl (by kernel_rfl) (by kernel_rfl) ?_
      refine wl_call rfl (c_half17 (d := d) (on := true) st.im hl (by omega)) rfl ?_
      rintro v34 w ⟨t34, mm34, gr34, im34, hT⟩
      have st := st.grown gr34 t34 im34
      have hl := hl.mono gr34.le
      have hF := hF.mono gr34.le
      have s31 := s31.mono gr34.le
      refine wl_nil ⟨rfl, ?_⟩
      refine fl_effs [0, 12] (by kernel_rfl) trivial (all2 ?_ ?_)
      ·refine stepE 0 (pure' := [11, 10, 4]) (lds' := []) rfl (by kernel_rfl) (by kernel_rfl) ?_
       refine wl_byte1 2 Try.underlying37 TF.t5 TF.z5 rfl st rfl ?_
       intro b25 w st
       obtain ⟨mm25, gr25, hm25, st⟩ := st.freeze (i := 0) rfl (by simp)
       change St _ _ _ _ _ [_] at st
       have hl := hl.mono gr25.le
       have hF := hF.mono gr25.le
       have s31 := s31.mono gr25.le
       have hT := hT.mono gr25.le
       have hs0 : SlM mm25 (.slice (some ⟨b25, 0, none⟩) 1 1) 1 ([2] : By).length (bs [2]) := SlM.ofBlock (pre := []) (post := []) hm25 (by simp) rfl (Nat.le_refl _)
       refine wl_nil ⟨rfl, ?_⟩
       refine fl_eff1 12 [10, 4] [] (by kernel_rfl) trivial rfl ?_
       refine wl_call rfl (ihW st.im hT hdp.half (hD.half (by omega) true) (by omega) (Nat.le_trans (List.length_filter_le ..) hL)) rfl ?_
       rintro v37 w ⟨t37, mm37, gr37, im37, s37⟩
       have st := st.grown gr37 t37 im37
       have hl := hl.mono gr37.le
       have hF := hF.mono gr37.le
       have s31 := s31.mono gr37.le
       have hT := hT.mono gr37.le
       have hs0 := hs0.mono gr37.le
       rw [← hB] at s37
       refine wl_nil ⟨rfl, ?_⟩
       refine FL.permB [12, 9, 6, 3, 0, 11, 10, 8, 7, 5, 4, 2, 1] [10, 4] [] (by kernel_rfl) ?_
       exact fin _ _ _ _ _ _ _ _ rfl rfl rfl rfl rfl rfl rfl hs0 s31 s37 st
      ·refine stepE 12 (pure' := [10, 4]) (lds' := []) rfl (by kernel_rfl) (by kernel_rfl) ?_
       refine wl_call rfl (ihW st.im hT hdp.half (hD.half (by omega) true) (by omega) (Nat.le_trans (List.length_filter_le ..) hL)) rfl ?_
       rintro v37 w ⟨t37, mm37, gr37, im37, s37⟩
       have st := st.grown gr37 t37 im37
       have hl := hl.mono gr37.le
       have hF := hF.mono gr37.le
       have s31 := s31.mono gr37.le
       have hT := hT.mono gr37.le
       rw [← hB] at s37
       refine wl_nil ⟨rfl, ?_⟩
       refine fl_eff1 0 [10, 4] [] (by kernel_rfl) trivial rfl ?_
       refine wl_byte1 2 Try.underlying37 TF.t5 TF.z5 rfl st rfl ?_
       intro b25 w st
       obtain ⟨mm25, gr25, hm25, st⟩ := st.freeze (i := 0) rfl (by simp)
       change St _ _ _ _ _ [_] at st
       have hl := hl.mono gr25.le
       have hF := hF.mono gr25.le
       have s31 := s31.mono gr25.le
       have hT := hT.mono gr25.le
       have s37 := s37.mono gr25.le
       have hs0 : SlM mm25 (.slice (some ⟨b25, 0, none⟩) 1 1) 1 ([2] : By).length (bs [2]) := SlM.ofBlock (pre := []) (post := []) hm25 (by simp) rfl (Nat.le_refl _)
       refine wl_nil ⟨rfl, ?_⟩
       refine FL.permB [12, 9, 6, 3, 0, 11, 10, 8, 7, 5, 4, 2, 1] [10, 4] [] (by kernel_rfl) ?_
       exact fin _ _ _ _ _ _ _ _ rfl rfl rfl rfl rfl rfl rfl hs0 s31 s37 st
end
end Go.Proofs.Ytonlmjpenonabaa

namespace Go.Proofs.Ytonlmjpenonabaa
open Go Go.RowKit K SH PT
def hfI (L : List (By × By)) (d : Int) (i : Nat) : List (By × By) := halfL L d (decide ((i : Int) = 1))
def accB (g d : Nat) (L : List (By × By)) (i : Nat) : By := 2 :: (List.range i).flatMap fun k => sideB (sv g (d + 1) (hfI L d k)) (wh g (d + 1) (hfI L d k)) (hfI L d k)
def accR (g d : Nat) (L : List (By × By)) (i : Nat) : List By := (List.range i).flatMap fun k => restB (sv g (d + 1) (hfI L d k)) (hfI L d k)
theorem accB_succ {g d : Nat} {L : List (By × By)} {i : Nat} : accB g d L (i + 1) = accB g d L i ++ sideB (sv g (d + 1) (hfI L d i)) (wh g (d + 1) (hfI L d i)) (hfI L d i) := by simp [accB, List.range_succ]
theorem accR_succ {g d : Nat} {L : List (By × By)} {i : Nat} : accR g d L (i + 1) = accR g d L i ++ restB (sv g (d + 1) (hfI L d i)) (hfI L d i) := by simp [accR, List.range_succ]
theorem sv_acc {g d : Nat} {L : List (By × By)} (h : ¬ (wh (g + 1) d L).length ≤ 512) : sv (g + 1) d L = accB g d L 2 :: accR g d L 2 := by
 rw [sv_big h]
 simp only [accB, accR, show List.range 2 = [0, 1] from rfl, List.flatMap_cons, List.flatMap_nil, List.append_nil]
 rfl
theorem accB_len {g d : Nat} {L : List (By × By)} {i : Nat} (hL : D32p L) (hi : i ≤ 2) : (accB g d L i).length ≤ 131 := by
 have h1 := sideB_len (g := g) (d := d + 1) (L := hfI L d 0) (D32p.half hL)
 have h2 := sideB_len (g := g) (d := d + 1) (L := hfI L d 1) (D32p.half hL)
 match i, hi with
 | 0, _ => simp [accB]
 | 1, _ => rw [accB_succ, List.length_append]; simp only [accB]; simp; omega
 | 2, _ => rw [accB_succ, accB_succ, List.length_append, List.length_append]; simp only [accB]; simp; omega
def SvC (g : Nat) : Prop := ∀ {d : Nat} {L : List (By × By)} {lv : Value} {m : Mem} {w : World}, Im m w → LvM m lv L → D32p L → Dst d L → g + d = 256 → L.length ≤ 1000000 →
 Ret Try.prog 16 #[lv, .int .i64 d] w fun v' w' => Out m w w' fun m' => ∃ v2 N, v' = .tuple #[arr (sum (pg1 g d L)), v2] ∧ PcsM m' v2 N ∧ N.map (·.1) = sv g d L
section
variable {m : Mem} {wI : World}
theorem c_whole : ∀ {g : Nat}, WhC g := by
 intro g
 induction g with
 | zero => intro d L lv m w him hl hdp hD hgd hL; exact c_whole0 (fun g' h => by cases h) him hl hdp hD hgd hL
 | succ g ih => intro d L lv m w him hl hdp hD hgd hL; exact c_whole0 (fun g' h => by cases h; exact ih) him hl hdp hD hgd hL
theorem c_rsave0 {g d : Nat} {L : List (By × By)} {lv : Value} (ih : ∀ g', g = g' + 1 → SvC g') (him : Im m wI) (hl : LvM m lv L) (hdp : D32p L) (hD : Dst d L) (hgd : g + d = 256) (hL : L.length ≤ 1000000) :
  Ret Try.prog 16 #[lv, .int .i64 d] wI fun v' w' => Out m wI w' fun m' => ∃ v2 N, v' = .tuple #[arr (sum (pg1 g d L)), v2] ∧ PcsM m' v2 N ∧ N.map (·.1) = sv g d L := by
 have st := St.start him
 have hl0 := hl
 obtain ⟨a1, c1, a2, c2, rfl, h1, h2⟩ := hl.open
 have hwl : (wh g d L).length ≤ 1000000000 := wh_le9 hdp (by omega) hL
 refine ret_of Try.call16 Try.func16 rfl Try.ntmps16 Try.results16 rfl ?_
 refine wc_seq ?_
 refine wc_region ?_
 refine wl_box (v := .agg #[.slice a1 L.length c1, .slice a2 L.length c2]) rfl st rfl ?_
 intro b2 w st
 refine wl_alloc TF.z28 st rfl ?_
 intro b4 w st
 have st : St m m [] wI w [K.blk b4 (bs z32).toArray 28, K.blk b2 #[.slice a1 L.length c1, .slice a2 L.length c2] 34] := st
 refine wl_val (v_assign' (by conv => (lhs; whnf))) rfl ?_
 refine wl_nil ?_
 refine then_go ?_
 refine wc_seq ?_
 refine wc_region ?_
 refine wl_val (v_load rfl (st.reads (v := .agg #[.slice a1 L.length c1, .slice a2 L.length c2]) 1 rfl TF.t34 (getV_all rfl))) rfl ?_
 refine wl_val (v_move' (by conv => (lhs; whnf))) rfl ?_
 refine wl_call rfl (c_whole (g := g) st.im hl0 hdp hD hgd hL) rfl ?_
 rintro v15 w ⟨t15, mm15, gr15, im15, hs6⟩
 have st := st.grown gr15 t15 im15
 have hl0 := hl0.mono gr15.le
 obtain ⟨_, xa, xc, hx6, _⟩ := id hs6
 subst hx6
 refine wl_val (v_assign' (by conv => (lhs; whnf))) rfl ?_
 refine wl_nil ?_
 refine then_go ?_
 refine wc_seq ?_
 refine wc_seq ?_
 refine wc_region ?_
 refine wl_val (v_move' (by conv => (lhs; whnf))) rfl ?_
 refine wl_val (v_len_s Try.underlying37 rfl) rfl ?_
 refine wl_val (v_leq rfl rfl) rfl ?_
 refine wl_nil ?_
 refine then_go ?_
 refine wc_if rfl (fun h18 => ?_) (fun h18 => ?_)
 ·refine wc_seq ?_
  refine wc_region ?_
  refine wl_val (v_move' (by conv => (lhs; whnf))) rfl ?_
  refine wl_call rfl (c_ref3of st.im hs6 (Nat.le_trans hwl (by decide))) rfl ?_
  rintro v20 w ⟨t20, rfl⟩
  have st := st.pure t20
  refine wl_val (v_move' (by conv => (lhs; whnf))) rfl ?_
  have hsm : (wh g d L).length ≤ 512 := by omega
  have e : pg1 g d L = wh g d L := by unfold pg1; rw [sv_small hsm]; rfl
  refine wl_svOne (v := .slice xa (wh g d L).length xc) Try.underlying29 TF.t37 TF.z37 rfl rfl st rfl ?_
  intro b22 w st
  obtain ⟨m2, hg2, hm2, st⟩ := st.freeze (i := 0) rfl (by simp)
  change St _ _ _ _ _ [_, _] at st
  have hs6 := hs6.mono hg2.le
  refine wl_storeW 0 st rfl TF.t28 rfl rfl (by simp [length_bs, length_sum]) rfl (one_bs _) ?_
  intro w st
  refine wl_val (v_assign' (by conv => (lhs; whnf))) rfl ?_
  refine wl_nil ?_
  refine then_go ?_
  refine wc_ret (then_ret ?_)
  refine ret2c rfl (st.reads (v := arr (sum (wh g d L))) 0 rfl TF.t28 (getV_all (by simp [length_bs, length_sum]))) rfl ((st.keepOnly (l := []) (List.nil_sublist _)).out ⟨.slice (some ⟨b22, 0, none⟩) 1 1, [(wh g d L, .slice xa (wh g d L).length xc)], by rw [e]; rfl, ⟨SlM.of hm2 rfl (Nat.le_refl _) (fun j u hj => by simpa using hj), fun y hy => by rw [List.mem_singleton.1 hy]; exact hs6⟩, by rw [sv_small hsm]; rfl⟩)
 ·refine wc_skip ?_
  refine then_go ?_
  refine wc_seq ?_
  have hbig : ¬ (wh g d L).length ≤ 512 := by omega
  have h2L : 2 ≤ L.length := Decidable.byContradiction fun hc => hbig (Nat.le_trans (wh_lt2 (by omega) hdp) (by decide))
  obtain ⟨g', hg'⟩ : ∃ g', g = g' + 1 := by
   cases g with
   | zero =>
    match L, h2L, hD with
    | x :: y :: l, _, hD => rw [show d = 256 by omega] at hD; exact hD.two.elim
   | succ g' => exact ⟨g', rfl⟩
  subst hg'
  have ihS : SvC g' := ih g' rfl
  refine wc_region ?_
  refine wl_byteR 2 Try.underlying37 TF.t5 TF.z5 rfl st rfl ?_
  intro b23 w st
  refine wl_val (v_assign' (by conv => (lhs; whnf))) rfl ?_
  refine wl_nil ?_
  refine then_go ?_
  refine wc_seq ?_
  refine wc_region ?_
  refine wl_val (v_assign' (by conv => (lhs; whnf))) rfl ?_
  refine wl_nil ?_
  have st := nilRow st 37 1
  refine then_go ?_
  refine wc_seq ?_
  refine wc_seq ?_
  refine wc_region ?_
  refine wl_val (v_assign' (by conv => (lhs; whnf))) rfl ?_
  refine wl_nil ?_
  refine then_go ?_
  refine wc_block ?_
  refine wc_loop (S := Nat) (fun q r w' => ∃ (i : Nat) (v6 v7 : Value) (N : List (By × Value)) (m2 : Mem), q + i = 2 ∧ r 1 = .int .i64 d ∧ r 2 = .pointer (some ⟨b2, 0, none⟩) ∧ r 4 = .pointer (some ⟨b4, 0, none⟩) ∧ r 6 = v6 ∧ r 7 = v7 ∧ r 8 = .int .i64 i ∧ N.map (·.1) = accR g' d L i ∧ PgsOk m2 N ∧ LvM m2 (.agg #[.slice a1 L.length c1, .slice a2 L.length c2]) L ∧
   St m m2 [] wI w' [rowE v7 37 1 N.length (N.map (·.2)), rowE v6 5 1 (accB g' d L i).length (bs (accB g' d L i)), K.blk b4 (bs z32).toArray 28, K.blk b2 #[.slice a1 L.length c1, .slice a2 L.length c2] 34]) id 2 ⟨0, _, _, [], _, rfl, rfl, rfl, rfl, rfl, rfl, rfl, rfl, (fun x hx => by cases hx), hl0, st⟩ ?_
  clear hl0 hl st hs6
  rintro q r w2 ⟨i, v6, v7, N, m2, hqi, g1, g2, g4, g6, g7, g8, hN, hok, hl0, st⟩
  refine wc_o 1 g1 (wc_o 2 g2 (wc_o 4 g4 (wc_o 6 g6 (wc_o 7 g7 (wc_o 8 g8 ?_)))))
  refine wc_seq ?_
  refine wc_seq ?_
  refine wc_region ?_
  refine wl_val (v_move' (by conv => (lhs; whnf))) rfl ?_
  refine wl_val (v_lss rfl rfl) rfl ?_
  refine wl_nil ?_
  refine then_go ?_
  refine wc_if rfl (fun h25 => ?_) (fun h25 => ?_)
  ·refine wc_skip ?_
   refine then_go ?_
   refine wc_seq ?_
   refine wc_block ?_
   refine wc_seq ?_
   have hi : i < 2 := by omega
   have hal := accB_len (g := g') (d := d) (i := i) hdp (by omega)
   have hRl : N.length ≤ 1000000000 := by
    rw [← List.length_map (f := Prod.fst), show N.map Prod.fst = accR g' d L i from hN]
    have h0 := sv_len (g := g') (d := d + 1) (L := hfI L d 0)
    have hh0 : (hfI L d 0).length ≤ L.length := List.length_filter_le ..
    have hr : ∀ (p : List By) (q : List (By × By)), (restB p q).length ≤ p.length := fun p q => by unfold restB; split <;> simp
    have hm0 : g' * (hfI L d 0).length ≤ 256 * 1000000 := Nat.mul_le_mul (by omega) (by omega)
    match i, hi with
    | 0, _ => simp [accR]
    | 1, _ => rw [accR_succ, List.length_append]; have := hr (sv g' (d + 1) (hfI L d 0)) (hfI L d 0); simp [accR]; omega
   have hHd : D32p (hfI L d i) := D32p.half hdp
   have hHD : Dst (d + 1) (hfI L d i) := hD.half (by omega) _
   have hHL : (hfI L d i).length ≤ 1000000 := Nat.le_trans (List.length_filter_le ..) hL
   refine wc_region ?_
   refine wl_val (v_load rfl (st.reads (v := .agg #[.slice a1 L.length c1, .slice a2 L.length c2]) 3 rfl TF.t34 (getV_all rfl))) rfl ?_
   refine wl_val (v_move' (by conv => (lhs; whnf))) rfl ?_
   refine wl_val (v_move' (by conv => (lhs; whnf))) rfl ?_
   refine wl_val (v_eql rfl rfl) rfl ?_
   refine wl_call rfl (c_half17 (d := d) (on := decide ((i : Int) = 1)) st.im hl0 (by omega)) rfl ?_
   rintro v32 w ⟨t32, mm32, gr32, im32, hH⟩
   have st := st.grown gr32 t32 im32
   have hl0 := hl0.mono gr32.le
   have hok := hok.mono gr32.le
   change LvM _ _ (hfI L d i) at hH
   have hH0 := hH
   obtain ⟨e1, f1, e2, f2, rfl, k1, k2⟩ := hH.open
   refine wl_alloc TF.z34 st rfl ?_
   intro b9 w st
   refine wl_storeW (cs := #[.slice e1 (hfI L d i).length f1, .slice e2 (hfI L d i).length f2]) 0 st rfl TF.t34 rfl rfl rfl rfl (by simp [Value.oneCell']) ?_
   intro w st
   refine wl_nil ?_
   refine then_go ?_
   refine wc_seq ?_
   refine wc_seq ?_
   refine wc_region ?_
   refine wl_val (v_fa TF.f34_0 rfl) rfl ?_
   refine wl_val (v_load rfl (st.reads (v := .slice e1 (hfI L d i).length f1) 0 rfl TF.t22 rfl)) rfl ?_
   refine wl_val (v_len_s Try.underlying22 rfl) rfl ?_
   refine wl_val (v_lss rfl rfl) rfl ?_
   refine wl_nil ?_
   refine then_go ?_
   refine wc_if rfl (fun h36 => ?_) (fun h36 => ?_)
   ·refine wc_seq ?_
    refine wc_region ?_
    refine wl_val (v_move' (by conv => (lhs; whnf))) rfl ?_
    refine wl_val (v_load rfl (st.reads (v := .agg #[.slice e1 (hfI L d i).length f1, .slice e2 (hfI L d i).length f2]) 0 rfl TF.t34 (getV_all rfl))) rfl ?_
    refine wl_val (v_move' (by conv => (lhs; whnf))) rfl ?_
    refine wl_val (v_add' (c := ((d + 1 : Nat) : Int)) rfl rfl (by omega) (by omega) (by omega)) rfl ?_
    refine wl_call rfl (c_whole (g := g') st.im hH0 hHd hHD (by omega) hHL) rfl ?_
    rintro v41 w ⟨t41, mm41, gr41, im41, hw1⟩
    have st := st.grown gr41 t41 im41
    have hl0 := hl0.mono gr41.le
    have hok := hok.mono gr41.le
    have hH0 := hH0.mono gr41.le
    have hh2 : (hfI L d i).length < 2 := by omega
    have hwl2 := wh_lt2 (g := g') (d := d + 1) hh2 hHd
    refine wl_appBi 2 (l2 := wh g' (d + 1) (hfI L d i)) st rfl Try.underlying37 Try.underlying37 (.inr ⟨_, rfl⟩) TF.t5 TF.z5 rfl rfl (hw1.src st.im (one_bs _)) (by omega) (by omega) rfl ?_
    intro v42 w st hv42
    refine wl_val (v_assign' (by conv => (lhs; whnf))) rfl ?_
    refine wl_nil ?_
    refine then_go ?_
    refine wc_exit (then_exit (block_hit ?_))
    refine then_go ?_
    refine wc_region ?_
    refine wl_val (v_move' (by conv => (lhs; whnf))) rfl ?_
    refine wl_val (v_add' rfl rfl rfl (by first | omega | (dsimp only at *; omega)) (by first | omega | (dsimp only at *; omega))) rfl ?_
    refine wl_val (v_assign' (by conv => (lhs; whnf))) rfl ?_
    refine wl_nil ?_
    refine then_go ?_
    refine ⟨q - 1, by simp; omega, i + 1, v42, v7, N, _, by omega, rfl, rfl, rfl, rfl, rfl, rfl, ?_, hok, hl0, ?_⟩
    ·rw [accR_succ, restB, if_pos hh2, List.append_nil]; exact hN
    ·rw [accB_succ, sideB, if_pos hh2]; exact st.drop 0
   ·refine wc_skip ?_
    refine then_go ?_
    refine wc_seq ?_
    refine wc_region ?_
    refine wl_val (v_load rfl (st.reads (v := .agg #[.slice e1 (hfI L d i).length f1, .slice e2 (hfI L d i).length f2]) 0 rfl TF.t34 (getV_all rfl))) rfl ?_
    refine wl_val (v_move' (by conv => (lhs; whnf))) rfl ?_
    refine wl_val (v_add' (c := ((d + 1 : Nat) : Int)) rfl rfl (by omega) (by omega) (by omega)) rfl ?_
    have hh2 : ¬ (hfI L d i).length < 2 := by omega
    refine wl_call rfl (ihS st.im hH0 hHd hHD (by omega) hHL) rfl ?_
    rintro v47 w ⟨t47, mm47, gr47, im47, v2, N2, rfl, hp2, hN2⟩
    have st := st.grown gr47 t47 im47
    have hl0 := hl0.mono gr47.le
    have hok := hok.mono gr47.le
    have hH0 := hH0.mono gr47.le
    obtain ⟨p2a, p2c, rfl⟩ : ∃ a c, v2 = .slice a N2.length c := by obtain ⟨_, a, c, h, _⟩ := hp2.1; exact ⟨a, c, h⟩
    have hN2l : N2.length ≤ 1000000000 := by
     rw [← List.length_map (f := Prod.fst), show N2.map Prod.fst = sv g' (d + 1) (hfI L d i) from hN2]
     have h0 := sv_len (g := g') (d := d + 1) (L := hfI L d i)
     have hm0 : g' * (hfI L d i).length ≤ 256 * 1000000 := Nat.mul_le_mul (by omega) hHL
     omega
    refine wl_val (v_move' (by conv => (lhs; whnf))) rfl ?_
    refine wl_val (v_extract rfl rfl) rfl ?_
    refine wl_val (v_extract rfl rfl) rfl ?_
    refine wl_alloc TF.z28 st rfl ?_
    intro b10 w st
    refine wl_storeW 0 st rfl TF.t28 rfl rfl (by simp [length_bs, length_sum]) rfl (one_bs _) ?_
    intro w st
    refine wl_val (v_assign' (by conv => (lhs; whnf))) rfl ?_
    refine wl_nil ?_
    refine then_go ?_
    refine wc_seq ?_
    refine wc_region ?_
    refine wl_val (v_move' (by conv => (lhs; whnf))) rfl ?_
    refine wl_byte1 3 Try.underlying37 TF.t5 TF.z5 rfl st rfl ?_
    intro b51 w st
    refine wl_appBi 4 (l2 := [3]) st rfl Try.underlying37 Try.underlying37 (.inr ⟨_, rfl⟩) TF.t5 TF.z5 rfl rfl (st.srcArr (off := 0) 0 rfl rfl (fun j u hj => by simpa using hj) (one_bs _)) (by simp; omega) (by simp; omega) rfl ?_
    intro v52 w st hv52
    have st := st.drop 0
    refine wl_val (v_assign' (by conv => (lhs; whnf))) rfl ?_
    refine wl_nil ?_
    refine then_go ?_
    refine wc_seq ?_
    refine wc_region ?_
    refine wl_val (v_move' (by conv => (lhs; whnf))) rfl ?_
    refine wl_val (v_sla 0 32 Try.underlying28 TF.t5 rfl rfl rfl (by omega) (by omega) (by omega)) rfl ?_
    refine wl_appBi 3 (l2 := sum (pg1 g' (d + 1) (hfI L d i))) st rfl Try.underlying37 Try.underlying37 (.inr ⟨_, rfl⟩) TF.t5 TF.z5 rfl rfl (st.srcArr (off := 0) 0 rfl (by rw [length_bs, length_sum]) (fun j u hj => by simpa using hj) (one_bs _)) (by simp [length_sum]; omega) (by simp [length_sum]; omega) rfl ?_
    intro v55 w st hv55
    refine wl_val (v_assign' (by conv => (lhs; whnf))) rfl ?_
    refine wl_nil ?_
    refine then_go ?_
    refine wc_region ?_
    refine wl_val (v_move' (by conv => (lhs; whnf))) rfl ?_
    refine wl_val (v_move' (by conv => (lhs; whnf))) rfl ?_
    refine wl_append (news := N2.map (·.2)) 2 st rfl Try.underlying29 Try.underlying29 (.inr ⟨_, rfl⟩) TF.t37 TF.z37 rfl rfl rfl (hp2.1.src st.im (fun u hu => by obtain ⟨y, hy, rfl⟩ := List.mem_map.1 hu; exact SlM.one1 (hp2.2 y hy))) (by omega) (by omega) rfl ?_
    intro v58 w _ st
    refine wl_val (v_assign' (by conv => (lhs; whnf))) rfl ?_
    refine wl_nil ?_
    refine block_go (then_go ?_)
    refine wc_region ?_
    refine wl_val (v_move' (by conv => (lhs; whnf))) rfl ?_
    refine wl_val (v_add' rfl rfl rfl (by first | omega | (dsimp only at *; omega)) (by first | omega | (dsimp only at *; omega))) rfl ?_
    refine wl_val (v_assign' (by conv => (lhs; whnf))) rfl ?_
    refine wl_nil ?_
    refine then_go ?_
    refine ⟨q - 1, by simp; omega, i + 1, v55, v58, N ++ N2, _, by omega, rfl, rfl, rfl, rfl, rfl, rfl, ?_, ?_, hl0, ?_⟩
    ·rw [accR_succ, restB, if_neg hh2, List.map_append, hN2]; rw [show N.map (·.1) = accR g' d L i from hN]
    ·intro x hx
     rcases List.mem_append.1 hx with h | h
     ·exact hok x h
     ·exact hp2.2 x h
    ·have e1 : accB g' d L i ++ [3] ++ sum (pg1 g' (d + 1) (hfI L d i)) = accB g' d L (i + 1) := by rw [accB_succ, sideB, if_neg hh2]; simp [pg1]
     have e2 : N.map (·.2) ++ N2.map (·.2) = (N ++ N2).map (·.2) := by simp
     have e3 : N.length + N2.length = (N ++ N2).length := by simp
     have st := (st.drop 0).drop 0
     change St _ _ _ _ _ [rowE v58 _ _ (N.length + N2.length) (N.map (·.2) ++ N2.map (·.2)), rowE v55 _ _ (accB g' d L i ++ [3] ++ sum (pg1 g' (d + 1) (hfI L d i))).length (bs (accB g' d L i ++ [3] ++ sum (pg1 g' (d + 1) (hfI L d i)))), _, _] at st
     rw [e1, e2, e3] at st
     exact st
  ·refine wc_exit (then_exit (then_exit (block_hit ?_)))
   refine then_go ?_
   refine wc_seq ?_
   have hi2 : i = 2 := by omega
   subst hi2
   have hsv := sv_acc hbig
   have e : pg1 (g' + 1) d L = accB g' d L 2 := by unfold pg1; rw [hsv]; rfl
   have hal := accB_len (g := g') (d := d) (i := 2) hdp (by omega)
   have hNl : N.length ≤ 1000000000 := by
    have h0 := sv_len (g := g' + 1) (d := d) (L := L)
    have hm0 : (g' + 1) * L.length ≤ 256 * 1000000 := Nat.mul_le_mul (by omega) hL
    have : N.length = (accR g' d L 2).length := by rw [← hN, List.length_map]
    rw [hsv] at h0
    simp at h0
    omega
   obtain ⟨m3, hg3, hs3, st⟩ := st.keepB (i := 1) rfl
   change St _ _ _ _ _ [_, _, _] at st
   have hok := hok.mono hg3.le
   obtain ⟨m4, hg4, hm4, st4⟩ := st.freezeR (i := 0) rfl (by simp)
   have hrow := row_SlM (m := m4) (st.at (i := 0) rfl) hm4
   have st := st4
   clear st4
   change St _ _ _ _ _ [_, _] at st
   have hs3 := hs3.mono hg4.le
   have hok := hok.mono hg4.le
   have hv6 : v6.oneCell' = true := SlM.one1 hs3
   refine wc_region ?_
   refine wl_val (v_move' (by conv => (lhs; whnf))) rfl ?_
   refine wl_svOne (v := v6) Try.underlying29 TF.t37 TF.z37 hv6 rfl st rfl ?_
   intro b60 w st
   have st := st.rowShut 0 (b := b60) (k := 1) (cap := 1) (size := 1) (xs := [v6]) rfl (by omega) rfl (by omega) rfl
   refine wl_val (v_assign' (by conv => (lhs; whnf))) rfl ?_
   refine wl_nil ?_
   refine then_go ?_
   refine wc_seq ?_
   refine wc_region ?_
   refine wl_val (v_move' (by conv => (lhs; whnf))) rfl ?_
   refine wl_call rfl (c_ref3of st.im hs3 (Nat.le_trans hal (by decide))) rfl ?_
   rintro v62 w ⟨t62, rfl⟩
   have st := st.pure t62
   refine wl_val (v_move' (by conv => (lhs; whnf))) rfl ?_
   refine wl_val (v_move' (by conv => (lhs; whnf))) rfl ?_
   refine wl_append (news := N.map (·.2)) 0 st rfl Try.underlying29 Try.underlying29 (.inr ⟨_, rfl⟩) TF.t37 TF.z37 rfl rfl rfl (hrow.src st.im (fun u hu => by obtain ⟨y, hy, rfl⟩ := List.mem_map.1 hu; exact SlM.one1 (hok y hy))) (by omega) (by omega) rfl ?_
   intro v65 w _ st
   refine wl_storeW 1 st rfl TF.t28 rfl rfl (by simp [length_bs, length_sum]) rfl (one_bs _) ?_
   intro w st
   refine wl_val (v_assign' (by conv => (lhs; whnf))) rfl ?_
   refine wl_nil ?_
   refine then_go ?_
   refine wc_ret ?_
   have hrd := st.reads (v := arr (sum (accB g' d L 2))) 1 rfl TF.t28 (getV_all (by simp [length_bs, length_sum]))
   obtain ⟨m5, hg5, hm5, st5⟩ := st.freezeR (i := 0) rfl (by simp)
   have hrow2 := row_SlM (m := m5) (st.at (i := 0) rfl) hm5
   refine ret2c rfl hrd rfl ((st5.keepOnly (l := []) (List.nil_sublist _)).out ⟨_, (accB g' d L 2, v6) :: N, by rw [e], ⟨?_, ?_⟩, ?_⟩)
   ·rw [show ((accB g' d L 2, v6) :: N).length = 1 + N.length by simp; omega]
    exact hrow2
   ·intro y hy
    rcases List.mem_cons.1 hy with h | h
    ·rw [h]; exact hs3.mono hg5.le
    ·exact (hok y h).mono hg5.le
   ·rw [List.map_cons, hN, hsv]
theorem c_rsave : ∀ {g : Nat}, SvC g := by
 intro g
 induction g with
 | zero => intro d L lv m w him hl hdp hD hgd hL; exact c_rsave0 (fun g' h => by cases h) him hl hdp hD hgd hL
 | succ g ih => intro d L lv m w him hl hdp hD hgd hL; exact c_rsave0 (fun g' h => by cases h; exact ih) him hl hdp hD hgd hL
end
end Go.Proofs.Ytonlmjpenonabaa

namespace Go.Proofs.Ytonlmjpenonabaa
open Go Go.RowKit K SH PT
theorem sv_ok : ∀ {g d : Nat} {L : List (By × By)}, D32p L → Dst d L → g + d = 256 → ∀ b ∈ sv g d L, 1 ≤ b.length ∧ b.length ≤ 512
 | 0, d, L, hL, hD, hgd, b, hb => by
  simp only [sv, List.mem_singleton] at hb
  subst hb
  refine ⟨wh_pos, ?_⟩
  match L, hD with
  | [], _ => rw [wh_nil]; decide
  | [x], _ => exact Nat.le_trans (wh_lt2 (by simp) hL) (by decide)
  | x :: y :: l, hD => rw [show d = 256 by omega] at hD; exact hD.two.elim
 | g + 1, d, L, hL, hD, hgd, b, hb => by
  by_cases hs : (wh (g + 1) d L).length ≤ 512
  ·rw [sv_small hs, List.mem_singleton] at hb
   subst hb
   exact ⟨wh_pos, hs⟩
  ·rw [sv_big hs] at hb
   have h1 := sideB_len (g := g) (d := d + 1) (hL.half (d := d) (b := false))
   have h2 := sideB_len (g := g) (d := d + 1) (hL.half (d := d) (b := true))
   have hr : ∀ {on : Bool} {b : By}, b ∈ restB (sv g (d + 1) (halfL L d on)) (halfL L d on) → 1 ≤ b.length ∧ b.length ≤ 512 := fun {on b} hb => by
    unfold restB at hb
    split at hb
    ·cases hb
    ·exact sv_ok hL.half (hD.half (by omega) on) (by omega) b hb
   rcases List.mem_cons.1 hb with hb | hb
   ·subst hb
    simp only [List.length_cons, List.length_append]
    omega
   ·rcases List.mem_append.1 hb with hb | hb
    ·exact hr hb
    ·exact hr hb
section
variable {m : Mem} {wI : World}
theorem c_pagesSaves {va vv : Value} {A V : List By} (him : Im m wI) (ha : DigM m va A) (hv : DigM m vv V) (hA9 : A.length ≤ 9223372036854775807) (hV9 : V.length ≤ 9223372036854775807) :
  Ret Try.prog 3 #[va, vv] wI fun v w' => Tch wI w' [] [] ∧ v = .bool true := by
 have st := St.start him
 obtain ⟨a1, c1, rfl⟩ := ha.sl
 obtain ⟨a2, c2, rfl⟩ := hv.sl
 refine ret_of Try.call3 Try.func3 rfl Try.ntmps3 Try.results3 rfl ?_
 refine wc_seq ?_
 refine wc_region ?_
 refine wl_val (v_assign' (by conv => (lhs; whnf))) rfl ?_
 refine wl_nil ?_
 refine then_go ?_
 refine wc_seq ?_
 refine wc_seq ?_
 refine wc_region ?_
 refine wl_val (v_move' (by conv => (lhs; whnf))) rfl ?_
 refine wl_call rfl (c_few17 st.im) rfl ?_
 rintro v12 w ⟨t12, rfl⟩
 have st := st.pure t12
 refine wl_val (v_not rfl) rfl ?_
 refine wl_nil ?_
 refine then_go ?_
 refine wc_cond rfl (fun h13 => ?_) (fun h13 => ?_)
 ·refine wc_seq ?_
  refine wc_region ?_
  refine wl_call rfl (c_works17 st.im) rfl ?_
  rintro v14 w ⟨t14, rfl⟩
  have st := st.pure t14
  refine wl_val (v_assign' (by conv => (lhs; whnf))) rfl ?_
  refine wl_nil ?_
  refine then_go ?_
  refine wc_ret (then_ret ?_)
  exact ret1 rfl ⟨(st.keepOnly (l := []) (List.nil_sublist _)).touch, rfl⟩
 ·refine wc_skip ?_
  refine then_go ?_
  refine wc_seq ?_
  refine wc_region ?_
  refine wl_val (v_move' (by conv => (lhs; whnf))) rfl ?_
  refine wl_val (v_move' (by conv => (lhs; whnf))) rfl ?_
  have hA : A.length ≤ 40 := by simp at h13; omega
  have hz : (A.zip V).length ≤ 40 := by simp; omega
  have hol := length_ofLv (A.zip V)
  obtain ⟨hfD, hfU, hfd⟩ := ofLv_fine (d32_zip ha.1 hv.1)
  refine wl_call rfl (c_tof' st.im ha hv (by omega)) rfl ?_
  rintro v17 w ⟨t17, m1, hg1, hi1, p, rfl, hp⟩
  have st := st.grown hg1 t17 hi1
  have ha := ha.mono hg1.le
  have hv := hv.mono hg1.le
  obtain ⟨L, hL⟩ : ∃ L, L = ofLv (A.zip V) := ⟨_, rfl⟩
  rw [← hL] at hp hol hfD hfU hfd
  refine wl_val (v_assign' (by conv => (lhs; whnf))) rfl ?_
  refine wl_nil ?_
  refine then_go ?_
  refine wc_seq ?_
  refine wc_seq ?_
  refine wc_region ?_
  refine wl_val (v_move' (by conv => (lhs; whnf))) rfl ?_
  refine wl_val (v_eq_nil Try.underlying25 rfl rfl) rfl ?_
  refine wl_nil ?_
  refine then_go ?_
  refine wc_false rfl ?_
  refine wc_skip ?_
  refine then_go ?_
  refine wc_seq ?_
  refine wc_region ?_
  refine wl_val (v_move' (by conv => (lhs; whnf))) rfl ?_
  refine wl_call rfl (c_save st.im hp hfD hfU hfd (by omega)) rfl ?_
  rintro v22 w ⟨t22, m2, hg2, hi2, lv1, N1, rfl, hN1, hs1⟩
  have st := st.grown hg2 t22 hi2
  have ha := ha.mono hg2.le
  have hv := hv.mono hg2.le
  obtain ⟨na, nc, hlv1⟩ : ∃ a c, lv1 = .slice a N1.length c := by obtain ⟨⟨_, a, c, h, _⟩, _⟩ := hN1; exact ⟨a, c, h⟩
  subst hlv1
  refine wl_val (v_move' (by conv => (lhs; whnf))) rfl ?_
  refine wl_val (v_extract rfl rfl) rfl ?_
  refine wl_val (v_extract rfl rfl) rfl ?_
  refine wl_alloc TF.z28 st rfl ?_
  intro b6 w st
  refine wl_storeW (cs := (bs (sum (pg1 256 0 L))).toArray) 0 st rfl TF.t28 rfl rfl (by rw [List.size_toArray, length_bs, length_sum]) rfl (one_bs _) ?_
  intro w st
  refine wl_val (v_assign' (by conv => (lhs; whnf))) rfl ?_
  refine wl_nil ?_
  refine then_go ?_
  refine wc_seq ?_
  refine wc_region ?_
  refine wl_val (v_move' (by conv => (lhs; whnf))) rfl ?_
  refine wl_val (v_move' (by conv => (lhs; whnf))) rfl ?_
  refine wl_call rfl (c_rof st.im ha hv (by omega) hV9) rfl ?_
  rintro v28 w ⟨t28, m3, hg3, hi3, hlv⟩
  have st := st.grown hg3 t28 hi3
  have hN1 := hN1.mono hg3.le
  rw [← hL] at hlv
  refine wl_call rfl (c_rsave (g := 256) (d := 0) st.im hlv hfd hfD rfl (by omega)) rfl ?_
  rintro v29 w ⟨t29, m4, hg4, hi4, lv2, N2, rfl, hN2, hs2⟩
  have st := st.grown hg4 t29 hi4
  have hN1 := hN1.mono hg4.le
  have hN1l : N1.length ≤ 1000000 := by
   have h := sv_len (g := 256) (d := 0) (L := L)
   have h2 : N1.length = (sv 256 0 L).length := by rw [← hs1, List.length_map]
   omega
  refine wl_val (v_move' (by conv => (lhs; whnf))) rfl ?_
  refine wl_val (v_extract rfl rfl) rfl ?_
  refine wl_val (v_extract rfl rfl) rfl ?_
  refine wl_alloc TF.z28 st rfl ?_
  intro b8 w st
  refine wl_storeW (cs := (bs (sum (pg1 256 0 L))).toArray) 0 st rfl TF.t28 rfl rfl (by rw [List.size_toArray, length_bs, length_sum]) rfl (one_bs _) ?_
  intro w st
  refine wl_val (v_assign' (by conv => (lhs; whnf))) rfl ?_
  refine wl_nil ?_
  refine then_go ?_
  refine wc_seq ?_
  refine wc_seq ?_
  refine wc_region ?_
  refine wl_val (v_load rfl (st.reads (v := arr (sum (pg1 256 0 L))) 1 rfl TF.t28 (getV_all (by rw [List.size_toArray, length_bs, length_sum])))) rfl ?_
  refine wl_val (v_load rfl (st.reads (v := arr (sum (pg1 256 0 L))) 0 rfl TF.t28 (getV_all (by rw [List.size_toArray, length_bs, length_sum])))) rfl ?_
  refine wl_val (wl_valD (v_ne_arr Try.underlying28 TF.t5 Try.underlying5 TF.e28 rfl rfl (length_sum _) (length_sum _)) (decide_eq_false (by simp))) rfl ?_
  refine wl_val (v_move' (by conv => (lhs; whnf))) rfl ?_
  refine wl_on rfl rfl ?_
  refine wl_val (v_move' (by conv => (lhs; whnf))) rfl ?_
  refine wl_on rfl rfl ?_
  refine wl_val (v_move' (by conv => (lhs; whnf))) rfl ?_
  refine wl_on rfl rfl ?_
  refine wl_call rfl (c_sametexts st.im hN1 hN2 (hs1.trans hs2.symm) (by omega)) rfl ?_
  rintro v38 w ⟨t38, rfl⟩
  have st := st.pure t38
  refine wl_on rfl rfl ?_
  refine wl_val (v_not rfl) rfl ?_
  refine wl_val (v_pick rfl) rfl ?_
  refine wl_nil ?_
  refine then_go ?_
  refine wc_false rfl ?_
  refine wc_skip ?_
  refine then_go ?_
  refine wc_seq ?_
  refine wc_seq ?_
  refine wc_region ?_
  refine wl_val (v_assign' (by conv => (lhs; whnf))) rfl ?_
  refine wl_nil ?_
  refine then_go ?_
  refine wc_block ?_
  have st := st.keepOnly (l := []) (List.nil_sublist _)
  refine wc_loop (S := Nat) (fun q r w' => ∃ (i : Nat), q + i = N1.length ∧ r 7 = .slice na N1.length nc ∧ r 10 = .int .i64 i ∧ St m m4 [] wI w' []) id N1.length ⟨0, by omega, rfl, rfl, st⟩ ?_
  clear st
  rintro q r w2 ⟨i, hqi, g7, g10, st⟩
  refine wc_o 7 g7 (wc_o 10 g10 ?_)
  refine wc_seq ?_
  refine wc_seq ?_
  refine wc_region ?_
  refine wl_val (v_move' (by conv => (lhs; whnf))) rfl ?_
  refine wl_val (v_move' (by conv => (lhs; whnf))) rfl ?_
  refine wl_val (v_len_s Try.underlying29 rfl) rfl ?_
  refine wl_val (v_lss rfl rfl) rfl ?_
  refine wl_nil ?_
  refine then_go ?_
  refine wc_if rfl (fun h44 => ?_) (fun h44 => ?_)
  ·refine wc_skip ?_
   refine then_go ?_
   refine wc_seq ?_
   refine wc_block ?_
   refine wc_seq ?_
   have hi : i < N1.length := by omega
   obtain ⟨nb, no, _, hnv, hs0, hrp⟩ := hN1.elem hi
   cases hnv
   obtain ⟨_, pa, pc, hpv, _⟩ := hs0
   rw [hpv] at hrp
   obtain ⟨k1, k2⟩ := sv_ok hfd hfD rfl N1[i].1 (by rw [← hs1]; exact List.mem_map.2 ⟨_, List.getElem_mem hi, rfl⟩)
   refine wc_region ?_
   refine wl_val (v_move' (by conv => (lhs; whnf))) rfl ?_
   refine wl_val (v_move' (by conv => (lhs; whnf))) rfl ?_
   refine wl_val (v_ias i Try.underlying29 TF.t37 rfl rfl (by first | rfl | omega) (by first | omega | (dsimp only at *; omega))) rfl ?_
   refine wl_val (v_load rfl (hrp st.im)) rfl ?_
   refine wl_val (v_len_s Try.underlying37 rfl) rfl ?_
   refine wl_val (v_eqlF (by omega) rfl rfl) rfl ?_
   refine wl_val (v_move' (by conv => (lhs; whnf))) rfl ?_
   refine wl_on rfl rfl ?_
   refine wl_val (v_move' (by conv => (lhs; whnf))) rfl ?_
   refine wl_on rfl rfl ?_
   refine wl_val (v_move' (by conv => (lhs; whnf))) rfl ?_
   refine wl_on rfl rfl ?_
   refine wl_val (v_ias i Try.underlying29 TF.t37 rfl rfl (by first | rfl | omega) (by first | omega | (dsimp only at *; omega))) rfl ?_
   refine wl_on rfl rfl ?_
   refine wl_val (v_load rfl (hrp st.im)) rfl ?_
   refine wl_on rfl rfl ?_
   refine wl_val (v_len_s Try.underlying37 rfl) rfl ?_
   refine wl_on rfl rfl ?_
   refine wl_val (wl_valD (v_gtr rfl rfl) (decide_eq_false (by omega))) rfl ?_
   refine wl_val (v_pick rfl) rfl ?_
   refine wl_nil ?_
   refine then_go ?_
   refine wc_false rfl ?_
   refine wc_skip ?_
   refine block_go (then_go ?_)
   refine wc_region ?_
   refine wl_val (v_move' (by conv => (lhs; whnf))) rfl ?_
   refine wl_val (v_add' (c := ((i + 1 : Nat) : Int)) rfl rfl (by omega) (by omega) (by omega)) rfl ?_
   refine wl_val (v_assign' (by conv => (lhs; whnf))) rfl ?_
   refine wl_nil ?_
   refine then_go ?_
   exact ⟨q - 1, by simp; omega, i + 1, by omega, rfl, rfl, st⟩
  ·refine wc_exit (then_exit (then_exit (block_hit ?_)))
   refine then_go ?_
   refine wc_seq ?_
   refine wc_region ?_
   refine wl_call rfl (c_works17 st.im) rfl ?_
   rintro v61 w ⟨t61, rfl⟩
   have st := st.pure t61
   refine wl_val (v_assign' (by conv => (lhs; whnf))) rfl ?_
   refine wl_nil ?_
   refine then_go ?_
   refine wc_ret ?_
   exact ret1 rfl ⟨st.touch, rfl⟩
end
end Go.Proofs.Ytonlmjpenonabaa

namespace Go.Proofs.Ytonlmjpenonabaa
open Go Go.ChangeShapes Go.WideShapes Go.ChangeAt Go.RowKit K SH PT
theorem Try.ownpa : ownKnob Try.prog.godebug = none := by kernel_rfl
theorem Try.laidOutpa : laidOutB Try.prog = true := by kernel_rfl
theorem Try.trodAllpa {H : Type} {enc : TypeId × Value → H} {w : World} {held : Bool} {P : Program} {base : Nat} {spare : Nat → Bool} {t0 t1 : TypeId} {args : Array Value} {ds : List (DataW H)} {ps : List MemPlace} (h : DataW.TrodAll enc P w base spare held [t0, t1] args.toList ds ps) :
  ∃ v0 v1 d0 d1 p0 p1, args = #[v0, v1] ∧ ds = [d0, d1] ∧ ps = p0 ++ p1 ∧ DataW.Trod enc P w base spare held t0 v0 d0 p0 ∧ DataW.Trod enc P w base spare held t1 v1 d1 p1 := by
 obtain ⟨v0, vs0, d0, ds0, p0, q0, hargs, rfl, rfl, hd0, h⟩ := trodAll_cons h
 obtain ⟨v1, vs1, d1, ds1, p1, q1, rfl, rfl, rfl, hd1, h⟩ := trodAll_cons h
 obtain ⟨rfl, rfl, rfl⟩ := trodAll_nil h
 exact ⟨v0, v1, d0, d1, p0, p1, by cases args; simp_all, rfl, by simp, hd0, hd1⟩
set_option maxRecDepth 100000 in
theorem pagesSaves_lifted (os : Os) (started : os.Started) (H : Type) (enc : TypeId × Value → H) :
  ReturnsInHanded {} Try.checked os 3 .any (Rows.pagesSavesSpec.pre6 enc Try.prog Try.f3 Rows.pagesSavesRow.domain false) (Rows.pagesSavesSpec.post enc Try.prog Try.f3 false true false false) := by
 refine returnsInHanded_of_change (C := Try.checked) Try.ownpa started (by kernel_rfl) Try.func3
  (ChangeSpec.witness6 (enc := enc) (C := Try.checked) false ⟨#[], #[.slice none 0 0, .slice none 0 0], []⟩ 12 (by kernel_rfl) (by kernel_rfl) (by kernel_rfl) (by kernel_rfl)) ?_
 intro W base args ds gs before hval0 hW hcnd _
 have hval : ∀ (j : Nat) t v, Try.f3.params[j]? = some t → args[j]? = some v → Value.okWide Try.prog W .any base t v := hval0
 have hW' := hW
 obtain ⟨p, q, hA0, hV, rfl, hfz, hnd⟩ := hW
 have hA : DataW.TrodAll enc Try.prog W 0 (fun _ => true) true Try.f3.params.toList args.toList ds p := hA0
 rw [Try.params3] at hA hval
 obtain ⟨v0, v1, d0, d1, p0, p1, rfl, rfl, rfl, h0, h1⟩ := Try.trodAllpa hA
 obtain ⟨fu0, hf0⟩ := h0
 obtain ⟨sa0, sl0, sc0, rfl⟩ := okWide_slice Try.underlying22 (hval 0 22 v0 rfl rfl)
 obtain ⟨l0, hl0, hn0⟩ := open_digs hf0
 obtain ⟨fu1, hf1⟩ := h1
 obtain ⟨sa1, sl1, sc1, rfl⟩ := okWide_slice Try.underlying22 (hval 1 22 v1 rfl rfl)
 obtain ⟨l1, hl1, hn1⟩ := open_digs hf1
 refine Calls.mono (P := Try.prog) (c_pagesSaves (im_heapM W) hl0 hl1 hn0 hn1).2 fun e W1 ⟨v, he, t, hv⟩ => ?_
 subst hv
 subst he
 exact ⟨_, rfl, post_true Try.laidOutpa (by kernel_rfl) rfl hW' t rfl rfl Try.underlying4⟩
theorem pagesSaves_holds : Rows.PagesSavesSaid :=
 OpenClaim.holds_of_wide 3 Try.f3 rfl rfl rfl rfl rfl rfl rfl ⟨rfl, rfl, rfl, rfl, rfl⟩ rfl rfl rfl rfl rfl (by kernel_rfl) Try.func3 (by kernel_rfl)
  (of_decide_eq_true (by kernel_rfl)) (by unfold Func.isWrapper; first | (rw [if_pos (by decide +kernel)]; kernel_rfl) | (rw [if_neg (by decide +kernel)]; exact ⟨rfl, rfl⟩))
  (fun os started H enc _ => pagesSaves_lifted os started H enc)
end Go.Proofs.Ytonlmjpenonabaa
