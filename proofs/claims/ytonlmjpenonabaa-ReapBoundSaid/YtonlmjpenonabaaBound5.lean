/-
  Proved here: for every input the law ReapBound returns true, and what it was handed reads behind the call as before. No condition.
-/
import Derived.Test.YtonlmjpenonabaaRows
import Derived.Test.YtonlmjpenonabaaBound4

namespace Go.Proofs.Ytonlmjpenonabaa
open Go Go.RowKit K SH PT
def mostF (Ts : List (List (By × By))) : Nat := (Ts.map fun L => 1 + 256 * L.length).sum
theorem mostF_snoc {Ts : List (List (By × By))} {L : List (By × By)} : mostF (Ts ++ [L]) = mostF Ts + (1 + 256 * L.length) := by simp [mostF]
theorem mostF_ge : ∀ {Ts : List (List (By × By))}, (Ts.flatMap (sv 256 0)).length ≤ mostF Ts
 | [] => Nat.le_refl _
 | L :: Ts => by
  have := mostF_ge (Ts := Ts)
  have h := sv_len (g := 256) (d := 0) (L := L)
  rw [List.flatMap_cons, List.length_append, show mostF (L :: Ts) = (1 + 256 * L.length) + mostF Ts by simp [mostF]]
  omega
theorem mostF_le {k : Nat} : ∀ {Ts : List (List (By × By))}, (∀ L ∈ Ts, L.length ≤ k) → mostF Ts ≤ Ts.length * (1 + 256 * k)
 | [], _ => Nat.zero_le _
 | L :: Ts, h => by
  have h1 := mostF_le (Ts := Ts) fun x hx => h x (List.mem_cons_of_mem _ hx)
  have h2 := h L (List.mem_cons_self ..)
  rw [show mostF (L :: Ts) = (1 + 256 * L.length) + mostF Ts by simp [mostF], List.length_cons, Nat.add_mul]
  omega
section
variable {m : Mem} {wI : World}
theorem c_reapBound {av vv kv : Value} {A V : List By} {Kp : List Bool} (him : Im m wI) (hA : DigM m av A) (hV : DigM m vv V) (hK : LsM m kv bC 1 Kp) :
  Ret Try.prog 10 #[.agg #[av, vv, kv]] wI fun v w' => Tch wI w' [] [] ∧ v = .bool true := by
 have st := St.start him
 refine ret_of Try.call10 Try.func10 rfl Try.ntmps10 Try.results10 rfl ?_
 refine wc_seq ?_
 refine wc_region ?_
 refine wl_box (v := .agg #[av, vv, kv]) rfl st rfl ?_
 intro b1 w st
 refine wl_val (v_assign' (by conv => (lhs; whnf))) rfl ?_
 refine wl_nil ?_
 refine then_go ?_
 refine wc_seq ?_
 refine wc_region ?_
 refine wl_val (v_load rfl (st.reads (v := .agg #[av, vv, kv]) 0 rfl TF.t53 (getV_all rfl))) rfl ?_
 refine wl_call rfl (c_all18 st.im hA hV hK) rfl ?_
 rintro v15 w ⟨t15, m1, hg1, hi1, lv, pv, tv, N, Ks, n, hn, rfl, hlk, hN, hls, hKs, hNe, hKe⟩
 have st := (st.grown hg1 t15 hi1).keepOnly (l := []) (List.nil_sublist _)
 obtain ⟨Z, hZ⟩ : ∃ Z, Z = A.zip V := ⟨_, rfl⟩
 have hZ32 : D32p Z := by rw [hZ]; exact d32_zip hA.1 hV.1
 rw [← hZ] at hlk hNe hKe
 have hn20 : n ≤ 20 := by omega
 have hNn : N.length ≤ 120000 := by
  have h1 := congrArg List.length hNe
  rw [List.length_map] at h1
  have := allP_len (Z := Z) hn20
  omega
 have hNl : ∀ x ∈ N, x.1.length ≤ 1000000000 := fun x hx => allP_short hZ32 x.1 (by rw [← hNe]; exact List.mem_map.2 ⟨x, hx, rfl⟩)
 obtain ⟨Ts, hTs⟩ : ∃ Ts, Ts = keptF Z Kp n := ⟨_, rfl⟩
 have hTl : Ts.length ≤ n := by rw [hTs]; exact keptF_len
 have hkf : ∀ L ∈ Ts, Fine L ∧ L.length ≤ n ∧ ∀ p ∈ sv 256 0 L, p ∈ allP Z n := fun L hL => kept_fine hZ32 (hTs ▸ hL)
 have hkm : NoClash (N.map (·.1)) → _ := fun hc => kept_mark (Kp := Kp) hZ32 hNe hc
 rw [← hTs] at hlk hKe hkm
 obtain ⟨la, lc, rfl⟩ := hlk.sl
 obtain ⟨pa, pc, hpv⟩ : ∃ a c, pv = .slice a N.length c := by obtain ⟨⟨_, a, c, h, _⟩, _⟩ := hN; exact ⟨a, c, h⟩
 subst hpv
 obtain ⟨ta, tc, rfl⟩ := hls.sl
 rw [List.length_map] at hlk ⊢
 refine wl_val (v_move' (by conv => (lhs; whnf))) rfl ?_
 refine wl_val (v_extract rfl rfl) rfl ?_
 refine wl_val (v_extract rfl rfl) rfl ?_
 refine wl_val (v_extract rfl rfl) rfl ?_
 refine wl_val (v_assign' (by conv => (lhs; whnf))) rfl ?_
 refine wl_val (v_assign' (by conv => (lhs; whnf))) rfl ?_
 refine wl_val (v_assign' (by conv => (lhs; whnf))) rfl ?_
 refine wl_nil ?_
 refine then_go ?_
 refine wc_seq ?_
 refine wc_seq ?_
 refine wc_region ?_
 refine wl_val (v_move' (by conv => (lhs; whnf))) rfl ?_
 refine wl_call rfl (c_any17 st.im hN hNl (by omega)) rfl ?_
 rintro v20 w ⟨t20, c, rfl, hany⟩
 have st := st.pure t20
 refine wl_nil ?_
 refine then_go ?_
 refine wc_cond rfl (fun h20 => ?_) (fun h20 => ?_)
 ·refine wc_seq ?_
  refine wc_region ?_
  refine wl_call rfl (c_works18 st.im) rfl ?_
  rintro v21 w ⟨t21, rfl⟩
  have st := st.pure t21
  refine wl_val (v_assign' (by conv => (lhs; whnf))) rfl ?_
  refine wl_nil ?_
  refine then_go ?_
  refine wc_ret (then_ret ?_)
  exact ret1 rfl ⟨st.touch, rfl⟩
 ·refine wc_skip ?_
  refine then_go ?_
  refine wc_seq ?_
  refine wc_region ?_
  refine wl_val (v_move' (by conv => (lhs; whnf))) rfl ?_
  refine wl_val (v_move' (by conv => (lhs; whnf))) rfl ?_
  have hnc := hany h20
  obtain ⟨k1, k2, k3⟩ := hkm hnc
  have hml : (Ts.flatMap (sv 256 0)).length ≤ 200000 := by
   have h1 := mostF_ge (Ts := Ts)
   have h2 := mostF_le (k := 20) fun L hL => Nat.le_trans (hkf L hL).2.1 hn20
   have h3 := Nat.mul_le_mul_right (1 + 256 * 20) (Nat.le_trans hTl hn20)
   omega
  have hmk := markL_len (S := Ts.flatMap (sv 256 0))
  refine wl_call rfl (c_live st.im hlk hN hNl (by omega) (by rw [List.length_map]; omega) (fun d hd => Nat.le_trans (k3 d hd) (by omega)) (fun _ => by rw [k2]; omega)) rfl ?_
  rintro v25 w ⟨t25, m2, hg2, hi2, hv25⟩
  have st := st.grown hg2 t25 hi2
  unfold LiveOut at hv25
  rw [k1, if_neg (by simp), k2] at hv25
  obtain ⟨ov, La, rfl, hov, hperm, _⟩ := hv25
  obtain ⟨oa, oc, rfl⟩ := hov.sl
  have hLal : La.length ≤ (Ts.flatMap (sv 256 0)).length := by rw [hperm.length_eq, List.length_map]; exact hmk
  have hLam : ∀ d ∈ La, ∃ k, ∃ (h : k < N.length), sum N[k].1 = d := fun d hd => by
   have h1 := markL_mem.1 (hperm.mem_iff.1 hd)
   obtain ⟨p, hp, hpd⟩ := List.mem_map.1 h1
   obtain ⟨L, hL, hpL⟩ := List.mem_flatMap.1 hp
   have h2 := (hkf L hL).2.2 p hpL
   rw [← hNe] at h2
   obtain ⟨x, hx, hxp⟩ := List.mem_map.1 h2
   obtain ⟨k, hk, rfl⟩ := List.getElem_of_mem hx
   exact ⟨k, hk, by rw [hxp]; exact hpd⟩
  have hlk := hlk.mono hg2.le
  have hls := hls.mono hg2.le
  have hN := hN.mono hg2.le
  have hKs : ∀ x ∈ Ks, LvM m2 (.agg #[x.2.1, x.2.2]) x.1 := fun x hx => (hKs x hx).mono hg2.le
  have hKl : Ks.length = Ts.length := by rw [← hKe, List.length_map]
  have hmT : mostF Ts ≤ 200000 := by
   have h2 := mostF_le (k := 20) fun L hL => Nat.le_trans (hkf L hL).2.1 hn20
   have h3 := Nat.mul_le_mul_right (1 + 256 * 20) (Nat.le_trans hTl hn20)
   omega
  refine wl_val (v_move' (by conv => (lhs; whnf))) rfl ?_
  refine wl_val (v_extract rfl rfl) rfl ?_
  refine wl_val (v_extract rfl rfl) rfl ?_
  refine wl_val (v_assign' (by conv => (lhs; whnf))) rfl ?_
  refine wl_val (v_assign' (by conv => (lhs; whnf))) rfl ?_
  refine wl_nil ?_
  refine then_go ?_
  refine wc_seq ?_
  refine wc_seq ?_
  refine wc_region ?_
  refine wl_val (v_move' (by conv => (lhs; whnf))) rfl ?_
  refine wl_val (wl_valD (v_neq rfl rfl) (q := false) rfl) rfl ?_
  refine wl_nil ?_
  refine then_go ?_
  refine wc_false rfl ?_
  refine wc_skip ?_
  refine then_go ?_
  refine wc_seq ?_
  refine wc_region ?_
  refine wl_val (v_assign' (by conv => (lhs; whnf))) rfl ?_
  refine wl_nil ?_
  refine then_go ?_
  refine wc_seq ?_
  refine wc_seq ?_
  refine wc_region ?_
  refine wl_val (v_assign' (by conv => (lhs; whnf))) rfl ?_
  refine wl_nil ?_
  refine then_go ?_
  refine wc_block ?_
  refine wc_loop (S := Nat) (fun q r w' => ∃ (i : Nat), q + i = Ts.length ∧ r 4 = .slice pa N.length pc ∧ r 5 = .slice ta Ks.length tc ∧ r 6 = .slice oa La.length oc ∧ r 8 = .int .i64 (mostF (Ts.take i) : Nat) ∧ r 9 = .int .i64 i ∧ St m m2 [] wI w' []) id Ts.length ⟨0, by omega, rfl, rfl, rfl, rfl, rfl, st⟩ ?_
  clear st
  rintro q r w2 ⟨i, hqi, g4, g5, g6, g8, g9, st⟩
  refine wc_o 4 g4 (wc_o 5 g5 (wc_o 6 g6 (wc_o 8 g8 (wc_o 9 g9 ?_))))
  refine wc_seq ?_
  refine wc_seq ?_
  refine wc_region ?_
  refine wl_val (v_move' (by conv => (lhs; whnf))) rfl ?_
  refine wl_val (v_move' (by conv => (lhs; whnf))) rfl ?_
  refine wl_val (v_len_s Try.underlying54 rfl) rfl ?_
  refine wl_val (v_lss rfl rfl) rfl ?_
  refine wl_nil ?_
  refine then_go ?_
  refine wc_if rfl (fun h33 => ?_) (fun h33 => ?_)
  ·refine wc_skip ?_
   refine then_go ?_
   refine wc_seq ?_
   refine wc_block ?_
   have hi : i < Ts.length := by omega
   have hiK : i < Ks.length := by omega
   have hKi : Ks[i].1 = Ts[i] := by
    have e : Ts[i] = (Ks.map (·.1))[i]'(by rw [List.length_map]; exact hiK) := by simp [hKe]
    rw [e, List.getElem_map]
   have hLv := hKs _ (List.getElem_mem hiK)
   rw [hKi] at hLv
   have hLn := (hkf _ (List.getElem_mem hi)).2.1
   obtain ⟨tb, to', hta⟩ := hls.ptr (by omega) (by decide)
   subst hta
   obtain ⟨u1, u2, hu, hD1, _⟩ := hLv
   obtain ⟨ka, kc, hu1⟩ := hD1.sl
   rw [List.length_map] at hu1
   have hk21 : Ks[i].2.1 = .slice ka Ts[i].length kc := by
    simp only [Value.agg.injEq, Array.mk.injEq, List.cons.injEq, and_true] at hu
    rw [hu.1, hu1]
   have hrT : ∀ {w' : World}, Im m2 w' → Reads Try.prog w' 22 ⟨tb, to' + i * 2 + 0, none⟩ (.slice ka Ts[i].length kc) := fun him => hls.rd rfl hiK (by decide) TF.t22 (by rw [← hk21]; rfl) him
   have hms : mostF (Ts.take (i + 1)) = mostF (Ts.take i) + (1 + 256 * Ts[i].length) := by rw [List.take_succ_eq_append_getElem hi, mostF_snoc]
   have hmb : mostF (Ts.take (i + 1)) ≤ 200000 := by
    have h2 := mostF_le (k := 20) (Ts := Ts.take (i + 1)) fun L hL => Nat.le_trans (hkf L (List.mem_of_mem_take hL)).2.1 hn20
    have h3 := Nat.mul_le_mul_right (1 + 256 * 20) (Nat.le_trans (Nat.le_trans (show (Ts.take (i + 1)).length ≤ Ts.length by simp; omega) hTl) hn20)
    omega
   refine wc_region ?_
   refine wl_val (v_move' (by conv => (lhs; whnf))) rfl ?_
   refine wl_val (v_add' (c := ((mostF (Ts.take i) + 1 : Nat) : Int)) rfl rfl (by omega) (by omega) (by omega)) rfl ?_
   refine wl_val (v_move' (by conv => (lhs; whnf))) rfl ?_
   refine wl_val (v_move' (by conv => (lhs; whnf))) rfl ?_
   refine wl_val (v_ias i Try.underlying54 TF.t34 rfl rfl (by first | rfl | omega) (by first | omega | (dsimp only at *; omega))) rfl ?_
   refine wl_val (v_fa TF.f34_0 rfl) rfl ?_
   refine wl_val (v_load rfl (hrT st.im)) rfl ?_
   refine wl_val (v_len_s Try.underlying22 rfl) rfl ?_
   refine wl_val (v_mul' (c := ((256 * Ts[i].length : Nat) : Int)) rfl rfl (by omega) (by omega) (by omega)) rfl ?_
   refine wl_val (v_add' (c := ((mostF (Ts.take (i + 1)) : Nat) : Int)) rfl rfl (by omega) (by omega) (by omega)) rfl ?_
   refine wl_val (v_assign' (by conv => (lhs; whnf))) rfl ?_
   refine wl_nil ?_
   refine block_go (then_go ?_)
   refine wc_region ?_
   refine wl_val (v_move' (by conv => (lhs; whnf))) rfl ?_
   refine wl_val (v_add' (c := ((i + 1 : Nat) : Int)) rfl rfl (by omega) (by omega) (by omega)) rfl ?_
   refine wl_val (v_assign' (by conv => (lhs; whnf))) rfl ?_
   refine wl_nil ?_
   refine then_go ?_
   exact ⟨q - 1, by simp; omega, i + 1, by omega, rfl, rfl, rfl, rfl, rfl, st⟩
  ·refine wc_exit (then_exit (then_exit (block_hit ?_)))
   refine then_go ?_
   refine wc_seq ?_
   refine wc_seq ?_
   have hi : i = Ts.length := by omega
   subst hi
   rw [List.take_length]
   refine wc_region ?_
   refine wl_val (v_assign' (by conv => (lhs; whnf))) rfl ?_
   refine wl_nil ?_
   refine then_go ?_
   refine wc_block ?_
   refine wc_loop (S := Nat) (fun q r w' => ∃ (i : Nat), q + i = La.length ∧ r 4 = .slice pa N.length pc ∧ r 6 = .slice oa La.length oc ∧ r 8 = .int .i64 (mostF Ts : Nat) ∧ r 10 = .int .i64 i ∧ St m m2 [] wI w' []) id La.length ⟨0, by omega, rfl, rfl, rfl, rfl, st⟩ ?_
   clear st
   rintro q r w2 ⟨i, hqi, g4, g6, g8, g10, st⟩
   refine wc_o 4 g4 (wc_o 6 g6 (wc_o 8 g8 (wc_o 10 g10 ?_)))
   refine wc_seq ?_
   refine wc_seq ?_
   refine wc_region ?_
   refine wl_val (v_move' (by conv => (lhs; whnf))) rfl ?_
   refine wl_val (v_move' (by conv => (lhs; whnf))) rfl ?_
   refine wl_val (v_len_s Try.underlying22 rfl) rfl ?_
   refine wl_val (v_lss rfl rfl) rfl ?_
   refine wl_nil ?_
   refine then_go ?_
   refine wc_if rfl (fun h49 => ?_) (fun h49 => ?_)
   ·refine wc_skip ?_
    refine then_go ?_
    refine wc_seq ?_
    refine wc_block ?_
    refine wc_seq ?_
    refine wc_region ?_
    refine wl_val (v_assign' (by conv => (lhs; whnf))) rfl ?_
    refine wl_nil ?_
    refine then_go ?_
    refine wc_seq ?_
    refine wc_seq ?_
    refine wc_region ?_
    refine wl_val (v_assign' (by conv => (lhs; whnf))) rfl ?_
    refine wl_nil ?_
    refine then_go ?_
    refine wc_block ?_
    have hi : i < La.length := by omega
    obtain ⟨k0, hk0, hs0⟩ := hLam _ (List.getElem_mem hi)
    obtain ⟨ob, oo, hoa, hro⟩ := hov.at hi
    subst hoa
    have hd32 := hov.1 _ (List.getElem_mem hi)
    refine wc_loop (S := Nat) (fun q r w' => ∃ (k : Nat) (th : Bool), q + k = N.length ∧ r 4 = .slice pa N.length pc ∧ r 6 = .slice (some ⟨ob, oo, none⟩) La.length oc ∧ r 8 = .int .i64 (mostF Ts : Nat) ∧ r 10 = .int .i64 i ∧ r 11 = .bool th ∧ r 12 = .int .i64 k ∧ (k0 < k → th = true) ∧ St m m2 [] wI w' []) id N.length ⟨0, false, by omega, rfl, rfl, rfl, rfl, rfl, rfl, by omega, st⟩ ?_
    clear st
    rintro q2 r w3 ⟨k, th, hqk, g4, g6, g8, g10, g11, g12, hth, st⟩
    refine wc_o 4 g4 (wc_o 6 g6 (wc_o 8 g8 (wc_o 10 g10 (wc_o 11 g11 (wc_o 12 g12 ?_)))))
    refine wc_seq ?_
    refine wc_seq ?_
    refine wc_region ?_
    refine wl_val (v_move' (by conv => (lhs; whnf))) rfl ?_
    refine wl_val (v_move' (by conv => (lhs; whnf))) rfl ?_
    refine wl_val (v_len_s Try.underlying29 rfl) rfl ?_
    refine wl_val (v_lss rfl rfl) rfl ?_
    refine wl_nil ?_
    refine then_go ?_
    refine wc_if rfl (fun h55 => ?_) (fun h55 => ?_)
    ·refine wc_skip ?_
     refine then_go ?_
     refine wc_seq ?_
     refine wc_block ?_
     rcases Bool.eq_false_or_eq_true th with htt | htt
     ·subst htt
      refine wc_draw TF.mixed ?_
      have st := st.pure (touch_drew _)
      refine fl_val 0 rfl (fun _ => (v_move' (by conv => (lhs; whnf)))) rfl (by kernel_rfl) ?_
      refine fl_val 1 rfl (fun _ => (v_move' (by conv => (lhs; whnf)))) rfl (by kernel_rfl) ?_
      refine fl_off 2 rfl rfl rfl rfl rfl rfl (by kernel_rfl) ?_
      refine fl_off 3 rfl rfl rfl rfl rfl rfl (by kernel_rfl) ?_
      refine fl_off 4 rfl rfl rfl rfl rfl rfl (by kernel_rfl) ?_
      refine fl_offd 5 rfl rfl rfl rfl rfl rfl (by kernel_rfl) ?_
      refine fl_off 7 rfl rfl rfl rfl rfl rfl (by kernel_rfl) ?_
      refine fl_off 8 rfl rfl rfl rfl rfl rfl (by kernel_rfl) ?_
      refine fl_off 9 rfl rfl rfl rfl rfl rfl (by kernel_rfl) ?_
      refine fl_offd 10 rfl rfl rfl rfl rfl rfl (by kernel_rfl) ?_
      refine fl_eff1 6 [9, 8, 7, 4, 3, 2, 0] [10] (by kernel_rfl) ⟨obl_off rfl rfl rfl rfl rfl rfl, obl_off rfl rfl rfl rfl rfl rfl, trivial⟩ rfl ?_
      refine wl_off rfl rfl rfl rfl ?_
      refine wl_nil ⟨rfl, ?_⟩
      refine fl_off 11 rfl rfl rfl rfl rfl rfl (by kernel_rfl) ?_
      refine fl_val 12 rfl (fun _ => (v_pick rfl)) rfl (by kernel_rfl) ?_
      refine fl_eff1 13 [] [] (by kernel_rfl) ⟨obl_off rfl rfl rfl rfl rfl rfl, trivial⟩ rfl ?_
      refine wl_val (v_assign' (by conv => (lhs; whnf))) rfl ?_
      refine wl_nil ⟨rfl, ?_⟩
      refine fl_nil (by kernel_rfl) trivial ?_
      refine block_go (then_go ?_)
      refine wc_region ?_
      refine wl_val (v_move' (by conv => (lhs; whnf))) rfl ?_
      refine wl_val (v_add' (c := ((k + 1 : Nat) : Int)) rfl rfl (by omega) (by omega) (by omega)) rfl ?_
      refine wl_val (v_assign' (by conv => (lhs; whnf))) rfl ?_
      refine wl_nil ?_
      refine then_go ?_
      exact ⟨q2 - 1, by simp; omega, k + 1, true, by omega, rfl, rfl, rfl, rfl, rfl, rfl, fun _ => rfl, st⟩
     ·subst htt
      have hk : k < N.length := by omega
      obtain ⟨nb, no, _, hnv, hsk, hrk⟩ := hN.elem hk
      cases hnv
      have hsl := hNl _ (List.getElem_mem hk)
      refine wc_draw TF.mixed ?_
      have st := st.pure (touch_drew _)
      refine fl_val 0 rfl (fun _ => (v_move' (by conv => (lhs; whnf)))) rfl (by kernel_rfl) ?_
      refine fl_val 1 rfl (fun _ => (v_move' (by conv => (lhs; whnf)))) rfl (by kernel_rfl) ?_
      refine fl_on 2 rfl rfl rfl rfl (fun _ => (v_move' (by conv => (lhs; whnf)))) rfl (by kernel_rfl) ?_
      refine fl_on 3 rfl rfl rfl rfl (fun _ => (v_move' (by conv => (lhs; whnf)))) rfl (by kernel_rfl) ?_
      refine fl_on 4 rfl rfl rfl rfl (fun _ => (v_ias k Try.underlying29 TF.t37 rfl rfl (by first | rfl | omega) (by first | omega | (dsimp only at *; omega)))) rfl (by kernel_rfl) ?_
      refine fl_ond 5 rfl rfl rfl rfl (v_load rfl (hrk st.im)) rfl (by kernel_rfl) ?_
      refine fl_on 7 rfl rfl rfl rfl (fun _ => (v_move' (by conv => (lhs; whnf)))) rfl (by kernel_rfl) ?_
      refine fl_on 8 rfl rfl rfl rfl (fun _ => (v_move' (by conv => (lhs; whnf)))) rfl (by kernel_rfl) ?_
      refine fl_on 9 rfl rfl rfl rfl (fun _ => (v_ias i Try.underlying22 TF.t28 rfl rfl (by first | rfl | omega) (by first | omega | (dsimp only at *; omega)))) rfl (by kernel_rfl) ?_
      refine fl_ond 10 rfl rfl rfl rfl (v_load rfl (hro st.im)) rfl (by kernel_rfl) ?_
      refine fl_eff1 6 [9, 8, 7, 4, 3, 2, 0] [10] (by kernel_rfl) ⟨obl_on rfl rfl rfl rfl rfl (v_load rfl (hro st.im)), obl_on rfl rfl rfl rfl rfl (v_load rfl (hrk st.im)), trivial⟩ rfl ?_
      refine wl_on rfl rfl ?_
      refine wl_call rfl (c_ref3of st.im hsk (by omega)) rfl ?_
      rintro v64 w ⟨t64, rfl⟩
      have st := st.pure t64
      refine wl_nil ⟨rfl, ?_⟩
      refine fl_on 11 rfl rfl rfl rfl (fun _ => (v_eq_arr Try.underlying28 TF.t5 Try.underlying5 TF.e28 rfl rfl (length_sum _) hd32)) rfl (by kernel_rfl) ?_
      refine fl_val 12 rfl (fun _ => (v_pick rfl)) rfl (by kernel_rfl) ?_
      refine fl_eff1 13 [] [] (by kernel_rfl) ⟨obl_on rfl rfl rfl rfl rfl (v_load rfl (hro st.im)), trivial⟩ rfl ?_
      refine wl_val (v_assign' (by conv => (lhs; whnf))) rfl ?_
      refine wl_nil ⟨rfl, ?_⟩
      refine fl_nil (by kernel_rfl) trivial ?_
      refine block_go (then_go ?_)
      refine wc_region ?_
      refine wl_val (v_move' (by conv => (lhs; whnf))) rfl ?_
      refine wl_val (v_add' (c := ((k + 1 : Nat) : Int)) rfl rfl (by omega) (by omega) (by omega)) rfl ?_
      refine wl_val (v_assign' (by conv => (lhs; whnf))) rfl ?_
      refine wl_nil ?_
      refine then_go ?_
      refine ⟨q2 - 1, by simp; omega, k + 1, _, by omega, rfl, rfl, rfl, rfl, rfl, rfl, fun h => ?_, st⟩
      rcases Nat.lt_or_ge k0 k with h1 | h1
      ·cases hth h1
      ·have e1 : k0 = k := by omega
       subst e1
       exact decide_eq_true hs0
    ·refine wc_exit (then_exit (then_exit (block_hit ?_)))
     refine then_go ?_
     refine wc_seq ?_
     have hk : k = N.length := by omega
     have htt : th = true := hth (by omega)
     subst htt
     refine wc_region ?_
     refine wl_val (v_move' (by conv => (lhs; whnf))) rfl ?_
     refine wl_val (v_not rfl) rfl ?_
     refine wl_nil ?_
     refine then_go ?_
     refine wc_false rfl ?_
     refine wc_skip ?_
     refine block_go (then_go ?_)
     refine wc_region ?_
     refine wl_val (v_move' (by conv => (lhs; whnf))) rfl ?_
     refine wl_val (v_add' (c := ((i + 1 : Nat) : Int)) rfl rfl (by omega) (by omega) (by omega)) rfl ?_
     refine wl_val (v_assign' (by conv => (lhs; whnf))) rfl ?_
     refine wl_nil ?_
     refine then_go ?_
     exact ⟨q - 1, by simp; omega, i + 1, by omega, rfl, rfl, rfl, rfl, st⟩
   ·refine wc_exit (then_exit (then_exit (block_hit ?_)))
    refine then_go ?_
    refine wc_seq ?_
    refine wc_region ?_
    refine wl_val (v_move' (by conv => (lhs; whnf))) rfl ?_
    refine wl_val (v_len_s Try.underlying22 rfl) rfl ?_
    refine wl_val (v_move' (by conv => (lhs; whnf))) rfl ?_
    refine wl_val (wl_valD (v_leq rfl rfl) (q := true) (decide_eq_true (by have := mostF_ge (Ts := Ts); omega))) rfl ?_
    refine wl_val (v_move' (by conv => (lhs; whnf))) rfl ?_
    refine wl_on rfl rfl ?_
    refine wl_call rfl (c_works18 st.im) rfl ?_
    rintro v78 w ⟨t78, rfl⟩
    have st := st.pure t78
    refine wl_val (v_pick rfl) rfl ?_
    refine wl_val (v_assign' (by conv => (lhs; whnf))) rfl ?_
    refine wl_nil ?_
    refine then_go ?_
    refine wc_ret ?_
    exact ret1 rfl ⟨st.touch, rfl⟩
end
end Go.Proofs.Ytonlmjpenonabaa

namespace Go.Proofs.Ytonlmjpenonabaa
open Go Go.ChangeShapes Go.WideShapes Go.ChangeAt Go.RowKit K SH PT
theorem Try.ownic : ownKnob Try.prog.godebug = none := by kernel_rfl
theorem Try.laidOutic : laidOutB Try.prog = true := by kernel_rfl
set_option maxRecDepth 100000 in
theorem reapBound_lifted (os : Os) (started : os.Started) (H : Type) (enc : TypeId × Value → H) :
  ReturnsInHanded {} Try.checked os 10 .any (Rows.reapBoundSpec.pre6 enc Try.prog Try.f10 Rows.reapBoundRow.domain false) (Rows.reapBoundSpec.post enc Try.prog Try.f10 false true false false) := by
 refine returnsInHanded_of_change (C := Try.checked) Try.ownic started (by kernel_rfl) Try.func10
  (ChangeSpec.witness6 (enc := enc) (C := Try.checked) false ⟨#[], #[.agg #[.slice none 0 0, .slice none 0 0, .slice none 0 0]], []⟩ 12 (by kernel_rfl) (by kernel_rfl) (by kernel_rfl) (by kernel_rfl)) ?_
 intro W base args ds gs before hval0 hW hcnd _
 have hval : ∀ (j : Nat) t v, Try.f10.params[j]? = some t → args[j]? = some v → Value.okWide Try.prog W .any base t v := hval0
 have hW' := hW
 obtain ⟨p, q, hA0, hV, rfl, hfz, hnd⟩ := hW
 have hA : DataW.TrodAll enc Try.prog W 0 (fun _ => true) true Try.f10.params.toList args.toList ds p := hA0
 rw [Try.params10] at hA hval
 obtain ⟨v0, d0, rfl, rfl, h0⟩ := trodAll_one hA
 obtain ⟨l0, rfl, hl0⟩ := open_trees (hval 0 53 v0 rfl rfl) h0
 refine Calls.mono (P := Try.prog) (c_reapBound (im_heapM W) hl0.1 hl0.2.1 hl0.2.2).2 fun e W1 ⟨v, he, t, hv⟩ => ?_
 subst hv
 subst he
 exact ⟨_, rfl, post_true Try.laidOutic (by kernel_rfl) rfl hW' t rfl rfl Try.underlying4⟩
theorem reapBound_holds : Rows.ReapBoundSaid :=
 OpenClaim.holds_of_wide 10 Try.f10 rfl rfl rfl rfl rfl rfl rfl ⟨rfl, rfl, rfl, rfl, rfl⟩ rfl rfl rfl rfl rfl (by kernel_rfl) Try.func10 (by kernel_rfl)
  (of_decide_eq_true (by kernel_rfl)) (by unfold Func.isWrapper; first | (rw [if_pos (by decide +kernel)]; kernel_rfl) | (rw [if_neg (by decide +kernel)]; exact ⟨rfl, rfl⟩))
  (fun os started H enc _ => reapBound_lifted os started H enc)
end Go.Proofs.Ytonlmjpenonabaa
