/-
  Several texts as one: Jj Of Ob Gd Ge Od Zn Ha Lay Og Oh Jk Jl Jm Oi Jn On Oj Ok Op Ol Gf Gg.
-/
import Derived.Lib.BytesEntry
import Derived.Laws.Externs
import Derived.Shelf.SlLaysF0
import Derived.Shelf.SlLaysW
import Derived.Test.YtladpaehbolghaaGreatProg
import Derived.Shelf.SlMaps.Clone
import Derived.Test.YtladpaehbolghaaGreatOwn3

namespace Go.Proofs.YtladpaehbolghaaGreat
open Go Go.RowKit K SH DK JR
theorem JR.Rdy.mono {n k k' : Nat} {d : DS} (h : Rdy n d k) (hk : k ≤ k') : Rdy n d k' := ⟨h.ok, h.fz, Nat.le_trans h.few hk⟩
theorem rdy_done {n : Nat} {d : DS} {i k : Nat} {b : By} (h : Rdy n d k) (h0 : (putD n d i b).2 = 0) : Rdy n (putD n d i b).1 0 := by
 have := rdy_put (i := i) (b := b) h
 exact ⟨this.1.ok, this.1.fz, by rw [this.2 h0]; exact Nat.le_refl _⟩
theorem fst0 {hf n : Nat} (h : hf ≤ 1) : (hf * (n / 2 * 64) + 0) / 64 = hf * (n / 2) := by rcases Nat.le_one_iff_eq_zero_or_eq_one.1 h with h | h <;> rw [h] <;> omega
theorem fst1 {hf n : Nat} (h : hf ≤ 1) : (hf * (n / 2 * 64) + 64) / 64 = hf * (n / 2) + 1 := by rcases Nat.le_one_iff_eq_zero_or_eq_one.1 h with h | h <;> rw [h] <;> omega
theorem madeZ (n : Nat) : madeCells (Value.int .u8 0).cells (n * 1) = (bs (List.replicate n 0)).toArray := by
 rw [show (Value.int .u8 0).cells = Array.replicate (0 + 1) (Value.int .u8 0) from rfl, madeCells_rep, Nat.mul_one]
 simp [bs, u8]
section
variable {m0 m : Mem} {F : List Nat} {w0 w : World} {Es : List Ent}
theorem c_bcloneR {v : Value} {l : By} (st : St m0 m F w0 w Es) (hv : SlM m v 1 l.length (bs l)) (hL : l.length ≤ 1099511627776) :
  Ret Tryz.prog 62 #[v] w fun v' w' => St m0 m F w0 w' (byE v' l :: Es) := by
 obtain ⟨_, a, cap, rfl, _⟩ := id hv
 refine ret_of Tryz.call62 Tryz.func62 rfl Tryz.ntmps62 Tryz.results62 rfl ?_
 refine wc_seq ?_
 refine wc_region ?_
 refine wl_val (v_assign' (by conv => (lhs; whnf))) rfl ?_
 refine wl_nil ?_
 refine then_go ?_
 refine wc_seq ?_
 refine wc_seq ?_
 refine wc_region ?_
 refine wl_val (v_move' (by conv => (lhs; whnf))) rfl ?_
 refine wl_val (v_eq_nilS Tryz.underlying23 rfl rfl) rfl ?_
 refine wl_nil ?_
 refine then_go ?_
 refine wc_cond rfl (fun h4 => ?_) (fun h4 => ?_)
 ·refine wc_seq ?_
  refine wc_region ?_
  refine wl_val (v_assign' (by conv => (lhs; whnf))) rfl ?_
  refine wl_nil ?_
  refine then_go ?_
  refine wc_ret (then_ret ?_)
  have hL0 : l = [] := by
   obtain ⟨_, a', c', he, hk, hn, _⟩ := hv
   cases he
   have := hn (by simpa using h4)
   exact List.eq_nil_of_length_eq_zero (by omega)
  subst hL0
  exact ret1 rfl (nilRow st 5 1)
 ·refine wc_skip ?_
  refine then_go ?_
  refine wc_seq ?_
  refine wc_region ?_
  refine wl_buildSlice0 (size := 1) Tryz.underlying23 TF.t5 st rfl ?_
  intro v5 w st
  have st : St m0 m F w0 w (byE v5 [] :: Es) := st
  refine wl_val (v_move' (by conv => (lhs; whnf))) rfl ?_
  refine wl_appB (l2 := l) st Tryz.underlying23 Tryz.underlying23 (.inr ⟨_, rfl⟩) TF.t5 TF.z5 rfl rfl (hv.src st.im (one_bs _)) (by simp; omega) (by simp; omega) rfl ?_
  intro v7 w st hv7
  refine wl_val (v_assign' (by conv => (lhs; whnf))) rfl ?_
  refine wl_nil ?_
  refine then_go ?_
  refine wc_ret ?_
  exact ret1 rfl st
theorem c_bcloneA {v : Value} {l : By} (him : Im m w) (hv : SlM m v 1 l.length (bs l)) (hL : l.length ≤ 1099511627776) :
  Ret Tryz.prog 62 #[v] w fun v' w' => Out m w w' fun m' => SlM m' v' 1 l.length (bs l) ∧ Apart m m' v' l := by
 refine (c_bcloneR (St.start him) hv hL).mono fun v' w' st => ?_
 obtain ⟨m1, hg1, hm1, st1⟩ := st.freezeR (i := 0) rfl (by simp)
 have hown := st.own (byE v' l) (by simp)
 have hs := row_SlM (m := fun k => if m k = none then m1 k else none) (st.at (i := 0) rfl) (fun k o hk ho => by
  have h1 := (hown k (by rw [← Option.mem_toList] at *; simp [rowE, ← hk])).1
  simp [h1, hm1 k o hk ho])
 exact st1.out ⟨row_SlM (m := m1) (st.at (i := 0) rfl) hm1, _, fun k o hk => by
  by_cases h : m k = none
  ·simp [h] at hk; exact ⟨hk, h⟩
  ·simp [h] at hk, hs⟩
theorem c_jall {gen : UInt64} {nv : Value} {N : List (By × Value)} (st : St m0 m F w0 w Es) (hN : PcsM m nv N) (hNl : ∀ x ∈ N, x.1.length ≤ 1048576) (hNn : N.length ≤ 1048576) :
  Ret Tryz.prog 105 #[u64 gen, nv] w fun v w' => St m0 m F w0 w' (byE v (allB gen 0 (N.map (·.1))) :: Es) := by
 obtain ⟨na, nc, hlv⟩ : ∃ a c, nv = .slice a N.length c := by obtain ⟨⟨_, a, c, h, _⟩, _⟩ := hN; exact ⟨a, c, h⟩
 subst hlv
 refine ret_of Tryz.call105 Tryz.func105 rfl Tryz.ntmps105 Tryz.results105 rfl ?_
 refine wc_seq ?_
 refine wc_region ?_
 refine wl_val (v_assign' (by conv => (lhs; whnf))) rfl ?_
 refine wl_nil ?_
 refine then_go ?_
 refine wc_seq ?_
 refine wc_region ?_
 refine wl_val (v_assign' (by conv => (lhs; whnf))) rfl ?_
 refine wl_nil ?_
 refine then_go ?_
 refine wc_seq ?_
 refine wc_seq ?_
 refine wc_region ?_
 refine wl_val (v_move' (by conv => (lhs; whnf))) rfl ?_
 refine wl_val (v_len_s Tryz.underlying41 rfl) rfl ?_
 refine wl_val (v_move' (by conv => (lhs; whnf))) rfl ?_
 refine wl_nil ?_
 refine then_go ?_
 refine wc_block ?_
 have st := nilRow st 5 1
 have st : St m0 m F w0 w (byE (.slice none 0 0) [] :: Es) := st
 refine wc_loop (S := Nat) (fun q r w' => ∃ (i : Nat) (v : Value), q + i = N.length ∧ r 0 = u64 gen ∧ r 5 = v ∧ r 8 = .slice na N.length nc ∧ r 9 = .int .i64 N.length ∧ r 10 = .int .i64 i ∧ St m0 m F w0 w' (byE v (allB gen 0 ((N.take i).map (·.1))) :: Es)) id N.length ⟨0, _, by omega, rfl, rfl, rfl, rfl, rfl, st⟩ ?_
 clear st
 rintro q r w2 ⟨i, v, hqi, g0, g5, g8, g9, g10, st⟩
 refine wc_o 0 g0 (wc_o 5 g5 (wc_o 8 g8 (wc_o 9 g9 (wc_o 10 g10 ?_))))
 refine wc_seq ?_
 refine wc_region ?_
 refine wl_val (v_lss rfl rfl) rfl ?_
 refine wl_nil ?_
 refine then_go ?_
 refine wc_seq ?_
 refine wc_if rfl (fun h11 => ?_) (fun h11 => ?_)
 ·refine wc_skip ?_
  refine then_go ?_
  refine wc_seq ?_
  refine wc_block ?_
  refine wc_seq ?_
  have hi : i < N.length := by omega
  obtain ⟨nb, no, _, hnv, hsk, hrk⟩ := hN.elem hi
  cases hnv
  have hxl := hNl _ (List.getElem_mem hi)
  have hsz : sizeL ((N.take i).map (·.1)) ≤ 1048576 * 1048700 := by
   have key : ∀ M : List (By × Value), (∀ x ∈ M, x.1.length ≤ 1048576) → sizeL (M.map (·.1)) ≤ M.length * 1048700 := by
    intro M
    induction M with
    | nil => intro _; exact Nat.zero_le _
    | cons y M ih =>
     intro h
     have h1 := h y List.mem_cons_self
     have h2 := ih fun z hz => h z (List.mem_cons_of_mem _ hz)
     rw [List.map_cons, sizeL_cons, List.length_cons]
     unfold recL
     omega
   refine Nat.le_trans (key _ fun x hx => hNl x (List.mem_of_mem_take hx)) (Nat.mul_le_mul_right _ (by rw [List.length_take]; omega))
  refine wc_region ?_
  refine wl_val (v_move' (by conv => (lhs; whnf))) rfl ?_
  refine wl_val (v_ias i Tryz.underlying41 TF.t23 rfl rfl (by first | rfl | omega) (by first | omega | (dsimp only at *; omega))) rfl ?_
  refine wl_val (v_load rfl (hrk st.im)) rfl ?_
  refine wl_val (v_assign' (by conv => (lhs; whnf))) rfl ?_
  refine wl_val (v_assign' (by conv => (lhs; whnf))) rfl ?_
  refine wl_nil ?_
  refine then_go ?_
  refine wc_region ?_
  refine wl_val (v_move' (by conv => (lhs; whnf))) rfl ?_
  refine wl_val (v_move' (by conv => (lhs; whnf))) rfl ?_
  refine wl_val (v_move' (by conv => (lhs; whnf))) rfl ?_
  refine wl_val (v_convi_64 Tryz.underlying3 Tryz.underlying47 rfl) rfl ?_
  refine wl_val (v_move' (by conv => (lhs; whnf))) rfl ?_
  refine wl_call rfl (c_jrecord (s := UInt64.ofNat i) st hsk (by omega)) rfl ?_
  intro v20 w st
  refine wl_appBi (l2 := recB gen (UInt64.ofNat i) N[i].1) 1 st rfl Tryz.underlying23 Tryz.underlying23 (.inr ⟨_, rfl⟩) TF.t5 TF.z5 rfl rfl ((byE_SlM st 0 rfl).src (im_heapM _) (one_bs _)) (by rw [length_allB, length_recB]; unfold recL; omega) (by rw [length_allB, length_recB]; unfold recL; omega) rfl ?_
  intro v21 w st hv21
  have st : St m0 m F w0 w (byE v21 (allB gen 0 ((N.take (i + 1)).map (·.1))) :: Es) := by
   have e : allB gen 0 ((N.take (i + 1)).map (·.1)) = allB gen 0 ((N.take i).map (·.1)) ++ recB gen (UInt64.ofNat i) N[i].1 := by
    rw [List.take_succ_eq_append_getElem hi, List.map_append, List.map_singleton, allB_snoc, Nat.zero_add, List.length_map, List.length_take, Nat.min_eq_left (by omega)]
   rw [e]
   exact st.drop 0
  refine wl_val (v_assign' (by conv => (lhs; whnf))) rfl ?_
  refine wl_nil ?_
  refine block_go (then_go ?_)
  refine wc_region ?_
  refine wl_val (v_add' (c := ((i + 1 : Nat) : Int)) rfl rfl (by omega) (by omega) (by omega)) rfl ?_
  refine wl_val (v_move' (by conv => (lhs; whnf))) rfl ?_
  refine wl_nil ?_
  refine then_go ?_
  exact ⟨q - 1, by simp; omega, i + 1, v21, by omega, rfl, rfl, rfl, rfl, rfl, st⟩
 ·refine wc_exit (then_exit (then_exit (block_hit ?_)))
  refine then_go ?_
  refine wc_seq ?_
  refine wc_region ?_
  refine wl_val (v_move' (by conv => (lhs; whnf))) rfl ?_
  refine wl_val (v_assign' (by conv => (lhs; whnf))) rfl ?_
  refine wl_nil ?_
  refine then_go ?_
  refine wc_ret ?_
  have hiN : i = N.length := by omega
  subst hiN
  rw [List.take_length] at st
  exact ret1 rfl st
def OverOut (m0 m : Mem) (w0 w' : World) (Es : List Ent) (g b s n : Nat) (sl : LG) (lv : Value) (d : DS) (L : List By) (v : Value) : Prop :=
 ∃ m' wv', (∀ k o, m k = some o → m' k = some o) ∧ v = .int .i64 (overD n d sl L).2.2 ∧
  ((overD n d sl L).2.2 ≠ 0 → (overD n d sl L).2.1 = sl ∧ St m0 m' [] w0 w' (logB g b sl lv :: diskO b s n wv' (overD n d sl L).1 :: Es)) ∧
  ((overD n d sl L).2.2 = 0 → ∃ lv' N', Pcs m' N' ∧ (∀ y ∈ N', Apart m m' y.2 y.1) ∧ N'.map (·.1) = L ∧ St m0 m' [] w0 w' (logB g b (overD n d sl L).2.1 lv' :: lrE lv' N' :: diskO b s n wv' (overD n d sl L).1 :: Es))
theorem OverOut.bad {m0 m m' : Mem} {w0 w' : World} {Es : List Ent} {g b s n : Nat} {sl : LG} {lv wv' : Value} {d d' : DS} {e : Int} {L : List By} (ho : overD n d sl L = (d', sl, e)) (he : e ≠ 0) (hm : ∀ k o, m k = some o → m' k = some o) (st : St m0 m' [] w0 w' (logB g b sl lv :: diskO b s n wv' d' :: Es)) : OverOut m0 m w0 w' Es g b s n sl lv d L (.int .i64 e) := by
 unfold OverOut
 rw [ho]
 exact ⟨m', wv', hm, rfl, fun _ => ⟨rfl, st⟩, fun h => (he h).elim⟩
theorem c_over {g b s n : Nat} {sl : LG} {lv wv nv : Value} {d : DS} {N : List (By × Value)} (st : St m0 m [] w0 w (logB g b sl lv :: diskO b s n wv d :: Es)) (hr : Rdy n d 100000) (hn8 : 8 ≤ n) (hsl : sl.half ≤ 1) (hN : PcsM m nv N) (hNl : ∀ x ∈ N, x.1.length ≤ 1048576) (hNn : N.length ≤ 1048576) :
  Ret Tryz.prog 84 #[.pointer (some ⟨g, 0, none⟩), nv] w fun v w' => OverOut m0 m w0 w' Es g b s n sl lv d (N.map (·.1)) v := by
 obtain ⟨na, nc, hlv⟩ : ∃ a c, nv = .slice a N.length c := by obtain ⟨⟨_, a, c, h, _⟩, _⟩ := hN; exact ⟨a, c, h⟩
 subst hlv
 have hn := hr.ok.le
 obtain ⟨hf, hhf⟩ : ∃ hf, hf = 1 - sl.half := ⟨_, rfl⟩
 have hf1 : hf ≤ 1 := by omega
 have hfz : (1 : Int) - (sl.half : Int) = (hf : Int) := by omega
 obtain ⟨L, hL⟩ : ∃ L, L = N.map (·.1) := ⟨_, rfl⟩
 rw [← hL]
 have hmm0 : ∀ k o, m k = some o → m k = some o := fun _ _ h => h
 refine ret_of Tryz.call84 Tryz.func84 rfl Tryz.ntmps84 Tryz.results84 rfl ?_
 refine wc_seq ?_
 refine wc_region ?_
 refine wl_val (v_assign' (by conv => (lhs; whnf))) rfl ?_
 refine wl_nil ?_
 refine then_go ?_
 refine wc_seq ?_
 refine wc_draw TF.mixed ?_
 have st := st.pure (touch_drew _)
 refine fl_val 0 rfl (fun _ => (v_move' (by conv => (lhs; whnf)))) rfl (by kernel_rfl) ?_
 refine fl_val 1 rfl (fun _ => (v_nil rfl)) rfl (by kernel_rfl) ?_
 refine fl_val 2 rfl (fun _ => (v_fa TF.f126_1 rfl)) rfl (by kernel_rfl) ?_
 refine fl_ld 3 rfl (v_load rfl (st.reads (v := .int .i64 sl.half) 0 rfl TF.t3 rfl)) (by kernel_rfl) ?_
 refine fl_val 4 rfl (fun _ => (v_sub' (c := (hf : Int)) rfl rfl hfz (by omega) (by omega))) rfl (by kernel_rfl) ?_
 refine fl_val 5 rfl (fun _ => (v_move' (by conv => (lhs; whnf)))) rfl (by kernel_rfl) ?_
 refine fl_val 6 rfl (fun _ => (v_nil rfl)) rfl (by kernel_rfl) ?_
 refine fl_val 7 rfl (fun _ => (v_fa TF.f126_2 rfl)) rfl (by kernel_rfl) ?_
 refine fl_ld 8 rfl (v_load rfl (st.reads (v := u64 sl.gen) 0 rfl TF.t47 rfl)) (by kernel_rfl) ?_
 refine fl_val 9 rfl (fun _ => (v_add64 (q := 1) rfl rfl)) rfl (by kernel_rfl) ?_
 refine fl_val 10 rfl (fun _ => (v_move' (by conv => (lhs; whnf)))) rfl (by kernel_rfl) ?_
 refine fl_eff1 11 [7, 6, 5, 4, 2, 1, 0] [8, 3] (by kernel_rfl) ⟨obl_ld rfl rfl rfl (v_load rfl (st.reads (v := u64 sl.gen) 0 rfl TF.t47 rfl)), obl_ld rfl rfl rfl (v_load rfl (st.reads (v := .int .i64 sl.half) 0 rfl TF.t3 rfl)), trivial⟩ rfl ?_
 refine wl_call rfl (c_jall (gen := sl.gen + 1) st hN hNl hNn) rfl ?_
 intro v23 w st
 obtain ⟨B, hB⟩ : ∃ B, B = allB (sl.gen + 1) 0 L := ⟨_, rfl⟩
 have hBl : B.length = sizeL L := by rw [hB, length_allB]
 have st : St m0 m [] w0 w (byE v23 B :: logB g b sl lv :: diskO b s n wv d :: Es) := by rw [hB, hL]; exact st
 have st1 := st
 obtain ⟨m1, hg1, hm1, st⟩ := st.freezeR (i := 0) rfl (by simp)
 have hBm : SlM m1 v23 1 B.length (bs B) := row_SlM (m := m1) (st1.at (i := 0) rfl) hm1
 have st : St m0 m1 [] w0 w (logB g b sl lv :: diskO b s n wv d :: Es) := st
 have hmm1 := hg1.le
 have hN := hN.mono hmm1
 obtain ⟨Ba, Bc, hBv, _⟩ := hBm.opn
 subst hBv
 refine wl_nil ⟨rfl, ?_⟩
 refine fl_eff1 12 [7, 6, 5] [8] (by kernel_rfl) ⟨obl_ld rfl rfl rfl (v_load rfl (st.reads (v := u64 sl.gen) 0 rfl TF.t47 rfl)), obl_ld rfl rfl rfl (v_load rfl (st.reads (v := .int .i64 sl.half) 0 rfl TF.t3 rfl)), trivial⟩ rfl ?_
 refine wl_val (v_assign' (by conv => (lhs; whnf))) rfl ?_
 refine wl_nil ⟨rfl, ?_⟩
 refine fl_eff1 13 [] [] (by kernel_rfl) ⟨obl_ld rfl rfl rfl (v_load rfl (st.reads (v := u64 sl.gen) 0 rfl TF.t47 rfl)), trivial⟩ rfl ?_
 refine wl_val (v_assign' (by conv => (lhs; whnf))) rfl ?_
 refine wl_nil ⟨rfl, ?_⟩
 refine fl_nil (by kernel_rfl) trivial ?_
 refine then_go ?_
 refine wc_seq ?_
 refine wc_seq ?_
 refine wc_region ?_
 refine wl_val (v_move' (by conv => (lhs; whnf))) rfl ?_
 refine wl_val (v_len_s Tryz.underlying23 rfl) rfl ?_
 refine wl_val (v_move' (by conv => (lhs; whnf))) rfl ?_
 refine wl_call rfl (c_lsize st hr.ok) rfl ?_
 rintro v27 w ⟨t27, rfl⟩
 have st := st.pure t27
 refine wl_val (v_sub' (c := ((n / 2 * 64 - 64 : Nat) : Int)) rfl rfl (by omega) (by omega) (by omega)) rfl ?_
 refine wl_val (v_gtr rfl rfl) rfl ?_
 refine wl_nil ?_
 refine then_go ?_
 refine wc_if rfl (fun h29 => ?_) (fun h29 => ?_)
 ·refine wc_seq ?_
  refine wc_region ?_
  refine wl_val (v_assign' (by conv => (lhs; whnf))) rfl ?_
  refine wl_nil ?_
  refine then_go ?_
  refine wc_ret (then_ret ?_)
  exact ret1 rfl (OverOut.bad (e := 13) (by unfold overD; rw [if_pos (by omega)]) (by decide) hmm1 st)
 ·refine wc_skip ?_
  refine then_go ?_
  refine wc_seq ?_
  refine wc_seq ?_
  refine wc_region ?_
  refine wl_val (v_move' (by conv => (lhs; whnf))) rfl ?_
  refine wl_val (v_move' (by conv => (lhs; whnf))) rfl ?_
  refine wl_val (v_move' (by conv => (lhs; whnf))) rfl ?_
  have hfit : ¬ n / 2 * 64 - 64 < sizeL L := by omega
  refine wl_call rfl (c_lsize st hr.ok) rfl ?_
  rintro v33 w ⟨t33, rfl⟩
  have st := st.pure t33
  refine wl_make (l := n / 2 * 64) (c := n / 2 * 64) Tryz.underlying23 TF.t5 TF.z5 rfl rfl rfl rfl (by omega) (by omega) (by omega) (by omega) st rfl ?_
  intro b34 w st
  rw [madeZ] at st
  obtain ⟨m2, hg2, hm2, st⟩ := st.freeze (i := 0) rfl (by simp)
  have st : St m0 m2 [] w0 w (logB g b sl lv :: diskO b s n wv d :: Es) := st
  obtain ⟨Z, hZ⟩ : ∃ Z : By, Z = List.replicate (n / 2 * 64) 0 := ⟨_, rfl⟩
  have hZl : Z.length = n / 2 * 64 := by rw [hZ, List.length_replicate]
  rw [← hZ] at hm2
  have hZm : SlM m2 (.slice (some ⟨b34, 0, none⟩) (n / 2 * 64) (n / 2 * 64)) 1 Z.length (bs Z) := by
   have := SlM.ofBlock (o := 0) (cap := Z.length) (l := Z) (pre := []) (post := []) hm2 (by simp) rfl (Nat.le_refl _)
   rw [hZl] at this ⊢
   exact this
  have hBm := hBm.mono hg2.le
  have hN := hN.mono hg2.le
  have hmm2 : ∀ k o, m k = some o → m2 k = some o := fun k o h => hg2.le k o (hmm1 k o h)
  refine wl_call rfl (c_put (hf := hf) (at' := 0) st hr hZm (by omega) (by omega) hf1 (by omega)) rfl ?_
  rintro v35 w ⟨wv1, st, rfl⟩
  rw [fst0 hf1] at st ⊢
  have hr1 := rdy_done (i := hf * (n / 2)) (b := Z) hr
  have hd1 : (putD n d ((1 - sl.half) * (n / 2)) (List.replicate (n / 2 * 64) 0)) = putD n d (hf * (n / 2)) Z := by rw [hhf, hZ]
  obtain ⟨P1, hP1⟩ : ∃ P1, P1 = putD n d (hf * (n / 2)) Z := ⟨_, rfl⟩
  rw [← hP1] at st hr1 hd1 ⊢
  refine wl_val (v_assign' (by conv => (lhs; whnf))) rfl ?_
  refine wl_nil ?_
  refine then_go ?_
  refine wc_seq ?_
  refine wc_region ?_
  refine wl_val (v_move' (by conv => (lhs; whnf))) rfl ?_
  refine wl_val (v_neq rfl rfl) rfl ?_
  refine wl_nil ?_
  refine then_go ?_
  refine wc_cond rfl (fun h37 => ?_) (fun h37 => ?_)
  ·refine wc_seq ?_
   refine wc_region ?_
   refine wl_val (v_move' (by conv => (lhs; whnf))) rfl ?_
   refine wl_val (v_assign' (by conv => (lhs; whnf))) rfl ?_
   refine wl_nil ?_
   refine then_go ?_
   refine wc_ret (then_ret ?_)
   have hz := of_decide_eq_true h37
   exact ret1 rfl (OverOut.bad (by unfold overD; rw [if_neg hfit, hd1, if_pos hz]) hz hmm2 st)
  ·refine wc_skip ?_
   refine then_go ?_
   refine wc_seq ?_
   refine wc_seq ?_
   refine wc_region ?_
   refine wl_val (v_move' (by conv => (lhs; whnf))) rfl ?_
   refine wl_val (v_move' (by conv => (lhs; whnf))) rfl ?_
   refine wl_val (v_move' (by conv => (lhs; whnf))) rfl ?_
   have hz1 := of_decide_eq_false h37
   have hr1 := (hr1 (Decidable.not_not.1 hz1)).mono (k' := 100000) (by omega)
   refine wl_call rfl (c_put (hf := hf) (at' := 64) st hr1 hBm (by rw [hBl]; exact sizeL_mod) (by omega) hf1 (by omega)) rfl ?_
   rintro v42 w ⟨wv2, st, rfl⟩
   rw [fst1 hf1] at st ⊢
   have hr2 := rdy_done (i := hf * (n / 2) + 1) (b := B) hr1
   have hd2 : (putD n P1.1 ((1 - sl.half) * (n / 2) + 1) (allB (sl.gen + 1) 0 L)) = putD n P1.1 (hf * (n / 2) + 1) B := by rw [hhf, hB]
   obtain ⟨P2, hP2⟩ : ∃ P2, P2 = putD n P1.1 (hf * (n / 2) + 1) B := ⟨_, rfl⟩
   rw [← hP2] at st hr2 hd2 ⊢
   refine wl_val (v_assign' (by conv => (lhs; whnf))) rfl ?_
   refine wl_nil ?_
   refine then_go ?_
   refine wc_seq ?_
   refine wc_region ?_
   refine wl_val (v_move' (by conv => (lhs; whnf))) rfl ?_
   refine wl_val (v_neq rfl rfl) rfl ?_
   refine wl_nil ?_
   refine then_go ?_
   refine wc_cond rfl (fun h44 => ?_) (fun h44 => ?_)
   ·refine wc_seq ?_
    refine wc_region ?_
    refine wl_val (v_move' (by conv => (lhs; whnf))) rfl ?_
    refine wl_val (v_assign' (by conv => (lhs; whnf))) rfl ?_
    refine wl_nil ?_
    refine then_go ?_
    refine wc_ret (then_ret ?_)
    have hz := of_decide_eq_true h44
    exact ret1 rfl (OverOut.bad (by unfold overD; rw [if_neg hfit, hd1, if_neg hz1, hd2, if_pos hz]) hz hmm2 st)
   ·refine wc_skip ?_
    refine then_go ?_
    refine wc_seq ?_
    refine wc_seq ?_
    refine wc_region ?_
    refine wl_val (v_move' (by conv => (lhs; whnf))) rfl ?_
    refine wl_val (v_move' (by conv => (lhs; whnf))) rfl ?_
    refine wl_val (v_move' (by conv => (lhs; whnf))) rfl ?_
    refine wl_val (v_nil rfl) rfl ?_
    refine wl_val (v_fa TF.f126_2 rfl) rfl ?_
    refine wl_val (v_load rfl (st.reads (v := u64 sl.gen) 0 rfl TF.t47 rfl)) rfl ?_
    refine wl_val (v_add64 (q := 1) rfl rfl) rfl ?_
    have hz2 := of_decide_eq_false h44
    have hr2 := (hr2 (Decidable.not_not.1 hz2)).mono (k' := 100000) (by omega)
    refine wl_call rfl (c_jhead (g := sl.gen + 1) st) rfl ?_
    intro v53 w st
    have st3 := st
    obtain ⟨m3, hg3, hm3, st⟩ := st.freezeR (i := 0) rfl (by simp)
    have hHm : SlM m3 v53 1 (headB (sl.gen + 1)).length (bs (headB (sl.gen + 1))) := row_SlM (m := m3) (st3.at (i := 0) rfl) hm3
    have st : St m0 m3 [] w0 w (logB g b sl lv :: diskO b s n wv2 P2.1 :: Es) := st
    have hN := hN.mono hg3.le
    have hmm3 : ∀ k o, m k = some o → m3 k = some o := fun k o h => hg3.le k o (hmm2 k o h)
    have hHl := length_headB (sl.gen + 1)
    refine wl_call rfl (c_put (hf := hf) (at' := 0) st hr2 hHm (by omega) (by omega) hf1 (by omega)) rfl ?_
    rintro v54 w ⟨wv3, st, rfl⟩
    rw [fst0 hf1] at st ⊢
    have hd3 : (putD n P2.1 ((1 - sl.half) * (n / 2)) (headB (sl.gen + 1))) = putD n P2.1 (hf * (n / 2)) (headB (sl.gen + 1)) := by rw [hhf]
    obtain ⟨P3, hP3⟩ : ∃ P3, P3 = putD n P2.1 (hf * (n / 2)) (headB (sl.gen + 1)) := ⟨_, rfl⟩
    rw [← hP3] at st hd3 ⊢
    refine wl_val (v_assign' (by conv => (lhs; whnf))) rfl ?_
    refine wl_nil ?_
    refine then_go ?_
    refine wc_seq ?_
    refine wc_region ?_
    refine wl_val (v_move' (by conv => (lhs; whnf))) rfl ?_
    refine wl_val (v_neq rfl rfl) rfl ?_
    refine wl_nil ?_
    refine then_go ?_
    refine wc_cond rfl (fun h56 => ?_) (fun h56 => ?_)
    ·refine wc_seq ?_
     refine wc_region ?_
     refine wl_val (v_move' (by conv => (lhs; whnf))) rfl ?_
     refine wl_val (v_assign' (by conv => (lhs; whnf))) rfl ?_
     refine wl_nil ?_
     refine then_go ?_
     refine wc_ret (then_ret ?_)
     have hz := of_decide_eq_true h56
     exact ret1 rfl (OverOut.bad (by unfold overD; rw [if_neg hfit, hd1, if_neg hz1, hd2, if_neg hz2, hd3, if_pos hz]) hz hmm3 st)
    ·refine wc_skip ?_
     refine then_go ?_
     refine wc_seq ?_
     refine wc_region ?_
     refine wl_val (v_move' (by conv => (lhs; whnf))) rfl ?_
     refine wl_val (v_move' (by conv => (lhs; whnf))) rfl ?_
     refine wl_val (v_move' (by conv => (lhs; whnf))) rfl ?_
     refine wl_val (v_move' (by conv => (lhs; whnf))) rfl ?_
     refine wl_val (v_move' (by conv => (lhs; whnf))) rfl ?_
     refine wl_val (v_nil rfl) rfl ?_
     refine wl_val (v_fa TF.f126_2 rfl) rfl ?_
     refine wl_val (v_load rfl (st.reads (v := u64 sl.gen) 0 rfl TF.t47 rfl)) rfl ?_
     refine wl_val (v_add64 (q := 1) rfl rfl) rfl ?_
     refine wl_val (v_move' (by conv => (lhs; whnf))) rfl ?_
     refine wl_val (v_len_s Tryz.underlying23 rfl) rfl ?_
     refine wl_val (v_add' (c := ((64 + sizeL L : Nat) : Int)) rfl rfl (by omega) (by omega) (by omega)) rfl ?_
     refine wl_val (v_nil rfl) rfl ?_
     refine wl_val (v_fa TF.f126_1 rfl) rfl ?_
     refine wl_store1 0 st rfl TF.t3 rfl (by conv => (lhs; whnf)) rfl (by first | exact lt_ok rfl | decide | simp) ?_
     intro w st
     refine wl_val (v_nil rfl) rfl ?_
     refine wl_val (v_fa TF.f126_2 rfl) rfl ?_
     refine wl_store1 0 st rfl TF.t47 rfl (by conv => (lhs; whnf)) rfl (by first | exact lt_ok rfl | decide | simp) ?_
     intro w st
     refine wl_val (v_nil rfl) rfl ?_
     refine wl_val (v_fa TF.f126_3 rfl) rfl ?_
     refine wl_store1 0 st rfl TF.t3 rfl (by conv => (lhs; whnf)) rfl (by first | exact lt_ok rfl | decide | simp) ?_
     intro w st
     refine wl_nil ?_
     refine then_go ?_
     refine wc_seq ?_
     refine wc_region ?_
     refine wl_val (v_move' (by conv => (lhs; whnf))) rfl ?_
     refine wl_val (v_nil rfl) rfl ?_
     refine wl_val (v_fa TF.f126_4 rfl) rfl ?_
     refine wl_store1 0 st rfl TF.t41 rfl (by conv => (lhs; whnf)) rfl (by first | exact lt_ok rfl | decide | simp) ?_
     intro w st
     have hz3 := of_decide_eq_false h56
     have hfin : overD n d sl L = (P3.1, ⟨hf, sl.gen + 1, 64 + sizeL L⟩, 0) := by unfold overD; rw [if_neg hfit, hd1, if_neg hz1, hd2, if_neg hz2, hd3, if_neg hz3, ← hhf]
     have st : St m0 m3 [] w0 w (logB g b ⟨hf, sl.gen + 1, 64 + sizeL L⟩ (.slice none 0 0) :: diskO b s n wv3 P3.1 :: Es) := st
     refine wl_nil ?_
     refine then_go ?_
     refine wc_seq ?_
     refine wc_seq ?_
     refine wc_region ?_
     refine wl_val (v_move' (by conv => (lhs; whnf))) rfl ?_
     refine wl_val (v_len_s Tryz.underlying41 rfl) rfl ?_
     refine wl_val (v_move' (by conv => (lhs; whnf))) rfl ?_
     refine wl_nil ?_
     refine then_go ?_
     refine wc_block ?_
     have st := nilRow st 23 1
     have st : St m0 m3 [] w0 w (logB g b ⟨hf, sl.gen + 1, 64 + sizeL L⟩ (.slice none 0 0) :: lrE (.slice none 0 0) [] :: diskO b s n wv3 P3.1 :: Es) := st.perm (List.Perm.swap _ _ _)
     refine wc_loop (S := Nat) (fun q r w' => ∃ (i : Nat) (m' : Mem) (v : Value) (N' : List (By × Value)), q + i = N.length ∧ r 0 = .pointer (some ⟨g, 0, none⟩) ∧ r 79 = .slice na N.length nc ∧ r 80 = .int .i64 N.length ∧ r 81 = .int .i64 i ∧ (∀ k o, m3 k = some o → m' k = some o) ∧ Pcs m' N' ∧ (∀ y ∈ N', Apart m m' y.2 y.1) ∧ N'.map (·.1) = (N.take i).map (·.1) ∧ St m0 m' [] w0 w' (logB g b ⟨hf, sl.gen + 1, 64 + sizeL L⟩ v :: lrE v N' :: diskO b s n wv3 P3.1 :: Es)) id N.length ⟨0, m3, _, [], by omega, rfl, rfl, rfl, rfl, fun _ _ h => h, (by intro x hx; cases hx), (by intro x hx; cases hx), rfl, st⟩ ?_
     clear st
     rintro q r w2 ⟨i, m', v, N', hqi, g0, g79, g80, g81, hmm', hN', hNa, hNN', st⟩
     refine wc_o 0 g0 (wc_o 79 g79 (wc_o 80 g80 (wc_o 81 g81 ?_)))
     have hN := hN.mono hmm'
     refine wc_seq ?_
     refine wc_region ?_
     refine wl_val (v_lss rfl rfl) rfl ?_
     refine wl_nil ?_
     refine then_go ?_
     refine wc_seq ?_
     refine wc_if rfl (fun h82 => ?_) (fun h82 => ?_)
     ·refine wc_skip ?_
      refine then_go ?_
      refine wc_seq ?_
      refine wc_block ?_
      refine wc_seq ?_
      have hi : i < N.length := by omega
      obtain ⟨nb, no, _, hnv, hsk, hrk⟩ := hN.elem hi
      cases hnv
      have hxl := hNl _ (List.getElem_mem hi)
      have hN'l : N'.length = i := by have := congrArg List.length hNN'; rw [List.length_map, List.length_map, List.length_take] at this; omega
      refine wc_region ?_
      refine wl_val (v_ias i Tryz.underlying41 TF.t23 rfl rfl (by first | rfl | omega) (by first | omega | (dsimp only at *; omega))) rfl ?_
      refine wl_val (v_load rfl (hrk st.im)) rfl ?_
      refine wl_val (v_assign' (by conv => (lhs; whnf))) rfl ?_
      refine wl_nil ?_
      refine then_go ?_
      refine wc_draw TF.mixed ?_
      have st := st.pure (touch_drew _)
      refine fl_val 0 rfl (fun _ => (v_move' (by conv => (lhs; whnf)))) rfl (by kernel_rfl) ?_
      refine fl_val 1 rfl (fun _ => (v_move' (by conv => (lhs; whnf)))) rfl (by kernel_rfl) ?_
      refine fl_val 2 rfl (fun _ => (v_nil rfl)) rfl (by kernel_rfl) ?_
      refine fl_val 3 rfl (fun _ => (v_fa TF.f126_4 rfl)) rfl (by kernel_rfl) ?_
      refine fl_ld 4 rfl (v_load rfl (by first | exact st.reads (v := v) 0 rfl TF.t41 rfl | exact st.reads (v := v) 1 rfl TF.t41 rfl)) (by kernel_rfl) ?_
      refine fl_val 5 rfl (fun _ => (v_move' (by conv => (lhs; whnf)))) rfl (by kernel_rfl) ?_
      refine fl_eff1 6 [3, 2, 1, 0] [4] (by kernel_rfl) ⟨obl_ld rfl rfl rfl (v_load rfl (by first | exact st.reads (v := v) 0 rfl TF.t41 rfl | exact st.reads (v := v) 1 rfl TF.t41 rfl)), trivial⟩ rfl ?_
      refine wl_call rfl (c_bcloneA st.im hsk (by omega)) rfl ?_
      rintro v91 w ⟨t91, m4, hg4, hi4, hxv, hap⟩
      have hap : Apart m m4 v91 N[i].1 := hap.mono (fun k o h => hmm' k o (hmm3 k o h)) fun _ _ h => h
      have hNa : ∀ y ∈ N', Apart m m4 y.2 y.1 := fun y hy => (hNa y hy).mono (fun _ _ h => h) hg4.le
      have st := st.grown hg4 t91 hi4
      have hN' := hN'.mono hg4.le
      have hmm' : ∀ k o, m3 k = some o → m4 k = some o := fun k o h => hg4.le k o (hmm' k o h)
      refine wl_nil ⟨rfl, ?_⟩
      refine fl_eff1 7 [3, 2, 1, 0] [4] (by kernel_rfl) ⟨obl_ld rfl rfl rfl (v_load rfl (by first | exact st.reads (v := v) 0 rfl TF.t41 rfl | exact st.reads (v := v) 1 rfl TF.t41 rfl)), trivial⟩ rfl ?_
      refine wl_svOne (v := v91) Tryz.underlying41 TF.t23 TF.z23 (SlM.one1 hxv) rfl st rfl ?_
      intro b92 w st
      refine wl_nil ⟨rfl, ?_⟩
      refine fl_eff1 8 [3, 2, 1, 0] [] (by kernel_rfl) ⟨obl_ld rfl rfl rfl (v_load rfl (by first | exact st.reads (v := v) 0 rfl TF.t41 rfl | exact st.reads (v := v) 1 rfl TF.t41 rfl)), trivial⟩ rfl ?_
      refine wl_lrApp (x := N[i].1) 1 st rfl (SlM.one1 hxv) rfl rfl (by omega) rfl ?_
      intro v93 w st
      have st : St m0 m4 [] w0 w (logB g b ⟨hf, sl.gen + 1, 64 + sizeL L⟩ v :: lrE v93 (N' ++ [(N[i].1, v91)]) :: diskO b s n wv3 P3.1 :: Es) := st
      refine wl_nil ⟨rfl, ?_⟩
      refine fl_val 9 rfl (fun _ => (v_nil rfl)) rfl (by kernel_rfl) ?_
      refine fl_val 10 rfl (fun _ => (v_fa TF.f126_4 rfl)) rfl (by kernel_rfl) ?_
      refine fl_eff1 11 [9] [] (by kernel_rfl) trivial rfl ?_
      refine wl_store1 (v := v93) 0 st rfl TF.t41 rfl rfl (row_one (st.at (i := 1) rfl)) (lt_ok rfl) ?_
      intro w st
      have st : St m0 m4 [] w0 w (logB g b ⟨hf, sl.gen + 1, 64 + sizeL L⟩ v93 :: lrE v93 (N' ++ [(N[i].1, v91)]) :: diskO b s n wv3 P3.1 :: Es) := st
      refine wl_nil ⟨rfl, ?_⟩
      refine fl_nil (by kernel_rfl) trivial ?_
      refine block_go (then_go ?_)
      refine wc_region ?_
      refine wl_val (v_add' (c := ((i + 1 : Nat) : Int)) rfl rfl (by omega) (by omega) (by omega)) rfl ?_
      refine wl_val (v_move' (by conv => (lhs; whnf))) rfl ?_
      refine wl_nil ?_
      refine then_go ?_
      refine ⟨q - 1, by simp; omega, i + 1, m4, v93, N' ++ [(N[i].1, v91)], by omega, rfl, rfl, rfl, rfl, hmm', hN'.snoc hxv, fun y hy => (List.mem_append.1 hy).elim (hNa y) fun hy => by rw [List.mem_singleton.1 hy]; exact hap, ?_, st⟩
      rw [List.map_append, hNN', List.take_succ_eq_append_getElem hi, List.map_append]
      rfl
     ·refine wc_exit (then_exit (then_exit (block_hit ?_)))
      refine then_go ?_
      refine wc_seq ?_
      refine wc_region ?_
      refine wl_val (v_assign' (by conv => (lhs; whnf))) rfl ?_
      refine wl_nil ?_
      refine then_go ?_
      refine wc_ret ?_
      have hiN : i = N.length := by omega
      subst hiN
      rw [List.take_length, ← hL] at hNN'
      refine ret1 (v := .int .i64 0) rfl ⟨m', wv3, fun k o h => hmm' k o (hmm3 k o h), by rw [hfin], fun h => (h (by rw [hfin])).elim, fun _ => ⟨v, N', hN', hNa, hNN', by rw [hfin]; exact st⟩⟩
end
end Go.Proofs.YtladpaehbolghaaGreat

namespace Go.Proofs.YtladpaehbolghaaGreat
open Go Go.RowKit K SH GC JR OS
namespace OS
def actK (L : List (By × By)) (a : Ac) : List (By × By) := if a.set then insKV a.key a.data L else delKV a.key L
def doneK (L : List (By × By)) (A : List Ac) : List (By × By) := A.foldl actK L
abbrev DV := By × Value
abbrev kvs (L : List (By × DV)) : List (By × By) := L.map fun x => (x.1, x.2.1)
theorem kvs_ins {k d : By} {v : Value} : ∀ {L : List (By × DV)}, kvs (insKV k (d, v) L) = insKV k d (kvs L)
 | [] => rfl
 | x :: L => by
  have ih := kvs_ins (k := k) (d := d) (v := v) (L := L)
  unfold kvs at ih ⊢
  rw [insKV, List.map_cons, insKV]
  by_cases h : x.1 = k
  ·rw [if_pos h, if_pos h]; rfl
  ·rw [if_neg h, if_neg h, List.map_cons, ih]
theorem kvs_del {k : By} {L : List (By × DV)} : kvs (delKV k L) = delKV k (kvs L) := by
 unfold kvs delKV
 rw [List.filter_map]
 rfl
theorem kvs_get {k : By} : ∀ {L : List (By × DV)}, getKV k (kvs L) = (getKV k L).map (·.1)
 | [] => rfl
 | x :: L => by
  have ih := kvs_get (k := k) (L := L)
  unfold kvs at ih ⊢
  rw [List.map_cons, getKV, getKV]
  split
  ·rfl
  ·exact ih
def KvOk (m : Mem) (L : List (By × DV)) : Prop := ∀ x ∈ L, x.1.length ≤ 64 ∧ x.2.1.length ≤ 1048576 ∧ SlM m x.2.2 1 x.2.1.length (bs x.2.1)
theorem KvOk.mono {m m' : Mem} {L : List (By × DV)} (h : KvOk m L) (hm : ∀ k o, m k = some o → m' k = some o) : KvOk m' L := fun x hx => ⟨(h x hx).1, (h x hx).2.1, (h x hx).2.2.mono hm⟩
theorem KvOk.ins {m : Mem} {L : List (By × DV)} {k d : By} {v : Value} (h : KvOk m L) (hk : k.length ≤ 64) (hd : d.length ≤ 1048576) (hv : SlM m v 1 d.length (bs d)) : KvOk m (insKV k (d, v) L) := fun x hx => (mem_insKV hx).elim (fun e => by rw [e]; exact ⟨hk, hd, hv⟩) (h x)
theorem KvOk.del {m : Mem} {L : List (By × DV)} {k : By} (h : KvOk m L) : KvOk m (delKV k L) := fun x hx => h x (List.mem_filter.1 hx).1
def KvN (m m' : Mem) (L L' : List (By × DV)) : Prop := ∀ x ∈ L', x ∈ L ∨ Apart m m' x.2.2 x.2.1
theorem KvN.refl {m m' : Mem} {L : List (By × DV)} : KvN m m' L L := fun _ h => .inl h
theorem KvN.ext {m m' m'' : Mem} {L L' : List (By × DV)} (h : KvN m m' L L') (hm : ∀ k o, m' k = some o → m'' k = some o) : KvN m m'' L L' := fun x hx => (h x hx).imp id fun h => h.mono (fun _ _ h => h) hm
end OS
abbrev kmE (mb : Nat) (L : List (By × DV)) : Ent := mapE strV (fun x : DV => x.2) mb L
theorem kt_str : KeyT Tryz.prog 9 strV fun s => s.length ≤ 9223372036854775807 := str_keyT Tryz.underlying9
theorem OS.KvOk.keys {m : Mem} {L : List (By × DV)} (h : KvOk m L) : ∀ x ∈ L, x.1.length ≤ 9223372036854775807 := fun x hx => by have := (h x hx).1; omega
section
open OS
variable {m0 m : Mem} {w0 w : World} {Es : List Ent}
theorem c_done {mb : Nat} {v : Value} {A : List AcT} {L : List (By × DV)} (st : St m0 m [] w0 w (kmE mb L :: Es)) (hA : AcsM m v A) (hAo : ∀ a ∈ A, actOk a.1) (hL : KvOk m L) (hAl : A.length ≤ 1099511627776) :
  Ret Tryz.prog 53 #[.map (some mb), v] w fun _ w' => ∃ m' L', (∀ k o, m k = some o → m' k = some o) ∧ KvOk m' L' ∧ KvN m m' L L' ∧ kvs L' = doneK (kvs L) (A.map (·.1)) ∧ St m0 m' [] w0 w' (kmE mb L' :: Es) := by
 obtain ⟨la, lc, rfl⟩ := hA.1.sl
 refine ret_of Tryz.call53 Tryz.func53 rfl Tryz.ntmps53 Tryz.results53 rfl ?_
 refine wc_seq ?_
 refine wc_region ?_
 refine wl_val (v_move' (by conv => (lhs; whnf))) rfl ?_
 refine wl_val (v_len_s Tryz.underlying22 rfl) rfl ?_
 refine wl_val (v_move' (by conv => (lhs; whnf))) rfl ?_
 refine wl_nil ?_
 refine then_go ?_
 refine wc_block ?_
 refine wc_loop (S := Nat) (fun q r w' => ∃ i m' L', q + i = A.length ∧ r 0 = .map (some mb) ∧ r 6 = .slice la A.length lc ∧ r 7 = .int .i64 A.length ∧ r 8 = .int .i64 i ∧ (∀ k o, m k = some o → m' k = some o) ∧ KvOk m' L' ∧ KvN m m' L L' ∧ kvs L' = doneK (kvs L) ((A.take i).map (·.1)) ∧ St m0 m' [] w0 w' (kmE mb L' :: Es)) id A.length ⟨0, m, L, by omega, rfl, rfl, rfl, rfl, fun _ _ h => h, hL, KvN.refl, rfl, st⟩ ?_
 clear st
 rintro q r w2 ⟨i, m', L', hqi, g0, g6, g7, g8, hmm, hL', hN, hK, st⟩
 refine wc_o 0 g0 (wc_o 6 g6 (wc_o 7 g7 (wc_o 8 g8 ?_)))
 have hA := hA.mono hmm
 refine wc_seq ?_
 refine wc_region ?_
 refine wl_val (v_lss rfl rfl) rfl ?_
 refine wl_nil ?_
 refine then_go ?_
 refine wc_seq ?_
 refine wc_if rfl (fun h9 => ?_) (fun h9 => ?_)
 ·refine wc_skip ?_
  refine then_go ?_
  refine wc_seq ?_
  refine wc_block ?_
  refine wc_seq ?_
  have hi : i < A.length := by omega
  obtain ⟨lb, lo, da, dc, hla, hd, hrL, _⟩ := hA.at hi
  subst hla
  have hok : AcOk m' A[i].1 A[i].2 := hA.2 _ (List.getElem_mem hi)
  have hao := hAo _ (List.getElem_mem hi)
  have htk : doneK (kvs L) ((A.take (i + 1)).map (·.1)) = actK (doneK (kvs L) ((A.take i).map (·.1))) A[i].1 := by
   unfold doneK
   rw [List.take_succ_eq_append_getElem hi, List.map_append, List.foldl_append]
   rfl
  rw [← hK] at htk
  obtain ⟨x, hx⟩ : ∃ x, x = A[i].1 := ⟨_, rfl⟩
  rw [← hx] at hd hok hao htk
  rw [hd] at hok
  unfold actOk at hao
  have hrX : ∀ {w' : World}, Im m' w' → Reads Tryz.prog w' 57 ⟨lb, lo + i * 3, none⟩ (.agg (acC x (.slice da x.data.length dc)).toArray) := by rw [← hd, hx]; exact hrL
  refine wc_region ?_
  refine wl_val (v_ias i Tryz.underlying22 TF.t57 rfl rfl (by first | rfl | omega) (by first | omega | (dsimp only at *; omega))) rfl ?_
  refine wl_val (v_load rfl (hrX st.im)) rfl ?_
  refine wl_alloc TF.z57 st rfl ?_
  intro b5 w st
  refine wl_storeW (cs := (acC x (.slice da x.data.length dc)).toArray) 0 st rfl TF.t57 rfl rfl (by exact Ac.len hok) rfl (by exact Ac.one hok) ?_
  intro w st
  refine wl_nil ?_
  refine then_go ?_
  refine wc_seq ?_
  refine wc_region ?_
  refine wl_val (v_fa TF.f57_1 rfl) rfl ?_
  refine wl_val (v_load rfl (st.reads (v := .bool x.set) 0 rfl TF.t4 (Ac.g1_1 hok))) rfl ?_
  refine wl_nil ?_
  refine then_go ?_
  refine wc_cond rfl (fun h13 => ?_) (fun h13 => ?_)
  ·refine wc_draw TF.mixed ?_
   have st := st.pure (touch_drew _)
   refine fl_val 0 rfl (fun _ => (v_move' (by conv => (lhs; whnf)))) rfl (by kernel_rfl) ?_
   refine fl_val 1 rfl (fun _ => (v_fa TF.f57_0 rfl)) rfl (by kernel_rfl) ?_
   refine fl_ld 2 rfl (v_load rfl (st.reads (v := .string (strB x.key)) 0 rfl TF.t9 (Ac.g0_1 hok))) (by kernel_rfl) ?_
   refine fl_val 3 rfl (fun _ => (v_fa TF.f57_2 rfl)) rfl (by kernel_rfl) ?_
   refine fl_ld 4 rfl (v_load rfl (st.reads (v := .slice da x.data.length dc) 0 rfl TF.t23 (Ac.g2_1 hok))) (by kernel_rfl) ?_
   refine fl_eff1 5 [3, 1, 0] [2] (by kernel_rfl) ⟨obl_ld rfl rfl rfl (v_load rfl (st.reads (v := .slice da x.data.length dc) 0 rfl TF.t23 (Ac.g2_1 hok))), obl_ld rfl rfl rfl (v_load rfl (st.reads (v := .string (strB x.key)) 0 rfl TF.t9 (Ac.g0_1 hok))), trivial⟩ rfl ?_
   refine wl_call rfl (c_bcloneA st.im hok.data (by omega)) rfl ?_
   rintro v19 w ⟨t19, m1, hg1, hi1, h19, hap⟩
   have st := st.grown hg1 t19 hi1
   have hap : Apart m m1 v19 x.data := hap.mono hmm fun _ _ h => h
   refine wl_nil ⟨rfl, ?_⟩
   refine fl_eff1 6 [] [] (by kernel_rfl) ⟨obl_ld rfl rfl rfl (v_load rfl (st.reads (v := .string (strB x.key)) 0 rfl TF.t9 (Ac.g0_1 hok))), trivial⟩ rfl ?_
   refine wl_mapPut (v := (x.data, v19)) 1 st rfl kt_str Tryz.underlying93 hL'.keys (by omega) rfl rfl rfl ?_
   intro w st
   have st : St m0 m1 [] w0 w (kmE mb (insKV x.key (x.data, v19) L') :: Es) := st.drop 0
   refine wl_nil ⟨rfl, ?_⟩
   refine fl_nil (by kernel_rfl) trivial ?_
   refine block_go (then_go ?_)
   refine wc_region ?_
   refine wl_val (v_add' (c := ((i + 1 : Nat) : Int)) rfl rfl (by omega) (by omega) (by omega)) rfl ?_
   refine wl_val (v_move' (by conv => (lhs; whnf))) rfl ?_
   refine wl_nil ?_
   refine then_go ?_
   refine ⟨q - 1, by simp; omega, i + 1, m1, _, by omega, rfl, rfl, rfl, rfl, fun k o h => hg1.le k o (hmm k o h), (hL'.mono hg1.le).ins (by omega) (by omega) h19, fun y hy => (mem_insKV hy).elim (fun e => .inr (by rw [e]; exact hap)) fun hy => (hN.ext hg1.le) y hy, ?_, st⟩
   rw [kvs_ins, htk, actK, if_pos h13]
  ·refine wc_region ?_
   refine wl_val (v_move' (by conv => (lhs; whnf))) rfl ?_
   refine wl_val (v_fa TF.f57_0 rfl) rfl ?_
   refine wl_val (v_load rfl (st.reads (v := .string (strB x.key)) 0 rfl TF.t9 (Ac.g0_1 hok))) rfl ?_
   refine wl_mapDel 1 st rfl kt_str Tryz.underlying93 hL'.keys (kk := x.key) (by omega) rfl rfl ?_
   intro w st
   have st : St m0 m' [] w0 w (kmE mb (delKV x.key L') :: Es) := st.drop 0
   refine wl_nil ?_
   refine block_go (then_go ?_)
   refine wc_region ?_
   refine wl_val (v_add' (c := ((i + 1 : Nat) : Int)) rfl rfl (by omega) (by omega) (by omega)) rfl ?_
   refine wl_val (v_move' (by conv => (lhs; whnf))) rfl ?_
   refine wl_nil ?_
   refine then_go ?_
   refine ⟨q - 1, by simp; omega, i + 1, m', _, by omega, rfl, rfl, rfl, rfl, hmm, hL'.del, fun y hy => hN y (List.mem_filter.1 hy).1, ?_, st⟩
   rw [kvs_del, htk, actK, if_neg (by rw [h13]; decide)]
 ·refine wc_exit (then_exit (then_exit (block_hit ?_)))
  have hiA : i = A.length := by omega
  subst hiA
  rw [List.take_length] at hK
  exact end0 ⟨m', L', hmm, hL', hN, hK, st⟩
end
end Go.Proofs.YtladpaehbolghaaGreat

namespace Go.Proofs.YtladpaehbolghaaGreat
open Go Go.RowKit K SH GC JR OS
namespace OS
def actB (a : Ac) : By := txtB a.key ++ (if a.set then 1 :: txtB a.data else [0])
def batB (L : List Ac) : By := numB L.length ++ L.flatMap actB
theorem txtB_len {t : By} (h : t.length ≤ 1099511627776) : (txtB t).length ≤ t.length + 10 := by
 unfold txtB
 rw [List.length_append]
 have := numB_len10 (n := t.length) (by omega)
 omega
theorem actB_len {a : Ac} {B : Nat} (h : a.key.length + a.data.length ≤ B) (hB : B ≤ 1099511627776) : (actB a).length ≤ B + 30 := by
 unfold actB
 have h1 := txtB_len (t := a.key) (by omega)
 have h2 := txtB_len (t := a.data) (by omega)
 rw [List.length_append]
 split
 ·rw [List.length_cons]; omega
 ·simp; omega
def bulkA (L : List Ac) : Nat := (L.map fun a => a.key.length + a.data.length).sum
theorem bulk_cons {a : Ac} {L : List Ac} : bulkA (a :: L) = a.key.length + a.data.length + bulkA L := by simp [bulkA]
theorem flat_lenA : ∀ {L : List Ac}, bulkA L ≤ 1099511627776 → (L.flatMap actB).length ≤ bulkA L + 30 * L.length
 | [], _ => by simp
 | a :: L, h => by
  rw [bulk_cons] at h ⊢
  have h1 := actB_len (a := a) (Nat.le_refl _) (by omega)
  have h2 := flat_lenA (L := L) (by omega)
  rw [List.flatMap_cons, List.length_append, List.length_cons]
  omega
theorem bulk_take {L : List Ac} (i : Nat) : bulkA (L.take i) ≤ bulkA L := by
 induction L generalizing i with
 | nil => simp
 | cons a L ih =>
  cases i with
  | zero => simp [bulkA]
  | succ i => rw [List.take_succ_cons, bulk_cons, bulk_cons]; have := ih i; omega
theorem bulk_mem : ∀ {L : List Ac} {a : Ac}, a ∈ L → a.key.length + a.data.length ≤ bulkA L
 | b :: L, a, h => by
  rw [bulk_cons]
  rcases List.mem_cons.1 h with h | h
  ·subst h; omega
  ·have := bulk_mem h; omega
end OS
section
open OS
variable {m0 m : Mem} {F : List Nat} {w0 w : World} {Es : List Ent}
theorem c_batch {v : Value} {L : List AcT} (st : St m0 m [] w0 w Es) (hL : AcsM m v L) (hLl : L.length ≤ 1000000000) (hb : bulkA (L.map (·.1)) ≤ 10000000000) :
  Ret Tryz.prog 16 #[v] w fun v' w' => ∃ m', (∀ k o, m k = some o → m' k = some o) ∧ St m0 m' [] w0 w' (byE v' (batB (L.map (·.1))) :: Es) := by
 obtain ⟨la, lc, rfl⟩ := hL.1.sl
 obtain ⟨M, hM⟩ : ∃ M, M = L.map (·.1) := ⟨_, rfl⟩
 have hMl : M.length = L.length := by rw [hM, List.length_map]
 rw [← hM] at hb ⊢
 have h10 := numB_len10 (n := L.length) (by omega)
 refine ret_of Tryz.call16 Tryz.func16 rfl Tryz.ntmps16 Tryz.results16 rfl ?_
 refine wc_seq ?_
 refine wc_region ?_
 refine wl_val (v_assign' (by conv => (lhs; whnf))) rfl ?_
 refine wl_nil ?_
 refine then_go ?_
 refine wc_seq ?_
 have st := nilRow st 5 1
 have st : St m0 m [] w0 w (byE (.slice none 0 0) [] :: Es) := st
 refine wc_region ?_
 refine wl_val (v_move' (by conv => (lhs; whnf))) rfl ?_
 refine wl_val (v_len_s Tryz.underlying22 rfl) rfl ?_
 refine wl_val (v_convi_64 Tryz.underlying3 Tryz.underlying47 rfl) rfl ?_
 refine wl_call rfl (c_cnum (n := UInt64.ofNat L.length) st (by simp)) rfl ?_
 intro v9 w st
 rw [UInt64.toNat_ofNat', Nat.mod_eq_of_lt (by omega), List.nil_append] at st
 refine wl_val (v_assign' (by conv => (lhs; whnf))) rfl ?_
 refine wl_nil ?_
 refine then_go ?_
 refine wc_seq ?_
 refine wc_seq ?_
 refine wc_region ?_
 refine wl_val (v_move' (by conv => (lhs; whnf))) rfl ?_
 refine wl_val (v_len_s Tryz.underlying22 rfl) rfl ?_
 refine wl_val (v_move' (by conv => (lhs; whnf))) rfl ?_
 refine wl_nil ?_
 refine then_go ?_
 refine wc_block ?_
 refine wc_loop (S := Nat) (fun q r w' => ∃ i v m', q + i = L.length ∧ r 3 = v ∧ r 10 = .slice la L.length lc ∧ r 11 = .int .i64 L.length ∧ r 12 = .int .i64 i ∧ (∀ k o, m k = some o → m' k = some o) ∧ St m0 m' [] w0 w' (byE v (numB L.length ++ (M.take i).flatMap actB) :: Es)) id L.length ⟨0, v9, m, by omega, rfl, rfl, rfl, rfl, fun _ _ h => h, by simpa using st⟩ ?_
 clear st
 rintro q r w2 ⟨i, v, m', hqi, g3, g10, g11, g12, hmm, st⟩
 refine wc_o 3 g3 (wc_o 10 g10 (wc_o 11 g11 (wc_o 12 g12 ?_)))
 have hL := hL.mono hmm
 refine wc_seq ?_
 refine wc_region ?_
 refine wl_val (v_lss rfl rfl) rfl ?_
 refine wl_nil ?_
 refine then_go ?_
 refine wc_seq ?_
 refine wc_if rfl (fun h13 => ?_) (fun h13 => ?_)
 ·refine wc_skip ?_
  refine then_go ?_
  refine wc_seq ?_
  refine wc_block ?_
  refine wc_seq ?_
  have hi : i < L.length := by omega
  have hiM : i < M.length := by omega
  obtain ⟨lb, lo, da, dc, hla, hd, hrL, _⟩ := hL.at hi
  subst hla
  have hok : AcOk m' L[i].1 L[i].2 := hL.2 _ (List.getElem_mem hi)
  have hMi : M[i] = L[i].1 := by simp [hM]
  have hbi := bulk_mem (List.getElem_mem hiM)
  have hft := flat_lenA (L := M.take i) (Nat.le_trans (bulk_take i) (by omega))
  have hbt := bulk_take (L := M) i
  have hlt : (M.take i).length ≤ L.length := by simp; omega
  obtain ⟨x, hx⟩ : ∃ x, x = L[i].1 := ⟨_, rfl⟩
  rw [hMi] at hbi
  have htk : (M.take (i + 1)).flatMap actB = (M.take i).flatMap actB ++ actB x := by rw [List.take_succ_eq_append_getElem hiM, List.flatMap_append, hMi, ← hx]; simp
  rw [← hx] at hd hok hMi hbi
  rw [hd] at hok
  have hrX : ∀ {w' : World}, Im m' w' → Reads Tryz.prog w' 57 ⟨lb, lo + i * 3, none⟩ (.agg (acC x (.slice da x.data.length dc)).toArray) := by rw [← hd, hx]; exact hrL
  have htl := txtB_len (t := x.key) (by omega)
  have htd := txtB_len (t := x.data) (by omega)
  refine wc_region ?_
  refine wl_val (v_ias i Tryz.underlying22 TF.t57 rfl rfl (by first | rfl | omega) (by first | omega | (dsimp only at *; omega))) rfl ?_
  refine wl_val (v_load rfl (hrX st.im)) rfl ?_
  refine wl_alloc TF.z57 st rfl ?_
  intro b5 w st
  refine wl_storeW (cs := (acC x (.slice da x.data.length dc)).toArray) 0 st rfl TF.t57 rfl rfl (by exact Ac.len hok) rfl (by exact Ac.one hok) ?_
  intro w st
  refine wl_nil ?_
  refine then_go ?_
  refine wc_seq ?_
  refine wc_region ?_
  refine wl_val (v_move' (by conv => (lhs; whnf))) rfl ?_
  refine wl_val (v_fa TF.f57_0 rfl) rfl ?_
  refine wl_val (v_load rfl (by first | exact st.rdp 0 rfl (by exact rfl) TF.t9 (by exact (Ac.g0_1 (by assumption))) | exact st.rdp 1 rfl (by exact rfl) TF.t9 (by exact (Ac.g0_1 (by assumption))) | exact st.rdp 2 rfl (by exact rfl) TF.t9 (by exact (Ac.g0_1 (by assumption))) | exact st.rdp 3 rfl (by exact rfl) TF.t9 (by exact (Ac.g0_1 (by assumption))) | exact st.rdp 4 rfl (by exact rfl) TF.t9 (by exact (Ac.g0_1 (by assumption))) | exact st.rdp 5 rfl (by exact rfl) TF.t9 (by exact (Ac.g0_1 (by assumption))) | exact st.rdp 6 rfl (by exact rfl) TF.t9 (by exact (Ac.g0_1 (by assumption))) | exact st.rdp 7 rfl (by exact rfl) TF.t9 (by exact (Ac.g0_1 (by assumption))))) rfl ?_
  refine wl_s2b Tryz.underlying9 Tryz.underlying23 Tryz.underlying5 rfl st rfl ?_
  intro v19 m1 w hg1 hk1 _ st
  have hok := hok.mono hg1.le
  have hmm1 : ∀ k o, m k = some o → m1 k = some o := fun k o h => hg1.le k o (hmm k o h)
  have st : St m0 m1 [] w0 w (byE v (numB L.length ++ (M.take i).flatMap actB) :: K.blk b5 (acC x (.slice da x.data.length dc)).toArray 57 :: Es) := st.perm (List.Perm.swap _ _ _)
  refine wl_call rfl (c_ctext st (by rw [List.length_append]; omega) (by omega) hk1) rfl ?_
  intro v20 w st
  refine wl_val (v_assign' (by conv => (lhs; whnf))) rfl ?_
  refine wl_nil ?_
  refine then_go ?_
  refine wc_seq ?_
  refine wc_region ?_
  refine wl_val (v_fa TF.f57_1 rfl) rfl ?_
  refine wl_val (v_load rfl (st.reads (v := .bool x.set) 1 rfl TF.t4 (Ac.g1_1 hok))) rfl ?_
  refine wl_nil ?_
  refine then_go ?_
  refine wc_cond rfl (fun h22 => ?_) (fun h22 => ?_)
  ·refine wc_draw TF.mixed ?_
   have st := st.pure (touch_drew _)
   refine fl_val 0 rfl (fun _ => (v_move' (by conv => (lhs; whnf)))) rfl (by kernel_rfl) ?_
   refine fl_val 2 rfl (fun _ => (v_fa TF.f57_2 rfl)) rfl (by kernel_rfl) ?_
   refine fl_ld 3 rfl (v_load rfl (st.reads (v := .slice da x.data.length dc) 1 rfl TF.t23 (Ac.g2_1 hok))) (by kernel_rfl) ?_
   refine fl_eff1 1 [2] [3] (by kernel_rfl) ⟨obl_ld rfl rfl rfl (v_load rfl (st.reads (v := .slice da x.data.length dc) 1 rfl TF.t23 (Ac.g2_1 hok))), trivial⟩ rfl ?_
   refine wl_call rfl (c_cnum (n := 1) st (by rw [List.length_append, List.length_append]; omega)) rfl ?_
   intro v24 w st
   refine wl_nil ⟨rfl, ?_⟩
   refine fl_eff1 4 [2] [] (by kernel_rfl) ⟨obl_ld rfl rfl rfl (v_load rfl (st.reads (v := .slice da x.data.length dc) 1 rfl TF.t23 (Ac.g2_1 hok))), trivial⟩ rfl ?_
   have e1 : (numB (1 : UInt64).toNat) = [1] := by rw [show (1 : UInt64).toNat = 1 from rfl, numB_small (by decide)]; rfl
   rw [e1] at st
   refine wl_call rfl (c_ctext st (by simp only [List.length_append, List.length_cons, List.length_nil]; omega) (by omega) hok.data) rfl ?_
   intro v27 w st
   refine wl_nil ⟨rfl, ?_⟩
   refine fl_eff1 5 [] [] (by kernel_rfl) trivial rfl ?_
   refine wl_val (v_assign' (by conv => (lhs; whnf))) rfl ?_
   refine wl_nil ⟨rfl, ?_⟩
   refine fl_nil (by kernel_rfl) trivial ?_
   refine block_go (then_go ?_)
   refine wc_region ?_
   refine wl_val (v_add' (c := ((i + 1 : Nat) : Int)) rfl rfl (by omega) (by omega) (by omega)) rfl ?_
   refine wl_val (v_move' (by conv => (lhs; whnf))) rfl ?_
   refine wl_nil ?_
   refine then_go ?_
   refine ⟨q - 1, by simp; omega, i + 1, _, m1, by omega, rfl, rfl, rfl, rfl, hmm1, ?_⟩
   have e : numB L.length ++ (M.take (i + 1)).flatMap actB = numB L.length ++ (M.take i).flatMap actB ++ txtB x.key ++ [1] ++ txtB x.data := by rw [htk, actB, h22]; simp
   rw [e]
   exact st.drop 1
  ·refine wc_region ?_
   refine wl_val (v_move' (by conv => (lhs; whnf))) rfl ?_
   refine wl_call rfl (c_cnum (n := 0) st (by rw [List.length_append, List.length_append]; omega)) rfl ?_
   intro v29 w st
   refine wl_val (v_assign' (by conv => (lhs; whnf))) rfl ?_
   refine wl_nil ?_
   refine block_go (then_go ?_)
   refine wc_region ?_
   refine wl_val (v_add' (c := ((i + 1 : Nat) : Int)) rfl rfl (by omega) (by omega) (by omega)) rfl ?_
   refine wl_val (v_move' (by conv => (lhs; whnf))) rfl ?_
   refine wl_nil ?_
   refine then_go ?_
   refine ⟨q - 1, by simp; omega, i + 1, _, m1, by omega, rfl, rfl, rfl, rfl, hmm1, ?_⟩
   have e0 : (numB (0 : UInt64).toNat) = [0] := by rw [show (0 : UInt64).toNat = 0 from rfl, numB_small (by decide)]; rfl
   rw [e0] at st
   have e : numB L.length ++ (M.take (i + 1)).flatMap actB = numB L.length ++ (M.take i).flatMap actB ++ txtB x.key ++ [0] := by rw [htk, actB, h22]; simp
   rw [e]
   exact st.drop 1
 ·refine wc_exit (then_exit (then_exit (block_hit ?_)))
  refine then_go ?_
  refine wc_seq ?_
  refine wc_region ?_
  refine wl_val (v_move' (by conv => (lhs; whnf))) rfl ?_
  refine wl_val (v_assign' (by conv => (lhs; whnf))) rfl ?_
  refine wl_nil ?_
  refine then_go ?_
  refine wc_ret ?_
  have hiL : i = M.length := by omega
  subst hiL
  rw [List.take_length] at st
  exact ret1 rfl ⟨m', hmm, by unfold batB; rw [hMl]; exact st⟩
end
end Go.Proofs.YtladpaehbolghaaGreat

namespace Go.Proofs.YtladpaehbolghaaGreat
open Go Go.RowKit K SH GC JR
theorem cntR_none {most : Nat} {b : List UInt8} (h : numR 0 b = none) : cntR most b = none := by unfold cntR; rw [h]
theorem cntR_some {most n : Nat} {b r : List UInt8} (h : numR 0 b = some (n, r)) : cntR most b = if most < n then none else some (n, r) := by unfold cntR; rw [h]
section
variable {m0 m : Mem} {F : List Nat} {w0 w : World} {Es : List Ent}
theorem c_rdcount {rb i most : Nat} {bv : Value} {b : List UInt8} (st : St m0 m F w0 w (rdE rb bv i :: Es)) (hb : SlM m bv 1 b.length (bs b)) (hl : b.length ≤ 1099511627776) (hi : i ≤ b.length) (hm : most ≤ 1099511627776) :
  RetP Tryz.prog 37 #[rdP rb, .int .i64 most] w faultV (fun v w' => ∃ n j, i < j ∧ j ≤ b.length ∧ n ≤ most ∧ cntR most (b.drop i) = some (n, b.drop j) ∧ v = .int .i64 n ∧ St m0 m F w0 w' (rdE rb bv j :: Es)) (fun w' => cntR most (b.drop i) = none ∧ ∃ j, j ≤ b.length ∧ St m0 m F w0 w' (rdE rb bv j :: Es)) := by
 refine ret_ofP Tryz.call37 Tryz.func37 rfl Tryz.ntmps37 Tryz.results37 rfl ?_
 refine wc_seq ?_
 refine wc_region ?_
 refine wl_val (v_assign' (by conv => (lhs; whnf))) rfl ?_
 refine wl_nil ?_
 refine then_go ?_
 refine wc_seq ?_
 refine wc_region ?_
 refine wl_val (v_move' (by conv => (lhs; whnf))) rfl ?_
 refine wl_callP rfl (c_rdnum st hb hl hi) rfl (fun w' h => ⟨rfl, cntR_none h.1, h.2⟩) ?_
 rintro v7 w ⟨n, j, hij, hj, hn, rfl, st⟩
 have hc := cntR_some (most := most) hn
 have hn64 := (numR_lt (by omega) hn).1
 have hn64 : n < 18446744073709551616 := hn64
 refine wl_val (v_assign' (by conv => (lhs; whnf))) rfl ?_
 refine wl_nil ?_
 refine then_go ?_
 refine wc_seq ?_
 refine wc_seq ?_
 refine wc_region ?_
 refine wl_val (v_move' (by conv => (lhs; whnf))) rfl ?_
 refine wl_val (wl_valD (v_lss rfl rfl) (q := false) (decide_eq_false (by omega))) rfl ?_
 refine wl_val (v_move' (by conv => (lhs; whnf))) rfl ?_
 refine wl_on rfl rfl ?_
 refine wl_val (v_move' (by conv => (lhs; whnf))) rfl ?_
 refine wl_on rfl rfl ?_
 refine wl_val (v_move' (by conv => (lhs; whnf))) rfl ?_
 refine wl_on rfl rfl ?_
 refine wl_val (v_convi_64 Tryz.underlying3 Tryz.underlying47 rfl) rfl ?_
 refine wl_on rfl rfl ?_
 refine wl_val (wl_valD (v_gtr (a := ((UInt64.ofNat n).toNat : Int)) (b := ((UInt64.ofNat most).toNat : Int)) rfl rfl) (q := decide (most < n)) (by rw [UInt64.toNat_ofNat', UInt64.toNat_ofNat', Nat.mod_eq_of_lt hn64, Nat.mod_eq_of_lt (by omega)]; simp)) rfl ?_
 refine wl_val (v_pick rfl) rfl ?_
 refine wl_nil ?_
 refine then_go ?_
 refine wc_cond rfl (fun h15 => ?_) (fun h15 => ?_)
 ·refine wc_region ?_
  refine wl_val (v_move' (by conv => (lhs; whnf))) rfl ?_
  exact wl_callP rfl c_fail rfl (fun w' h => by subst h; exact ⟨rfl, by rw [hc, if_pos (of_decide_eq_true h15)], j, hj, st⟩) (fun _ _ h => h.elim)
 ·refine wc_skip ?_
  refine then_go ?_
  refine wc_seq ?_
  have hnm : n ≤ most := by have := of_decide_eq_false h15; omega
  rw [if_neg (by omega)] at hc
  refine wc_region ?_
  refine wl_val (v_move' (by conv => (lhs; whnf))) rfl ?_
  refine wl_val (v_to (v' := .int .i64 (n : Int)) (v_conv64i Tryz.underlying47 Tryz.underlying3 rfl (by rw [UInt64.toNat_ofNat', Nat.mod_eq_of_lt hn64]; omega)) (by rw [UInt64.toNat_ofNat', Nat.mod_eq_of_lt hn64])) rfl ?_
  refine wl_val (v_assign' (by conv => (lhs; whnf))) rfl ?_
  refine wl_nil ?_
  refine then_go ?_
  refine wc_ret ?_
  exact toP (ret1 rfl ⟨n, j, hij, hj, hnm, hc, rfl, st⟩)
theorem c_rdtext {rb i : Nat} {bv : Value} {b : List UInt8} (st : St m0 m [] w0 w (rdE rb bv i :: Es)) (hb : SlM m bv 1 b.length (bs b)) (hl : b.length ≤ 1099511627776) (hi : i ≤ b.length) :
  RetP Tryz.prog 38 #[rdP rb] w faultV (fun v w' => ∃ m' t j, (∀ k o, m k = some o → m' k = some o) ∧ i < j ∧ j ≤ b.length ∧ txtR (b.drop i) = some (t, b.drop j) ∧ SlM m' v 1 t.length (bs t) ∧ St m0 m' [] w0 w' (rdE rb bv j :: Es)) (fun w' => txtR (b.drop i) = none ∧ ∃ j, j ≤ b.length ∧ St m0 m [] w0 w' (rdE rb bv j :: Es)) := by
 obtain ⟨ba, bc, rfl, hbc⟩ := hb.opn
 refine ret_ofP Tryz.call38 Tryz.func38 rfl Tryz.ntmps38 Tryz.results38 rfl ?_
 refine wc_seq ?_
 refine wc_region ?_
 refine wl_val (v_assign' (by conv => (lhs; whnf))) rfl ?_
 refine wl_nil ?_
 refine then_go ?_
 refine wc_seq ?_
 refine wc_region ?_
 refine wl_val (v_move' (by conv => (lhs; whnf))) rfl ?_
 refine wl_callP rfl (c_rdcount (most := 1048576) st hb hl hi (by decide)) rfl (fun w' h => ⟨rfl, by unfold txtR; rw [h.1], h.2⟩) ?_
 rintro v5 w ⟨n, j, hij, hj, hnm, hc, rfl, st⟩
 have hT : txtR (b.drop i) = takeR n (b.drop j) := by unfold txtR; rw [hc]
 refine wl_val (v_assign' (by conv => (lhs; whnf))) rfl ?_
 refine wl_nil ?_
 refine then_go ?_
 refine wc_seq ?_
 refine wc_seq ?_
 refine wc_draw TF.mixed ?_
 have st := st.pure (touch_drew _)
 refine fl_val 0 rfl (fun _ => (v_move' (by conv => (lhs; whnf)))) rfl (by kernel_rfl) ?_
 refine fl_val 1 rfl (fun _ => (v_move' (by conv => (lhs; whnf)))) rfl (by kernel_rfl) ?_
 refine fl_val 2 rfl (fun _ => (v_nil rfl)) rfl (by kernel_rfl) ?_
 refine fl_val 3 rfl (fun _ => (v_fa TF.f117_0 rfl)) rfl (by kernel_rfl) ?_
 refine fl_ld 4 rfl (v_load rfl (st.reads (v := .slice ba b.length bc) 0 rfl TF.t23 rfl)) (by kernel_rfl) ?_
 refine fl_val 5 rfl (fun _ => (v_len_s Tryz.underlying23 rfl)) rfl (by kernel_rfl) ?_
 refine fl_val 6 rfl (fun _ => (v_move' (by conv => (lhs; whnf)))) rfl (by kernel_rfl) ?_
 refine fl_val 7 rfl (fun _ => (v_nil rfl)) rfl (by kernel_rfl) ?_
 refine fl_val 8 rfl (fun _ => (v_fa TF.f117_1 rfl)) rfl (by kernel_rfl) ?_
 refine fl_ld 9 rfl (v_load rfl (st.reads (v := .int .i64 (j : Int)) 0 rfl TF.t3 rfl)) (by kernel_rfl) ?_
 refine fl_val 10 rfl (fun _ => (v_sub' (c := ((b.length - j : Nat) : Int)) rfl rfl (by omega) (by omega) (by omega))) rfl (by kernel_rfl) ?_
 refine fl_val 11 rfl (fun _ => (v_gtr rfl rfl)) rfl (by kernel_rfl) ?_
 refine fl_nil (by kernel_rfl) ⟨obl_ld rfl rfl rfl (v_load rfl (st.reads (v := .int .i64 (j : Int)) 0 rfl TF.t3 rfl)), obl_ld rfl rfl rfl (v_load rfl (st.reads (v := .slice ba b.length bc) 0 rfl TF.t23 rfl)), trivial⟩ ?_
 refine then_go ?_
 refine wc_cond rfl (fun h17 => ?_) (fun h17 => ?_)
 ·refine wc_region ?_
  refine wl_val (v_move' (by conv => (lhs; whnf))) rfl ?_
  exact wl_callP rfl c_fail rfl (fun w' h => by subst h; exact ⟨rfl, by rw [hT]; unfold takeR; rw [if_pos (by have := of_decide_eq_true h17; rw [List.length_drop]; omega)], j, hj, st⟩) (fun _ _ h => h.elim)
 ·refine wc_skip ?_
  refine then_go ?_
  refine wc_seq ?_
  have hnl : j + n ≤ b.length := by have := of_decide_eq_false h17; omega
  have hT : txtR (b.drop i) = some ((b.drop j).take n, b.drop (j + n)) := by rw [hT]; unfold takeR; rw [if_neg (by rw [List.length_drop]; omega), List.drop_drop]
  refine wc_region ?_
  refine wl_val (v_move' (by conv => (lhs; whnf))) rfl ?_
  refine wl_val (v_nil rfl) rfl ?_
  refine wl_val (v_fa TF.f117_1 rfl) rfl ?_
  refine wl_val (v_load rfl (st.reads (v := .int .i64 (j : Int)) 0 rfl TF.t3 rfl)) rfl ?_
  refine wl_val (v_move' (by conv => (lhs; whnf))) rfl ?_
  refine wl_val (v_add' (c := ((j + n : Nat) : Int)) rfl rfl (by omega) (by omega) (by omega)) rfl ?_
  refine wl_val (v_nil rfl) rfl ?_
  refine wl_val (v_fa TF.f117_1 rfl) rfl ?_
  refine wl_store1 (v := .int .i64 ((j + n : Nat) : Int)) 0 st rfl TF.t3 rfl rfl rfl (lt_ok rfl) ?_
  intro w st
  have st : St m0 m [] w0 w (rdE rb (.slice ba b.length bc) (j + n) :: Es) := st
  refine wl_nil ?_
  refine then_go ?_
  refine wc_seq ?_
  have st := nilRow st 5 1
  have st : St m0 m [] w0 w (byE (.slice none 0 0) [] :: rdE rb (.slice ba b.length bc) (j + n) :: Es) := st
  have hpart := hb.partB j (j + n) (by omega) hnl
  have hpe : (b.drop j).take (j + n - j) = (b.drop j).take n := by rw [Nat.add_sub_cancel_left]
  rw [hpe] at hpart
  have htl : ((b.drop j).take n).length = n := by rw [List.length_take, List.length_drop]; omega
  refine wc_draw TF.mixed ?_
  have st := st.pure (touch_drew _)
  refine fl_val 0 rfl (fun _ => (v_move' (by conv => (lhs; whnf)))) rfl (by kernel_rfl) ?_
  refine fl_val 1 rfl (fun _ => (v_nil rfl)) rfl (by kernel_rfl) ?_
  refine fl_val 2 rfl (fun _ => (v_fa TF.f117_0 rfl)) rfl (by kernel_rfl) ?_
  refine fl_ld 3 rfl (v_load rfl (st.reads (v := .slice ba b.length bc) 1 rfl TF.t23 rfl)) (by kernel_rfl) ?_
  refine fl_val 4 rfl (fun _ => (v_move' (by conv => (lhs; whnf)))) rfl (by kernel_rfl) ?_
  refine fl_val 5 rfl (fun _ => (v_nil rfl)) rfl (by kernel_rfl) ?_
  refine fl_val 6 rfl (fun _ => (v_fa TF.f117_1 rfl)) rfl (by kernel_rfl) ?_
  refine fl_ld 7 rfl (v_load rfl (st.reads (v := .int .i64 ((j + n : Nat) : Int)) 1 rfl TF.t3 rfl)) (by kernel_rfl) ?_
  refine fl_val 8 rfl (fun _ => (v_move' (by conv => (lhs; whnf)))) rfl (by kernel_rfl) ?_
  refine fl_val 9 rfl (fun _ => (v_sub' (c := (j : Int)) rfl rfl (by omega) (by omega) (by omega))) rfl (by kernel_rfl) ?_
  refine fl_val 10 rfl (fun _ => (v_move' (by conv => (lhs; whnf)))) rfl (by kernel_rfl) ?_
  refine fl_val 11 rfl (fun _ => (v_nil rfl)) rfl (by kernel_rfl) ?_
  refine fl_val 12 rfl (fun _ => (v_fa TF.f117_1 rfl)) rfl (by kernel_rfl) ?_
  refine fl_ld 13 rfl (v_load rfl (st.reads (v := .int .i64 ((j + n : Nat) : Int)) 1 rfl TF.t3 rfl)) (by kernel_rfl) ?_
  refine fl_val 14 rfl (fun _ => (v_sls j (j + n) Tryz.underlying23 TF.t5 rfl ⟨_, _, rfl, rfl⟩ ⟨_, _, rfl, rfl⟩ (by omega) (by omega))) rfl (by kernel_rfl) ?_
  refine fl_eff1 15 [12, 11, 10, 9, 8, 6, 5, 4, 2, 1, 0] [13, 7, 3] (by kernel_rfl) ⟨obl_ld rfl rfl rfl (v_load rfl (st.reads (v := .int .i64 ((j + n : Nat) : Int)) 1 rfl TF.t3 rfl)), obl_ld rfl rfl rfl (v_load rfl (st.reads (v := .int .i64 ((j + n : Nat) : Int)) 1 rfl TF.t3 rfl)), obl_ld rfl rfl rfl (v_load rfl (st.reads (v := .slice ba b.length bc) 1 rfl TF.t23 rfl)), trivial⟩ rfl ?_
  refine wl_appB (l2 := (b.drop j).take n) st Tryz.underlying23 Tryz.underlying23 (.inr ⟨_, rfl⟩) TF.t5 TF.z5 rfl rfl (hpart.src st.im (one_bs _)) (by simp; omega) (by simp; omega) rfl ?_
  intro v43 w st hv43
  refine wl_nil ⟨rfl, ?_⟩
  refine fl_eff1 16 [] [] (by kernel_rfl) ⟨obl_ld rfl rfl rfl (v_load rfl (st.reads (v := .int .i64 ((j + n : Nat) : Int)) 1 rfl TF.t3 rfl)), obl_ld rfl rfl rfl (v_load rfl (st.reads (v := .int .i64 ((j + n : Nat) : Int)) 1 rfl TF.t3 rfl)), obl_ld rfl rfl rfl (v_load rfl (st.reads (v := .slice ba b.length bc) 1 rfl TF.t23 rfl)), trivial⟩ rfl ?_
  refine wl_val (v_assign' (by conv => (lhs; whnf))) rfl ?_
  refine wl_nil ⟨rfl, ?_⟩
  refine fl_nil (by kernel_rfl) trivial ?_
  refine then_go ?_
  refine wc_ret ?_
  have st0 := st
  obtain ⟨m1, hg1, hm1, st⟩ := st.freezeR (i := 0) rfl (by simp)
  exact toP (ret1 rfl ⟨m1, (b.drop j).take n, j + n, hg1.le, by omega, hnl, hT, row_SlM (m := m1) (st0.at (i := 0) rfl) hm1, st⟩)
end
end Go.Proofs.YtladpaehbolghaaGreat

namespace Go.Proofs.YtladpaehbolghaaGreat
open Go Go.RowKit K SH GC JR
abbrev errE (eb : Nat) (z : Nat) : Ent := K.blk eb #[.int .i64 z] 26
section
variable {m0 m : Mem} {F : List Nat} {w0 w : World} {Es : List Ent}
theorem ifc20 : Tryz.prog.underlying 20 = some (.interface (Tryz.prog.methodsAt 20)) := by kernel_rfl
theorem c_catch {eb z : Nat} (st : St m0 m F w0 w (errE eb z :: Es)) : CallsD Tryz.prog 65 #[.pointer (some ⟨eb, 0, none⟩)] (.panicking (thrown faultV)) w fun e u' w' => e = .returned (.tuple #[]) ∧ u' = .panicking [{ v := faultV, recovered := true }] ∧ St m0 m F w0 w' (errE eb 3 :: Es) := by
 refine callsD_of_wpS Tryz.func65 rfl fun c₀ cs hu => ?_
 rw [Tryz.ntmps65]
 have ha := (has_args (args := [.pointer (some ⟨eb, 0, none⟩)]) (n := 10) rfl).put (d := 4) rfl faultV
 refine wpS_seq (wpS_recover (v := faultV) (cs' := { c₀ with mode := .panicking [{ v := faultV, recovered := true }] } :: cs) (by simp [recoverD, hu]) (wpS_of_wp (Code.wp_mono ?_ ((?_ : WC Tryz.prog 10 (fun e _ w' => e = .normal ∧ St m0 m F w0 w' (errE eb 3 :: Es)) _ _ w) [] _ ha))))
 ·rintro e a' w' ⟨r', ha', rfl, st⟩
  exact ⟨ha'.defers, _, rfl, _, results_of (vs := []) ha' Tryz.results65 trivial, rfl, rfl, st⟩
 ·refine wc_block ?_
  refine wc_seq ?_
  refine wc_region ?_
  refine wl_val (v_eqIH ifc20 rfl rfl) rfl ?_
  refine wl_nil ?_
  refine then_go ?_
  refine wc_false rfl ?_
  refine wc_seq ?_
  refine wc_region ?_
  refine wl_val (v_tassert Tryz.underlying115 trivial rfl) rfl ?_
  refine wl_val (v_extract rfl rfl) rfl ?_
  refine wl_val (v_extract rfl rfl) rfl ?_
  refine wl_nil ?_
  refine then_go ?_
  refine wc_true rfl ?_
  refine wc_seq ?_
  refine wc_region ?_
  refine wl_alloc TF.z115 st rfl ?_
  intro b2 w st
  refine wl_storeW (cs := #[]) 0 st rfl TF.t115 rfl rfl rfl rfl (by intro u hu; cases hu) ?_
  intro w st
  refine wl_nil ?_
  refine then_go ?_
  refine wc_region ?_
  refine wl_store1 (v := .int .i64 (3 : Nat)) 1 st rfl TF.t26 rfl rfl rfl (lt_ok rfl) ?_
  intro w st
  refine wl_nil ?_
  refine block_go ?_
  exact ⟨rfl, st.drop 0⟩
theorem c_idle {eb z : Nat} (st : St m0 m F w0 w (errE eb z :: Es)) : CallsD Tryz.prog 65 #[.pointer (some ⟨eb, 0, none⟩)] .returning w fun e u' w' => e = .returned (.tuple #[]) ∧ u' = .returning ∧ St m0 m F w0 w' (errE eb z :: Es) := by
 refine callsD_of_wpS Tryz.func65 rfl fun c₀ cs hu => ?_
 rw [Tryz.ntmps65]
 have ha := (has_args (args := [.pointer (some ⟨eb, 0, none⟩)]) (n := 10) rfl).put (d := 4) rfl .nilIface
 refine wpS_seq (wpS_idle (by simp [recoverD, hu]) (wpS_of_wp (Code.wp_mono ?_ ((?_ : WC Tryz.prog 10 (fun e _ w' => e = .normal ∧ St m0 m F w0 w' (errE eb z :: Es)) _ _ w) [] _ ha))))
 ·rintro e a' w' ⟨r', ha', rfl, st⟩
  exact ⟨ha'.defers, .returning, by rw [← hu], _, results_of (vs := []) ha' Tryz.results65 trivial, rfl, rfl, st⟩
 ·refine wc_block ?_
  refine wc_seq ?_
  refine wc_region ?_
  refine wl_val (v_eqIN ifc20 rfl) rfl ?_
  refine wl_nil ?_
  refine then_go ?_
  refine wc_true rfl ?_
  refine wc_region ?_
  refine wl_val (v_assign' (by conv => (lhs; whnf))) rfl ?_
  refine wl_nil ?_
  refine block_go ?_
  exact ⟨rfl, st⟩
abbrev catchD (eb : Nat) : Deferred := { target := .fn (.func 65) #[.pointer (some ⟨eb, 0, none⟩)], args := #[] }
theorem leaves_catch {n eb z' : Nat} {a : Act} {r : Fr} {R : Ending → World → Prop} {u u' : FrameMode} (ha : Has n [catchD eb] a r) (g4 : r 4 = .pointer (some ⟨eb, 0, none⟩)) (hu : u ≠ .run) (hs : settle u' = .returning)
  (hc : CallsD Tryz.prog 65 #[.pointer (some ⟨eb, 0, none⟩)] u w fun e v w' => e = .returned (.tuple #[]) ∧ v = u' ∧ St m0 m F w0 w' (errE eb z' :: Es)) (hR : ∀ w', St m0 m F w0 w' Es → R (.returned (.int .i64 (z' : Nat))) w') :
  Leaves Tryz.prog Tryz.f35 a.tmps R [catchD eb] u w := by
 refine leaves_cons hu (f := 65) (args := #[.pointer (some ⟨eb, 0, none⟩)]) (by simp [invoke, Tryz.call65]) (hc.mono ?_)
 rintro e v w' ⟨rfl, rfl, st⟩
 show Leaves _ _ _ _ [] (settle _) _
 rw [hs]
 exact ⟨_, results_of (vs := [.int .i64 (z' : Nat)]) ha Tryz.results35 ⟨⟨_, g4, st.reads 0 rfl TF.t26 rfl⟩, trivial⟩, hR w' (st.drop 0)⟩
theorem c_cread {bv : Value} {b : List UInt8} {gf : FuncId} {cap : List Value} {RR : Mem → Nat → List Ent → Prop} {XX : Mem → List Ent → Prop} (st : St m0 m F w0 w Es) (hb : SlM m bv 1 b.length (bs b))
  (hf : ∀ rb eb w1, St m0 m F w0 w1 (rdE rb bv 0 :: errE eb 0 :: Es) → RetP Tryz.prog gf (rdP rb :: cap).toArray w1 faultV (fun _ w2 => ∃ m2 j Es2, RR m2 j Es2 ∧ St m0 m2 F w0 w2 (rdE rb bv j :: errE eb 0 :: Es2)) (fun w2 => ∃ m2 Es2, XX m2 Es2 ∧ St m0 m2 F w0 w2 (errE eb 0 :: Es2))) :
  Ret Tryz.prog 35 #[bv, .func (.func gf) #[] cap.toArray] w fun v w' => (∃ m2 j Es2, RR m2 j Es2 ∧ v = .int .i64 (if j = b.length then 0 else 3 : Nat) ∧ St m0 m2 F w0 w' Es2) ∨ (∃ m2 Es2, XX m2 Es2 ∧ v = .int .i64 (3 : Nat) ∧ St m0 m2 F w0 w' Es2) := by
 obtain ⟨_, ba, bc, rfl, _⟩ := id hb
 refine ⟨Tryz.call35, calls_ofD Tryz.func35 rfl Tryz.ntmps35 rfl (args := [.slice ba b.length bc, .func (.func gf) #[] cap.toArray]) ?_⟩
 refine wd_seqc ?_
 refine wc_region ?_
 refine wl_alloc TF.z26 st rfl ?_
 intro eb w st
 have st : St m0 m F w0 w (errE eb 0 :: Es) := st
 refine wl_nil ?_
 refine then_go ?_
 refine wd_seqd (wd_defer rfl ?_)
 refine wd_of_wc ?_
 refine wc_seq ?_
 refine wc_region ?_
 refine wl_val (v_move' (by conv => (lhs; whnf))) rfl ?_
 refine wl_val (v_build (c' := #[.slice ba b.length bc, .int .i64 0]) [(0, .slice ba b.length bc)] TF.z117 TF.p117 rfl ⟨0, 1, rfl, rfl, by decide, rfl⟩) rfl ?_
 refine wl_box rfl st rfl ?_
 intro rb w st
 have st : St m0 m F w0 w (rdE rb (.slice ba b.length bc) 0 :: errE eb 0 :: Es) := st
 refine wl_val (v_assign' (by conv => (lhs; whnf))) rfl ?_
 refine wl_nil ?_
 refine then_go ?_
 refine wc_seq ?_
 refine wc_region ?_
 refine wl_val (v_move' (by conv => (lhs; whnf))) rfl ?_
 refine wl_val (v_move' (by conv => (lhs; whnf))) rfl ?_
 refine wl_callvP rfl (by simp; rfl) (hf rb eb w st) rfl ?_ ?_
 ·rintro w' ⟨m2, Es2, hX, st⟩
  intro a ha
  exact leaves_catch ha rfl (by simp) rfl (c_catch st) fun w' st => ⟨_, rfl, .inr ⟨m2, Es2, hX, rfl, st⟩⟩
 rintro v12 w ⟨m2, j, Es2, hR, st⟩
 refine wl_nil ?_
 refine then_go ?_
 refine wc_seq ?_
 refine wc_seq ?_
 refine wc_draw TF.mixed ?_
 have st := st.pure (touch_drew _)
 refine fl_val 0 rfl (fun _ => (v_move' (by conv => (lhs; whnf)))) rfl (by kernel_rfl) ?_
 refine fl_val 1 rfl (fun _ => (v_nil rfl)) rfl (by kernel_rfl) ?_
 refine fl_val 2 rfl (fun _ => (v_fa TF.f117_1 rfl)) rfl (by kernel_rfl) ?_
 refine fl_ld 3 rfl (v_load rfl (st.reads (v := .int .i64 (j : Int)) 0 rfl TF.t3 rfl)) (by kernel_rfl) ?_
 refine fl_val 4 rfl (fun _ => (v_move' (by conv => (lhs; whnf)))) rfl (by kernel_rfl) ?_
 refine fl_val 5 rfl (fun _ => (v_nil rfl)) rfl (by kernel_rfl) ?_
 refine fl_val 6 rfl (fun _ => (v_fa TF.f117_0 rfl)) rfl (by kernel_rfl) ?_
 refine fl_ld 7 rfl (v_load rfl (st.reads (v := .slice ba b.length bc) 0 rfl TF.t23 rfl)) (by kernel_rfl) ?_
 refine fl_val 8 rfl (fun _ => (v_len_s Tryz.underlying23 rfl)) rfl (by kernel_rfl) ?_
 refine fl_val 9 rfl (fun _ => (v_neq rfl rfl)) rfl (by kernel_rfl) ?_
 refine fl_nil (by kernel_rfl) ⟨obl_ld rfl rfl rfl (v_load rfl (st.reads (v := .slice ba b.length bc) 0 rfl TF.t23 rfl)), obl_ld rfl rfl rfl (v_load rfl (st.reads (v := .int .i64 (j : Int)) 0 rfl TF.t3 rfl)), trivial⟩ ?_
 refine then_go ?_
 refine wc_cond rfl (fun h22 => ?_) (fun h22 => ?_)
 ·refine wc_region ?_
  refine wl_val (v_build (c' := #[]) [] TF.z115 TF.p115 rfl rfl) rfl ?_
  refine wl_val (v_mkiface Tryz.underlying115 trivial rfl) rfl ?_
  refine wl_panic rfl ?_
  have hj : ¬ j = b.length := by have := of_decide_eq_true h22; omega
  intro a ha
  exact leaves_catch ha rfl (by simp) rfl (c_catch (st.drop 0)) fun w' st => ⟨_, rfl, .inl ⟨m2, j, Es2, hR, by rw [if_neg hj], st⟩⟩
 ·refine wc_skip ?_
  refine then_go ?_
  refine wc_seq ?_
  refine wc_region ?_
  refine wl_store1 (v := .int .i64 (0 : Nat)) 1 st rfl TF.t26 rfl rfl rfl (lt_ok rfl) ?_
  intro w st
  refine wl_nil ?_
  refine then_go ?_
  refine wc_ret ?_
  have hj : j = b.length := by have := of_decide_eq_false h22; omega
  intro a ha
  exact leaves_catch ha rfl (by simp) rfl (c_idle (z := 0) (st.drop 0)) fun w' st => ⟨_, rfl, .inl ⟨m2, j, Es2, hR, by rw [if_pos hj], st⟩⟩
end
end Go.Proofs.YtladpaehbolghaaGreat

namespace Go.Proofs.YtladpaehbolghaaGreat
open Go Go.RowKit K SH GC JR OS
namespace OS
def actR (b : By) : Option (Ac × By) := match txtR b with
 | none => none
 | some (k, r) => match cntR 1 r with
  | none => none
  | some (s, r) => if s = 1 then (match txtR r with | none => none | some (d, r) => some (⟨k, true, d⟩, r)) else some (⟨k, false, []⟩, r)
def actsR : Nat → By → Option (List Ac × By)
 | 0, b => some ([], b)
 | n + 1, b => match actR b with
  | none => none
  | some (a, r) => match actsR n r with
   | none => none
   | some (l, r) => some (a :: l, r)
def batR (b : By) : Option (List Ac) := match cntR 4096 b with
 | none => none
 | some (n, r) => match actsR n r with
  | none => none
  | some (l, r) => if r = [] ∧ okL l then some l else none
theorem actR_actB {a : Ac} {rest : By} (h : actOk a) : actR (actB a ++ rest) = some (a, rest) := by
 unfold actR actB
 unfold actOk at h
 rw [List.append_assoc, txtR_txtB (by omega)]
 have e1 : ∀ r : By, cntR 1 (1 :: r) = some (1, r) := fun r => by have := cntR_numB (most := 1) (n := 1) (rest := r) (by omega) (by decide); rwa [numB_small (by decide)] at this
 have e0 : ∀ r : By, cntR 1 (0 :: r) = some (0, r) := fun r => by have := cntR_numB (most := 1) (n := 0) (rest := r) (by omega) (by decide); rwa [numB_small (by decide)] at this
 obtain ⟨k, s, d⟩ := a
 cases s with
 | true =>
  simp only [if_true, List.cons_append, e1, txtR_txtB (show d.length ≤ 1048576 from h.2.2.2)]
 | false =>
  have hd : d = [] := by
   have := h.2.2.1
   simpa using this
  subst hd
  simp [e0]
theorem actsR_flat : ∀ {L : List Ac} {rest : By}, (∀ a ∈ L, actOk a) → actsR L.length (L.flatMap actB ++ rest) = some (L, rest)
 | [], _, _ => rfl
 | a :: L, rest, h => by
  rw [List.flatMap_cons, List.append_assoc, List.length_cons, actsR, actR_actB (h a (List.mem_cons_self ..))]
  show (match actsR L.length (L.flatMap actB ++ rest) with | none => none | some (l, r) => some (a :: l, r)) = _
  rw [actsR_flat fun x hx => h x (List.mem_cons_of_mem _ hx)]
theorem batR_batB {L : List Ac} (h : okL L) : batR (batB L) = some L := by
 unfold batR batB
 rw [cntR_numB h.1 (by have := h.1; omega)]
 have := actsR_flat (L := L) (rest := []) h.2.1
 rw [List.append_nil] at this
 simp [this, h]
theorem actR_eq {b r : By} {a : Ac} (h : actR b = some (a, r)) : b = actB a ++ r := by
 unfold actR at h
 cases h1 : txtR b with
 | none => rw [h1] at h; cases h
 | some q =>
  obtain ⟨k, r1⟩ := q
  rw [h1] at h
  simp only at h
  cases h2 : cntR 1 r1 with
  | none => rw [h2] at h; cases h
  | some q =>
   obtain ⟨s, r2⟩ := q
   rw [h2] at h
   simp only at h
   obtain ⟨e1, _⟩ := txtR_eq h1
   obtain ⟨e2, hs⟩ := cntR_eq h2
   split at h
   ·rename_i hs1
    subst hs1
    cases h3 : txtR r2 with
    | none => rw [h3] at h; cases h
    | some q =>
     obtain ⟨d, r3⟩ := q
     rw [h3] at h
     simp only [Option.some.injEq, Prod.mk.injEq] at h
     obtain ⟨rfl, rfl⟩ := h
     obtain ⟨e3, _⟩ := txtR_eq h3
     rw [e1, e2, e3, numB_small (by decide)]
     simp [actB]
   ·rename_i hs1
    have hs0 : s = 0 := by omega
    subst hs0
    simp only [Option.some.injEq, Prod.mk.injEq] at h
    obtain ⟨rfl, rfl⟩ := h
    rw [e1, e2, numB_small (by decide)]
    simp [actB]
theorem actsR_eq : ∀ {n : Nat} {b r : By} {L : List Ac}, actsR n b = some (L, r) → b = L.flatMap actB ++ r ∧ L.length = n
 | 0, b, r, L, h => by
  simp only [actsR, Option.some.injEq, Prod.mk.injEq] at h
  obtain ⟨rfl, rfl⟩ := h
  simp
 | n + 1, b, r, L, h => by
  rw [actsR] at h
  cases h1 : actR b with
  | none => rw [h1] at h; cases h
  | some q =>
   obtain ⟨a, r1⟩ := q
   rw [h1] at h
   simp only at h
   cases h2 : actsR n r1 with
   | none => rw [h2] at h; cases h
   | some q =>
    obtain ⟨l, r2⟩ := q
    rw [h2] at h
    simp only [Option.some.injEq, Prod.mk.injEq] at h
    obtain ⟨rfl, rfl⟩ := h
    obtain ⟨e1, e2⟩ := actsR_eq h2
    rw [actR_eq h1, e1, List.flatMap_cons, List.append_assoc, List.length_cons, e2]
    exact ⟨rfl, rfl⟩
theorem batR_eq {b : By} {L : List Ac} (h : batR b = some L) : b = batB L ∧ okL L := by
 unfold batR at h
 cases h1 : cntR 4096 b with
 | none => rw [h1] at h; cases h
 | some q =>
  obtain ⟨n, r⟩ := q
  rw [h1] at h
  simp only at h
  cases h2 : actsR n r with
  | none => rw [h2] at h; cases h
  | some q =>
   obtain ⟨l, r2⟩ := q
   rw [h2] at h
   simp only at h
   split at h
   ·rename_i h3
    simp only [Option.some.injEq] at h
    subst h
    obtain ⟨e1, _⟩ := cntR_eq h1
    obtain ⟨e2, e3⟩ := actsR_eq h2
    rw [h3.1, List.append_nil] at e2
    refine ⟨?_, h3.2⟩
    rw [e1, e2, batB, e3]
   ·cases h
end OS
section
open OS
variable {m0 m : Mem} {w0 w : World} {Es : List Ent}
abbrev gaE (lb : Nat) (lv : Value) : Ent := K.blk lb #[lv] 22
abbrev acE (lv : Value) (L : List AcT) : Ent := lsE 57 3 acP lv L
theorem c_readB1 {rb eb lb : Nat} {bv : Value} {b : List UInt8} (st : St m0 m [] w0 w (rdE rb bv 0 :: errE eb 0 :: gaE lb (.slice none 0 0) :: Es)) (hb : SlM m bv 1 b.length (bs b)) (hl : b.length ≤ 1099511627776) :
  RetP Tryz.prog 36 #[rdP rb, .pointer (some ⟨lb, 0, none⟩)] w faultV
   (fun _ w2 => ∃ m2 j Es2, (∃ lv L n r, (∀ k o, m k = some o → m2 k = some o) ∧ Es2 = gaE lb lv :: acE lv L :: Es ∧ j ≤ b.length ∧ (∀ p ∈ L, AcOk m2 p.1 p.2) ∧ cntR 4096 b = some (n, r) ∧ actsR n r = some (L.map (·.1), b.drop j) ∧ okL (L.map (·.1))) ∧ St m0 m2 [] w0 w2 (rdE rb bv j :: errE eb 0 :: Es2))
   (fun w2 => ∃ m2 Es2, (batR b = none ∧ (∀ k o, m k = some o → m2 k = some o) ∧ Es2 = Es) ∧ St m0 m2 [] w0 w2 (errE eb 0 :: Es2)) := by
 have hbat : batR b = (match cntR 4096 b with | none => none | some (n, r) => match actsR n r with | none => none | some (l, r) => if r = [] ∧ okL l then some l else none) := rfl
 refine ret_ofP Tryz.call36 Tryz.func36 rfl Tryz.ntmps36 Tryz.results36 rfl ?_
 refine wc_seq ?_
 refine wc_seq ?_
 refine wc_region ?_
 refine wl_val (v_move' (by conv => (lhs; whnf))) rfl ?_
 refine wl_callP rfl (c_rdcount (most := 4096) st hb hl (Nat.zero_le _) (by decide)) rfl (fun w' h => ⟨rfl, by obtain ⟨hn, j, _, st⟩ := h; rw [List.drop_zero] at hn; exact ⟨m, Es, ⟨by rw [hbat, hn], fun _ _ h => h, rfl⟩, (st.drop 0).drop 1⟩⟩) ?_
 rintro v6 w ⟨n, j, hij, hj, hn4, hc, rfl, st⟩
 rw [List.drop_zero] at hc
 rw [hc] at hbat
 obtain ⟨T, hT⟩ : ∃ T, T = actsR n (b.drop j) := ⟨_, rfl⟩
 simp only [← hT] at hbat
 refine wl_val (v_assign' (by conv => (lhs; whnf))) rfl ?_
 refine wl_nil ?_
 refine then_go ?_
 refine wc_block ?_
 have st : St m0 m [] w0 w (acE (.slice none 0 0) [] :: rdE rb bv j :: errE eb 0 :: gaE lb (.slice none 0 0) :: Es) := nilRow st 57 3
 have st : St m0 m [] w0 w (rdE rb bv j :: errE eb 0 :: gaE lb (.slice none 0 0) :: acE (.slice none 0 0) [] :: Es) := st.perm (by exact (List.perm_middle (l₁ := [_, _, _])).symm)
 refine wc_loop (S := Nat) (fun q r w' => ∃ (k j : Nat) (lv : Value) (L : List AcT) (m' : Mem), q = k ∧ L.length + k = n ∧ j ≤ b.length ∧ r 0 = rdP rb ∧ r 1 = .pointer (some ⟨lb, 0, none⟩) ∧ r 3 = .int .i64 k ∧ (∀ k o, m k = some o → m' k = some o) ∧ (∀ p ∈ L, AcOk m' p.1 p.2) ∧ (T = match actsR k (b.drop j) with | none => none | some (l, r) => some (L.map (·.1) ++ l, r)) ∧ St m0 m' [] w0 w' (rdE rb bv j :: errE eb 0 :: gaE lb lv :: acE lv L :: Es)) id n ⟨n, j, _, [], m, rfl, by simp, hj, rfl, rfl, rfl, fun _ _ h => h, by simp, by rw [hT]; cases actsR n (b.drop j) <;> simp, st⟩ ?_
 clear st hj hij
 rintro q r w2 ⟨k, j2, lv, L, m', hqk, hLk, hj, g0, g1, g3, hmm, hLo, hTT, st⟩
 refine wc_o 0 g0 (wc_o 1 g1 (wc_o 3 g3 ?_))
 have hb := hb.mono hmm
 refine wc_seq ?_
 refine wc_seq ?_
 refine wc_region ?_
 refine wl_val (v_move' (by conv => (lhs; whnf))) rfl ?_
 refine wl_val (v_gtr rfl rfl) rfl ?_
 refine wl_nil ?_
 refine then_go ?_
 refine wc_cond rfl (fun h8 => ?_) (fun h8 => ?_)
 ·refine wc_skip ?_
  refine then_go ?_
  refine wc_seq ?_
  refine wc_block ?_
  refine wc_seq ?_
  refine wc_region ?_
  refine wl_val (v_move' (by conv => (lhs; whnf))) rfl ?_
  obtain ⟨k, hk⟩ : ∃ k', k = k' + 1 := ⟨k - 1, by have := of_decide_eq_true h8; omega⟩
  subst hk
  rw [actsR] at hTT
  refine wl_callP rfl (c_rdtext st hb hl hj) rfl (fun w' h => ⟨rfl, by obtain ⟨hn, j, _, st⟩ := h; exact ⟨m', Es, ⟨by rw [hbat, hTT]; unfold actR; rw [hn], hmm, rfl⟩, ((st.drop 0).drop 1).drop 1⟩⟩) ?_
  rintro v12 w ⟨m1, t, j3, hm1, hij3, hj3, htx, hsl, st⟩
  have hact : actR (b.drop j2) = (match cntR 1 (b.drop j3) with | none => none | some (s, r) => if s = 1 then (match txtR r with | none => none | some (d, r) => some (⟨t, true, d⟩, r)) else some (⟨t, false, []⟩, r)) := by unfold actR; rw [htx]
  rw [hact] at hTT
  have hmm1 : ∀ k o, m k = some o → m1 k = some o := fun k o h => hm1 k o (hmm k o h)
  have hb := hb.mono hm1
  have htl := (txtR_eq htx).2
  refine wl_val (v_b2s Tryz.underlying23 Tryz.underlying5 Tryz.underlying9 st.im hsl rfl) rfl ?_
  refine wl_val (v_build (c' := (acC ⟨t, false, []⟩ (.slice none 0 0)).toArray) [(0, .string (strB t))] TF.z57 TF.p57 rfl ⟨0, 1, rfl, rfl, by decide, rfl⟩) rfl ?_
  refine wl_alloc TF.z57 st rfl ?_
  intro b4 w st
  refine wl_storeW (cs := (acC ⟨t, false, []⟩ (.slice none 0 0)).toArray) 0 st rfl TF.t57 rfl rfl rfl rfl (by intro u hu; simp [acC] at hu; rcases hu with rfl | rfl | rfl <;> rfl) ?_
  intro w st
  have st : St m0 m1 [] w0 w (rdE rb bv j3 :: K.blk b4 (acC ⟨t, false, []⟩ (.slice none 0 0)).toArray 57 :: errE eb 0 :: gaE lb lv :: acE lv L :: Es) := st.perm (List.Perm.swap _ _ _)
  refine wl_nil ?_
  refine then_go ?_
  refine wc_seq ?_
  refine wc_seq ?_
  refine wc_region ?_
  refine wl_val (v_move' (by conv => (lhs; whnf))) rfl ?_
  refine wl_callP rfl (c_rdcount (most := 1) st hb hl hj3 (by decide)) rfl (fun w' h => ⟨rfl, by obtain ⟨hn, j, _, st⟩ := h; exact ⟨m1, Es, ⟨by rw [hbat, hTT, hn], hmm1, rfl⟩, (((st.drop 0).drop 0).drop 1).drop 1⟩⟩) ?_
  rintro v16 w ⟨s, j4, hij4, hj4, hs1, hcs, rfl, st⟩
  rw [hcs] at hTT
  simp only at hTT
  refine wl_val (wl_valD (v_eql rfl rfl) (q := decide (s = 1)) (decide_eq_decide.2 (by omega))) rfl ?_
  refine wl_val (v_fa TF.f57_1 rfl) rfl ?_
  refine wl_store1 (v := .bool (decide (s = 1))) 1 st rfl TF.t4 rfl rfl rfl (lt_ok rfl) ?_
  intro w st
  have st : St m0 m1 [] w0 w (rdE rb bv j4 :: K.blk b4 (acC ⟨t, decide (s = 1), []⟩ (.slice none 0 0)).toArray 57 :: errE eb 0 :: gaE lb lv :: acE lv L :: Es) := st
  refine wl_nil ?_
  refine then_go ?_
  refine wc_seq ?_
  refine wc_region ?_
  refine wl_val (v_fa TF.f57_1 rfl) rfl ?_
  refine wl_val (v_load rfl (st.reads (v := .bool (decide (s = 1))) 1 rfl TF.t4 rfl)) rfl ?_
  refine wl_nil ?_
  refine then_go ?_
  refine wc_mid (fun r w' => ∃ (m2 : Mem) (a : Ac) (dv : Value) (j5 : Nat), j5 ≤ b.length ∧ r 0 = rdP rb ∧ r 1 = .pointer (some ⟨lb, 0, none⟩) ∧ r 3 = .int .i64 ((k + 1 : Nat) : Int) ∧ r 4 = .pointer (some ⟨b4, 0, none⟩) ∧ (∀ k o, m1 k = some o → m2 k = some o) ∧ AcOk m2 a dv ∧ (T = match actsR k (b.drop j5) with | none => none | some (l, r) => some (L.map (·.1) ++ a :: l, r)) ∧ St m0 m2 [] w0 w' (rdE rb bv j5 :: K.blk b4 (acC a dv).toArray 57 :: errE eb 0 :: gaE lb lv :: acE lv L :: Es)) ?_ ?_
  ·refine wc_cond rfl (fun h20 => ?_) (fun h20 => ?_)
   ·refine wc_region ?_
    refine wl_val (v_move' (by conv => (lhs; whnf))) rfl ?_
    have hs : s = 1 := of_decide_eq_true h20
    subst hs
    rw [if_pos rfl] at hTT
    refine wl_callP rfl (c_rdtext st hb hl hj4) rfl (fun w' h => ⟨rfl, by obtain ⟨hn, j, _, st⟩ := h; exact ⟨m1, Es, ⟨by rw [hbat, hTT, hn], hmm1, rfl⟩, (((st.drop 0).drop 0).drop 1).drop 1⟩⟩) ?_
    rintro v22 w ⟨m2, d, j5, hm2, hij5, hj5, htx5, hsl5, st⟩
    rw [htx5] at hTT
    refine wl_val (v_fa TF.f57_2 rfl) rfl ?_
    refine wl_store1 (v := v22) 1 st rfl TF.t23 rfl rfl (SlM.one1 hsl5) (lt_ok rfl) ?_
    intro w st
    have st : St m0 m2 [] w0 w (rdE rb bv j5 :: K.blk b4 (acC ⟨t, true, d⟩ v22).toArray 57 :: errE eb 0 :: gaE lb lv :: acE lv L :: Es) := st
    refine wl_nil ?_
    refine then_go ?_
    exact ⟨m2, ⟨t, true, d⟩, v22, j5, hj5, rfl, rfl, rfl, rfl, hm2, ⟨by show t.length ≤ _; omega, hsl5⟩, by rw [hTT]; dsimp only; cases actsR k (b.drop j5) <;> rfl, st⟩
   ·refine wc_skip ?_
    refine then_go ?_
    have hs : ¬ s = 1 := of_decide_eq_false h20
    rw [if_neg hs] at hTT
    rw [decide_eq_false hs] at st
    exact ⟨m1, ⟨t, false, []⟩, .slice none 0 0, j4, hj4, rfl, rfl, rfl, rfl, fun _ _ h => h, ⟨by show t.length ≤ _; omega, SlM.nil⟩, by rw [hTT]; dsimp only; cases actsR k (b.drop j4) <;> rfl, st⟩
  ·clear st hTT
   rintro r w ⟨m2, a, dv, j5, hj5, g0, g1, g3, g4, hm2, hao, hTT, st⟩
   refine wc_o 0 g0 (wc_o 1 g1 (wc_o 3 g3 (wc_o 4 g4 ?_)))
   have hmm2 : ∀ k o, m k = some o → m2 k = some o := fun k o h => hm2 k o (hmm1 k o h)
   refine wc_region ?_
   refine wl_val (v_load rfl (st.reads (v := lv) 3 rfl TF.t22 rfl)) rfl ?_
   refine wl_val (v_load rfl (st.reads (v := .agg (acC a dv).toArray) 1 rfl TF.t57 (getV_all (Ac.len hao)))) rfl ?_
   refine wl_lsOne (acC a dv) Tryz.underlying22 TF.t57 TF.z57 (by decide) (by decide) (Ac.len hao) rfl st rfl ?_
   intro b26 w st
   refine wl_lsApp (c := acP) (e := (a, dv)) 4 st rfl Tryz.underlying22 TF.t57 TF.z57 rfl rfl (Ac.one hao) rfl rfl (by omega) (by omega) rfl ?_
   intro v27 w st hv27
   have st : St m0 m2 [] w0 w (rdE rb bv j5 :: K.blk b4 (acC a dv).toArray 57 :: errE eb 0 :: gaE lb lv :: acE v27 (L ++ [(a, dv)]) :: Es) := st
   refine wl_store1 (v := v27) 3 st rfl TF.t22 rfl rfl hv27 (lt_ok rfl) ?_
   intro w st
   have st : St m0 m2 [] w0 w (rdE rb bv j5 :: errE eb 0 :: gaE lb v27 :: acE v27 (L ++ [(a, dv)]) :: Es) := st.drop 1
   refine wl_nil ?_
   refine block_go (then_go ?_)
   refine wc_region ?_
   refine wl_val (v_move' (by conv => (lhs; whnf))) rfl ?_
   refine wl_val (v_sub' (c := (k : Int)) rfl rfl (by omega) (by omega) (by omega)) rfl ?_
   refine wl_val (v_assign' (by conv => (lhs; whnf))) rfl ?_
   refine wl_nil ?_
   refine then_go ?_
   exact ⟨k, by simp; omega, k, j5, v27, L ++ [(a, dv)], m2, rfl, by simp; omega, hj5, rfl, rfl, rfl, hmm2, fun p hp => (List.mem_append.1 hp).elim (fun hp => (hLo p hp).mono fun k o h => hm2 k o (hm1 k o h)) fun hp => by rw [List.mem_singleton.1 hp]; exact hao, by rw [hTT]; simp, st⟩
 ·refine wc_exit (then_exit (then_exit (block_hit ?_)))
  refine then_go ?_
  refine wc_seq ?_
  have hk : k = 0 := by have := of_decide_eq_false h8; omega
  subst hk
  have hTT : T = some (L.map (·.1), b.drop j2) := by rw [hTT, actsR]; simp
  rw [hTT] at hbat
  have st0 := st
  refine wc_region ?_
  refine wl_val (v_load rfl (st.reads (v := lv) 2 rfl TF.t22 rfl)) rfl ?_
  have hLM : AcsM (heapM w2) lv L := ⟨st.lsRd 3 rfl (fun x _ => rfl), fun p hp => (hLo p hp).mono st.im⟩
  refine wl_call rfl (c_chk (im_heapM w2) hLM (by omega)) rfl ?_
  rintro v29 w ⟨t29, rfl⟩
  have st := st.pure t29
  refine wl_val (wl_valD (v_neq rfl rfl) (q := decide (¬ okL (L.map (·.1)))) (by unfold chkL; by_cases h : okL (L.map (·.1)) <;> simp [h])) rfl ?_
  refine wl_nil ?_
  refine then_go ?_
  refine wc_cond rfl (fun h30 => ?_) (fun h30 => ?_)
  ·refine wc_region ?_
   refine wl_val (v_move' (by conv => (lhs; whnf))) rfl ?_
   exact wl_callP rfl c_fail rfl (fun w' h => by subst h; exact ⟨rfl, m', Es, ⟨by rw [hbat]; exact if_neg (fun h => of_decide_eq_true h30 h.2), hmm, rfl⟩, ((st.drop 0).drop 1).drop 1⟩) (fun _ _ h => h.elim)
  ·refine wc_skip ?_
   have hok : okL (L.map (·.1)) := Decidable.not_not.1 (of_decide_eq_false h30)
   exact toPn (end0 ⟨m', j2, _, ⟨lv, L, n, b.drop j, hmm, rfl, hj, hLo, hc, by rw [← hT, hTT], hok⟩, st⟩)
end
end Go.Proofs.YtladpaehbolghaaGreat

namespace Go.Proofs.YtladpaehbolghaaGreat
open Go Go.RowKit K Go.Sort
theorem bytesW_grow {w : World} {E : TypeId} {s : ByteArray} : Lib.bytesWorld w E s = grow (w.drewN 1) #[.cells (Lib.bytesCells w E s) E ((Lib.bytesCells w E s).size, (Lib.bytesCells w E s).size + 1)] := by
 have hh : (Lib.bytesWorld w E s).heap = w.heap ++ #[.cells (Lib.bytesCells w E s) E ((Lib.bytesCells w E s).size, (Lib.bytesCells w E s).size + 1)] := by
  apply Array.ext_getElem?
  intro j
  rcases Nat.lt_trichotomy j w.heap.size with h | h | h
  ·rw [Lib.bytesWorld_at_old w E s j h, Array.getElem?_append_left h]
  ·subst h
   rw [Lib.bytesWorld_at_new, Array.getElem?_append_right (Nat.le_refl _), Nat.sub_self]
   rfl
  ·rw [Array.getElem?_eq_none (by rw [Lib.bytesWorld_size]; omega), Array.getElem?_eq_none (by simp; omega)]
 show (⟨(Lib.bytesWorld w E s).heap, w.tape, w.drawn + 1, w.os, w.output⟩ : World) = ⟨w.heap ++ _, w.tape, w.drawn + 1, w.os, w.output⟩
 rw [hh]
section
variable {P : Program} {n : Nat} {ops : Array Oper} {Q : Po} {rest : List Oper} {r : Fr} {w : World} {d : Nat} {ty : TypeId} {pos : String} {after : Array Edge}
theorem wl_s2bX {S T E : TypeId} {x : Operand} {l : List UInt8} (hS : P.underlying S = some .string) (hT : P.underlying T = some (.slice E)) (hE : P.underlying E = some (.int .u8)) (hx : ev r x = .string (strB l)) (hd : Nat.blt d n = true)
  (k : ∀ v o, (∀ m : Mem, m w.heap.size = some o → SlM m v 1 l.length (bs l)) → WL P n ops Q rest (upd d v r) (grow (w.drewN 1) #[o])) :
  WL P n ops Q (⟨some d, .convert S T x, ty, pos, after, none⟩ :: rest) r w := by
 have hrun := Lib.run_convert_string_bytes (P := P) w S T E (strB l) hS hT hE
 have hsl : ∀ m : Mem, m w.heap.size = some (.cells (Lib.bytesCells w E (strB l)) E ((Lib.bytesCells w E (strB l)).size, (Lib.bytesCells w E (strB l)).size + 1)) → SlM m (.slice (some ⟨w.heap.size, 0, none⟩) (strB l).size (grownCap w (strB l).size 0 E)) 1 l.length (bs l) := fun m hm => by
  have hsz : (strB l).size = l.length := rfl
  have hge := grownCap_ge w (strB l).size 0 E
  rw [hsz] at hge ⊢
  refine SlM.ofBlock (pre := []) (post := List.replicate (grownCap w (strB l).size 0 E - (strB l).size) (.int .u8 0)) hm ?_ rfl hge
  simp [Lib.bytesCells, strB, bs, u8]
 refine wl_val (v := .slice (some ⟨w.heap.size, 0, none⟩) (strB l).size (grownCap w (strB l).size 0 E)) (w' := Lib.bytesWorld w E (strB l)) ?_ hd (by rw [bytesW_grow]; exact k _ _ hsl)
 intro _ _ _ _
 simp only [execOp, hx, Sem.run_bind, hrun, Result.andThen_ok, Sem.run_pure]
theorem grow_old {w : World} {os : Array Obj} {q k : Nat} {o : Obj} (h : w.heap[k]? = some o) : (grow (w.drewN q) os).heap[k]? = some o := by
 show (w.heap ++ os)[k]? = _
 rw [Array.getElem?_append_left (lt_of_get h), h]
theorem grow_new {w : World} {o : Obj} {q : Nat} : (grow (w.drewN q) #[o]).heap[w.heap.size]? = some o := by
 show (w.heap ++ #[o])[w.heap.size]? = _
 rw [Array.getElem?_append_right (Nat.le_refl _), Nat.sub_self]
 rfl
def Gro (w w' : World) : Prop := ∃ q os, w' = grow (w.drewN q) os
theorem Gro.trans {a b c : World} (h : Gro a b) (h' : Gro b c) : Gro a c := by
 obtain ⟨q, os, rfl⟩ := h
 obtain ⟨q', os', rfl⟩ := h'
 refine ⟨q + q', os ++ os', ?_⟩
 show (⟨a.heap ++ os ++ os', a.tape, a.drawn + q + q', a.os, a.output⟩ : World) = ⟨a.heap ++ (os ++ os'), a.tape, a.drawn + (q + q'), a.os, a.output⟩
 rw [Array.append_assoc, Nat.add_assoc]
theorem Gro.one {w : World} {q : Nat} {os : Array Obj} : Gro w (grow (w.drewN q) os) := ⟨q, os, rfl⟩
end
end Go.Proofs.YtladpaehbolghaaGreat

namespace Go.Proofs.YtladpaehbolghaaGreat
open Go Go.RowKit K SH
section
variable {P : Program} {r : Fr} {w : World} {ty : TypeId} {m : Mem}
theorem run_bytesOf {x : Value} {a : (List UInt8)} (him : Im m w) (ha : SlM m x 1 a.length (bs a)) : (Extern.Bytes.bytesOf x).run P w = .ok (strB a) w := by
 have ha0 := ha
 obtain ⟨hl, p, c, rfl, hc, hn, h1⟩ := ha
 by_cases h0 : a = []
 ·subst h0
  cases p with
  | none => rfl
  | some p => rfl
 ·have hpos : 0 < a.length := List.length_pos_iff.2 h0
  obtain ⟨b, o, cap, he, _, _⟩ := ha0.rd P (by simpa [bs] using hpos)
  cases he
  have hq := Lib.run_loadBytesX (P := P) w (a.map fun x => (x.toNat : Int)) ⟨b, o, none⟩ .empty (fun j y hy => by
   obtain ⟨hj, hjy⟩ := List.getElem?_eq_some_iff.1 hy
   have hj2 : j < a.length := by simpa using hj
   rw [List.getElem_map] at hjy
   obtain ⟨b', o', cc, t, fr, h2, h3, h4⟩ := h1 j (u8 a[j]) (by simp [bs, hj2])
   cases h2
   have e : (⟨b, o, none⟩ : Addr).add j = ⟨b, o + j, none⟩ := by unfold Addr.add; split <;> simp_all
   rw [e, cell_of_row w b (o + j) cc t fr (him b _ h3), h4, ← hjy]
   rfl)
  rw [List.length_map] at hq
  show (Extern.Bytes.loadBytes ⟨b, o, none⟩ a.length .empty).run P w = _
  rw [hq]
  congr 1
  unfold strB Lib.bytesOf
  apply ByteArray.ext
  simp
  conv => rhs; rw [← List.map_id a]
  refine List.map_congr_left fun c _ => ?_
  simp
theorem v_extern {f : FuncId} {args : Array Value} {v : Value} {ags : Array Operand} {tys : Array TypeId} (ha : ags.map (ev r) = args) (hc : (callFunc f args).run P w = .ok (.value v) w) : Val P (.call ⟨.value (.func f), ags, tys⟩) ty r w v w := by
 intro _ _ _ _
 simp [execOp, resolve, ev, Deferred.ofValue, invoke, ha, hc]
theorem v_bcompare {f : FuncId} {fn : Func} {x y : Value} {X Y : Operand} {a b : (List UInt8)} {tys : Array TypeId} (hf : P.funcs[f]? = some fn) (h1 : (fn.name == "runtime.NumGoroutine") = false) (h2 : fn.body.isNone = true) (h3 : Extern.findNext fn = none) (h4 : Extern.find fn = some Extern.BytealgCompare.compare)
  (him : Im m w) (ha : SlM m x 1 a.length (bs a)) (hb : SlM m y 1 b.length (bs b)) (hx : ev r X = x) (hy : ev r Y = y) : Val P (.call ⟨.value (.func f), #[X, Y], tys⟩) ty r w (.int .i64 (Lib.compareBytes a b)) w := by
 have hc : (Extern.BytealgCompare.compare #[x, y]).run P w = .ok (.int .i64 (Lib.compareBytes a b)) w := by
  change Sem.run P (do pure (goInt (Extern.BytealgCompare.cmp (← Extern.Bytes.bytesOf x) (← Extern.Bytes.bytesOf y)))) w = _
  simp only [Sem.run_bind, run_bytesOf him ha, run_bytesOf him hb, Sem.run_pure, Result.andThen]
  rw [Lib.cmp_eq]
  rfl
 refine v_extern (args := #[x, y]) (by simp [hx, hy]) ?_
 rw [run_callFunc_extern hf h1 h2 h3 h4, hc]
 rfl
end
section
variable {m : Mem} {wI : World}
theorem c_bcompareW {x y : Value} {a b : (List UInt8)} (him : Im m wI) (ha : SlM m x 1 a.length (bs a)) (hb : SlM m y 1 b.length (bs b)) :
  Ret Tryz.prog 88 #[x, y] wI fun v w' => w' = wI ∧ v = .int .i64 (Lib.compareBytes a b) := by
 refine ret_of Tryz.call88 Tryz.func88 rfl Tryz.ntmps88 Tryz.results88 rfl ?_
 refine wc_seq ?_
 refine wc_region ?_
 refine wl_val (v_assign' (by conv => (lhs; whnf))) rfl ?_
 refine wl_nil ?_
 refine then_go ?_
 refine wc_seq ?_
 refine wc_region ?_
 refine wl_val (v_move' (by conv => (lhs; whnf))) rfl ?_
 refine wl_val (v_move' (by conv => (lhs; whnf))) rfl ?_
 refine wl_val (v_bcompare Tryz.func110 (by kernel_rfl) (by kernel_rfl) (by kernel_rfl) (by kernel_rfl) him ha hb rfl rfl) rfl ?_
 refine wl_val (v_assign' (by conv => (lhs; whnf))) rfl ?_
 refine wl_nil ?_
 refine then_go ?_
 refine wc_ret ?_
 exact ret1 rfl ⟨rfl, rfl⟩
end
end Go.Proofs.YtladpaehbolghaaGreat

namespace Go.Proofs.YtladpaehbolghaaGreat
open Go.Shelf
def sortAct_ren : Go.Shelf.Ren := ⟨fun | 6 => 86 | 15 => 109 | 14 => 108 | 28 => 125 | 29 => 126 | 20 => 117 | 21 => 118 | 22 => 119 | 23 => 120 | 24 => 121 | 25 => 122 | 26 => 123 | 27 => 124 | 46 => 133 | 47 => 134 | 48 => 135 | 49 => 136 | 50 => 137 | 57 => 144 | n => n, fun | 22 => 22 | 24 => 57 | 25 => 136 | 3 => 3 | 39 => 120 | 0 => 0 | 53 => 160 | 55 => 47 | 4 => 4 | 46 => 154 | 45 => 153 | 50 => 131 | 5 => 5 | 9 => 9 | 66 => 169 | 70 => 172 | 76 => 180 | 77 => 181 | n => n, fun | n => n⟩
theorem sortAct : Go.Proofs.SlLaysF0.n6 Tryz.prog sortAct_ren := {
 mixed := by kernel_rfl
 f6 := ⟨Tryz.f86.name, by decide, Tryz.func86.trans (congrArg some (by kernel_rfl))⟩
 f14 := ⟨Tryz.f108.name, by decide, Tryz.func108.trans (congrArg some (by kernel_rfl))⟩
 f15 := Tryz.func109.trans (congrArg some (by kernel_rfl))
 f20 := ⟨Tryz.f117.name, by decide, Tryz.func117.trans (congrArg some (by kernel_rfl))⟩
 f21 := ⟨Tryz.f118.name, by decide, Tryz.func118.trans (congrArg some (by kernel_rfl))⟩
 f22 := ⟨Tryz.f119.name, by decide, Tryz.func119.trans (congrArg some (by kernel_rfl))⟩
 f23 := ⟨Tryz.f120.name, by decide, Tryz.func120.trans (congrArg some (by kernel_rfl))⟩
 f24 := ⟨Tryz.f121.name, by decide, Tryz.func121.trans (congrArg some (by kernel_rfl))⟩
 f25 := ⟨Tryz.f122.name, by decide, Tryz.func122.trans (congrArg some (by kernel_rfl))⟩
 f26 := ⟨Tryz.f123.name, by decide, Tryz.func123.trans (congrArg some (by kernel_rfl))⟩
 f27 := ⟨Tryz.f124.name, by decide, Tryz.func124.trans (congrArg some (by kernel_rfl))⟩
 f28 := Tryz.func125.trans (congrArg some (by kernel_rfl))
 f29 := Tryz.func126.trans (congrArg some (by kernel_rfl))
 f46 := ⟨Tryz.f133.name, by decide, Tryz.func133.trans (congrArg some (by kernel_rfl))⟩
 f47 := Tryz.func134.trans (congrArg some (by kernel_rfl))
 f48 := Tryz.func135.trans (congrArg some (by kernel_rfl))
 f49 := ⟨Tryz.f136.name, by decide, Tryz.func136.trans (congrArg some (by kernel_rfl))⟩
 f50 := ⟨Tryz.f137.name, by decide, Tryz.func137.trans (congrArg some (by kernel_rfl))⟩
 f57 := ⟨Tryz.f144.name, by decide, Tryz.func144.trans (congrArg some (by kernel_rfl))⟩
 t0 := Tryz.underlying0
 a0 := Tryz.isAgg0
 z0 := Tryz.sizeOf0
 v0 := Tryz.zeroValue0
 t3 := Tryz.underlying3
 a3 := Tryz.isAgg3
 z3 := Tryz.sizeOf3
 v3 := Tryz.zeroValue3
 t4 := Tryz.underlying4
 a4 := Tryz.isAgg4
 z4 := Tryz.sizeOf4
 v4 := Tryz.zeroValue4
 t5 := Tryz.underlying5
 a5 := Tryz.isAgg5
 z5 := Tryz.sizeOf5
 v5 := Tryz.zeroValue5
 t9 := Tryz.underlying9
 a9 := Tryz.isAgg9
 z9 := Tryz.sizeOf9
 v9 := Tryz.zeroValue9
 t22 := Tryz.underlying22
 a22 := Tryz.isAgg22
 z22 := Tryz.sizeOf22
 v22 := Tryz.zeroValue22
 t25 := Tryz.underlying136
 a25 := Tryz.isAgg136
 z25 := Tryz.sizeOf136
 v25 := Tryz.zeroValue136
 t39 := Tryz.underlying120
 a39 := Tryz.isAgg120
 z39 := Tryz.sizeOf120
 v39 := Tryz.zeroValue120
 t45 := Tryz.underlying153
 a45 := Tryz.isAgg153
 z45 := Tryz.sizeOf153
 v45 := Tryz.zeroValue153
 t46 := Tryz.underlying154
 a46 := Tryz.isAgg154
 z46 := Tryz.sizeOf154
 v46 := Tryz.zeroValue154
 t50 := Tryz.underlying131
 a50 := Tryz.isAgg131
 z50 := Tryz.sizeOf131
 v50 := Tryz.zeroValue131
 t53 := Tryz.underlying160
 a53 := Tryz.isAgg160
 z53 := Tryz.sizeOf160
 v53 := Tryz.zeroValue160
 t55 := Tryz.underlying47
 a55 := Tryz.isAgg47
 z55 := Tryz.sizeOf47
 v55 := Tryz.zeroValue47
 t66 := Tryz.underlying169
 a66 := Tryz.isAgg169
 z66 := Tryz.sizeOf169
 v66 := Tryz.zeroValue169
 t70 := Tryz.underlying172
 a70 := Tryz.isAgg172
 z70 := Tryz.sizeOf172
 v70 := Tryz.zeroValue172
 t76 := Tryz.underlying180
 a76 := Tryz.isAgg180
 z76 := Tryz.sizeOf180
 v76 := Tryz.zeroValue180
 t77 := Tryz.underlying181
 a77 := Tryz.isAgg181
 z77 := Tryz.sizeOf181
 v77 := Tryz.zeroValue181 }
def cloneMap_ren : Go.Shelf.Ren := ⟨fun | 5 => 77 | 7 => 98 | n => n, fun | 23 => 93 | 25 => 9 | 3 => 23 | 4 => 4 | 20 => 20 | n => n, fun | n => n⟩
theorem cloneMap : Go.Proofs.SlLaysW.n5 Tryz.prog cloneMap_ren := {
 mixed := by kernel_rfl
 f5 := ⟨Tryz.f77.name, by decide, Tryz.func77.trans (congrArg some (by kernel_rfl))⟩
 f7 := Tryz.func98.trans (congrArg some (by kernel_rfl))
 t4 := Tryz.underlying4
 a4 := Tryz.isAgg4
 z4 := Tryz.sizeOf4
 v4 := Tryz.zeroValue4
 t20 := Tryz.underlying20
 a20 := Tryz.isAgg20
 z20 := Tryz.sizeOf20
 v20 := Tryz.zeroValue20
 t23 := Tryz.underlying93
 a23 := Tryz.isAgg93
 z23 := Tryz.sizeOf93
 v23 := Tryz.zeroValue93 }
end Go.Proofs.YtladpaehbolghaaGreat

namespace Go.Proofs.YtladpaehbolghaaGreat
open Go Go.RowKit K SH GC JR OS Go.Sort
abbrev SB := {x : AcT // x.2.oneCell' = true}
instance : Inhabited SB := ⟨⟨(⟨[], false, []⟩, .slice none 0 0), rfl⟩⟩
abbrev sbC (x : SB) : List Value := acP x.1
theorem as_sb : ∀ {L : List AcT}, (∀ x ∈ L, x.2.oneCell' = true) → ∃ L' : List SB, L'.map Subtype.val = L
 | [], _ => ⟨[], rfl⟩
 | x :: L, h => by
  obtain ⟨L', e⟩ := as_sb (L := L) fun y hy => h y (List.mem_cons_of_mem _ hy)
  exact ⟨⟨x, h x (List.mem_cons_self ..)⟩ :: L', by rw [List.map_cons, e]⟩
theorem sb_E (v : Value) (M : List SB) : acE v (M.map Subtype.val) = rowE v 57 3 M.length (M.flatMap sbC) := by
 show rowE v 57 3 (M.map Subtype.val).length ((M.map Subtype.val).flatMap acP) = _
 rw [List.flatMap_map, List.length_map]
theorem cmpA (W : World) (x y : AcT) : Ret Tryz.prog 87 #[.agg (acP x).toArray, .agg (acP y).toArray] W fun v w' => v = .int .i64 (Lib.compareBytes x.1.key y.1.key) ∧ Gro W w' := by
 refine ret_of Tryz.call87 Tryz.func87 rfl Tryz.ntmps87 Tryz.results87 rfl ?_
 refine wc_seq ?_
 refine wc_region ?_
 refine wl_boxX rfl rfl ?_
 refine wl_boxX rfl rfl ?_
 refine wl_val (v_assign' (by conv => (lhs; whnf))) rfl ?_
 refine wl_nil ?_
 refine then_go ?_
 refine wc_seq ?_
 obtain ⟨W2, hW2⟩ : ∃ W2, W2 = grow (grow W #[.cells (acP x).toArray 57 (0, 0)]) #[.cells (acP y).toArray 57 (0, 0)] := ⟨_, rfl⟩
 have g2 : Gro W W2 := by rw [hW2, grow_grow]; exact ⟨0, _, rfl⟩
 have hA : W2.heap[W.heap.size]? = some (.cells (acP x).toArray 57 (0, 0)) := by rw [hW2, grow_grow]; exact grow_at (k := 0)
 have hB : W2.heap[(grow W #[.cells (acP x).toArray 57 (0, 0)]).heap.size]? = some (.cells (acP y).toArray 57 (0, 0)) := by rw [hW2, grow_grow, size_grow]; exact grow_at (k := 1)
 change WC _ _ _ _ _ (grow (grow W #[.cells (acP x).toArray 57 (0, 0)]) #[.cells (acP y).toArray 57 (0, 0)])
 rw [← hW2]
 refine wc_region ?_
 refine wl_val (v_fa TF.f57_0 rfl) rfl ?_
 refine wl_val (v_load rfl (reads_row TF.t9 hA rfl)) rfl ?_
 refine wl_s2bX (l := x.1.key) Tryz.underlying9 Tryz.underlying23 Tryz.underlying5 rfl rfl ?_
 intro v7 o7 h7
 obtain ⟨W3, hW3⟩ : ∃ W3, W3 = grow (W2.drewN 1) #[o7] := ⟨_, rfl⟩
 have g3 : Gro W W3 := by rw [hW3]; exact g2.trans .one
 have hB : W3.heap[(grow W #[.cells (acP x).toArray 57 (0, 0)]).heap.size]? = some (.cells (acP y).toArray 57 (0, 0)) := by rw [hW3]; exact grow_old hB
 have hO : W3.heap[W2.heap.size]? = some o7 := by rw [hW3]; exact grow_new
 rw [← hW3]
 refine wl_val (v_fa TF.f57_0 rfl) rfl ?_
 refine wl_val (v_load rfl (reads_row TF.t9 hB rfl)) rfl ?_
 refine wl_s2bX (l := y.1.key) Tryz.underlying9 Tryz.underlying23 Tryz.underlying5 rfl rfl ?_
 intro v10 o10 h10
 obtain ⟨W4, hW4⟩ : ∃ W4, W4 = grow (W3.drewN 1) #[o10] := ⟨_, rfl⟩
 have g4 : Gro W W4 := by rw [hW4]; exact g3.trans .one
 have hO4 : W4.heap[W2.heap.size]? = some o7 := by rw [hW4]; exact grow_old hO
 have hO5 : W4.heap[W3.heap.size]? = some o10 := by rw [hW4]; exact grow_new
 rw [← hW4]
 refine wl_call rfl (c_bcompareW (m := fun k => W4.heap[k]?) (wI := W4) (fun _ _ h => h) (h7 _ hO4) (h10 _ hO5)) rfl ?_
 rintro v11 w ⟨rfl, rfl⟩
 refine wl_val (v_assign' (by conv => (lhs; whnf))) rfl ?_
 refine wl_nil ?_
 refine then_go ?_
 refine wc_ret ?_
 exact ret1 rfl ⟨rfl, g4⟩
theorem c_sortAct {m0 m : Mem} {F : List Nat} {w0 w : World} {Es : List Ent} {v : Value} {L : List AcT} (st : St m0 m F w0 w (acE v L :: Es)) (hone : ∀ x ∈ L, x.2.oneCell' = true) (hl : L.length ≤ 1000000000) :
  Ret Tryz.prog 86 #[v, .func (.func 87) #[] #[]] w fun _ w' => ∃ L', L'.Perm L ∧ L'.Pairwise (fun x y => ¬ y.1.key < x.1.key) ∧ St m0 m F w0 w' (acE v L' :: Es) := by
 obtain ⟨M, rfl⟩ := as_sb hone
 refine ⟨Tryz.call86, Calls.mono (sort_row (enc := sbC) sortAct rfl TF.t57 (fun x => rfl) (fun x u hu => by
   simp only [sbC, acP, acC, List.cons_append, List.nil_append, List.mem_cons, List.not_mem_nil, or_false] at hu
   rcases hu with rfl | rfl | rfl
   ·rfl
   ·rfl
   ·exact x.2) (cmpB_swo fun x : SB => x.1.1.key) Tryz.call87
  (fun W x y => Calls.mono (cmpA W x.1 y.1).2 fun e w' ⟨v, h, e2, q⟩ => ⟨h.trans (congrArg _ e2), q⟩) (L := M) (v := v) st 0 (congrArg some (sb_E v M)) (by simpa using hl)) ?_⟩
 rintro e w' ⟨rfl, L', hp, hs, st⟩
 refine ⟨_, rfl, L'.map Subtype.val, hp.map _, ?_, by rw [sb_E]; exact st⟩
 rw [List.pairwise_map]
 exact hs.imp fun h => by simpa [ltOf, cmpB_lt] using h
end Go.Proofs.YtladpaehbolghaaGreat

namespace Go.Proofs.YtladpaehbolghaaGreat
open Go Go.RowKit K SH GC JR OS
namespace OS
def toAct (x : By × DV) : AcT := (⟨x.1, true, x.2.1⟩, x.2.2)
end OS
section
open OS
variable {m0 m : Mem} {w0 w : World} {Es : List Ent}
theorem c_swhole {mb : Nat} {L : List (By × DV)} (st : St m0 m [] w0 w (kmE mb L :: Es)) (hL : KvOk m L) (hl : L.length ≤ 1000000) :
  Ret Tryz.prog 63 #[.map (some mb)] w fun v w' => ∃ A : List AcT, A.Perm (L.map toAct) ∧ (A.map (·.1.key)).Pairwise (· < ·) ∧ St m0 m [] w0 w' (acE v A :: kmE mb L :: Es) := by
 obtain ⟨es, clock, he, st⟩ := st.mapFix 0 rfl
 have st : St m0 m [] w0 w (K.objE mb (.map es clock) :: Es) := st
 refine ret_of Tryz.call63 Tryz.func63 rfl Tryz.ntmps63 Tryz.results63 rfl ?_
 refine wc_seq ?_
 refine wc_region ?_
 refine wl_val (v_assign' (by conv => (lhs; whnf))) rfl ?_
 refine wl_nil ?_
 refine then_go ?_
 refine wc_seq ?_
 refine wc_region ?_
 refine wl_val (v_assign' (by conv => (lhs; whnf))) rfl ?_
 refine wl_nil ?_
 refine then_go ?_
 refine wc_seq ?_
 refine wc_seq ?_
 refine wc_region ?_
 refine wl_val (v_move' (by conv => (lhs; whnf))) rfl ?_
 refine wl_range st (st.at (i := 0) rfl) he Tryz.underlying93 rfl rfl ?_
 intro g6 w hg6 st
 refine wl_nil ?_
 refine then_go ?_
 refine wc_block ?_
 have st : St m0 m [] w0 w (acE (.slice none 0 0) [] :: iterE strV (fun x : DV => x.2) es clock mb g6 L :: K.objE mb (.map es clock) :: Es) := nilRow st 57 3
 refine wc_loop (S := Nat) (fun q r w' => ∃ (v : Value) (A : List AcT) (R : List (By × DV)), q = R.length ∧ r 0 = .map (some mb) ∧ r 3 = v ∧ r 6 = .pointer (some ⟨g6, 0, none⟩) ∧ (A ++ R.map toAct).Perm (L.map toAct) ∧ St m0 m [] w0 w' (acE v A :: iterE strV (fun x : DV => x.2) es clock mb g6 R :: K.objE mb (.map es clock) :: Es)) id _ ⟨_, [], L, rfl, rfl, rfl, rfl, List.Perm.refl _, st⟩ ?_
 clear st
 rintro q r w2 ⟨v, A, R, hq, g0, g3, g6e, hperm, st⟩
 refine wc_o 0 g0 (wc_o 3 g3 (wc_o 6 g6e ?_))
 have hAl : A.length + R.length ≤ 1000000 := by have := hperm.length_eq; simp at this; omega
 refine wc_seq ?_
 rcases next_or (P := Tryz.prog) (ty := 0) 1 st rfl (st.at (i := 2) rfl) he with ⟨hR, hrun⟩ | ⟨p1, y, p2, w3, hR, st, hent, hrun, _⟩
 ·refine wc_region ?_
  refine wl_val (v_next hrun rfl) rfl ?_
  refine wl_val (v_extract rfl rfl) rfl ?_
  refine wl_nil ?_
  refine then_go ?_
  refine wc_seq ?_
  refine wc_false rfl ?_
  refine wc_exit (then_exit (then_exit (block_hit ?_)))
  refine then_go ?_
  refine wc_seq ?_
  refine wc_region ?_
  refine wl_val (v_move' (by conv => (lhs; whnf))) rfl ?_
  subst hR
  have hone : ∀ x ∈ A, x.2.oneCell' = true := fun x hx => by
   have h1 := hperm.mem_iff.1 (List.mem_append_left _ hx)
   obtain ⟨z, hz, e⟩ := List.mem_map.1 h1
   rw [← e]
   exact SlM.one1 (hL z hz).2.2
  refine wl_call rfl (c_sortAct st hone (by omega)) rfl ?_
  rintro v20 w ⟨A', hp', hs', st⟩
  refine wl_nil ?_
  refine then_go ?_
  refine wc_seq ?_
  refine wc_region ?_
  refine wl_val (v_move' (by conv => (lhs; whnf))) rfl ?_
  refine wl_val (v_assign' (by conv => (lhs; whnf))) rfl ?_
  refine wl_nil ?_
  refine then_go ?_
  refine wc_ret ?_
  have st := (st.drop 1).mapLoose 1 rfl he
  refine ret1 rfl ⟨A', hp'.trans (by simpa using hperm), ?_, st⟩
  have hnd : (A'.map (·.1.key)).Nodup := by
   have hp2 := (hp'.trans (by simpa using hperm : A.Perm (L.map toAct))).map (fun a : AcT => a.1.key)
   rw [List.map_map] at hp2
   exact hp2.symm.nodup (by exact he.nodup)
  rw [List.pairwise_map]
  refine (List.pairwise_and_iff.2 ⟨hs', List.pairwise_map.1 hnd⟩).imp fun {x y} h => ?_
  rcases List.le_iff_lt_or_eq.1 (List.not_lt.1 h.1) with h2 | h2
  ·exact h2
  ·exact (h.2 h2).elim
 ·refine wc_region ?_
  refine wl_val (v_next hrun rfl) rfl ?_
  refine wl_val (v_extract rfl rfl) rfl ?_
  refine wl_nil ?_
  refine then_go ?_
  refine wc_seq ?_
  refine wc_true rfl ?_
  refine wc_skip ?_
  refine then_go ?_
  refine wc_block ?_
  refine wc_seq ?_
  have hyL : y ∈ L := by
   have h1 : toAct y ∈ L.map toAct := hperm.mem_iff.1 (List.mem_append_right A (List.mem_map.2 ⟨y, by rw [hR]; simp, rfl⟩))
   obtain ⟨z, hz, e⟩ := List.mem_map.1 h1
   obtain ⟨k, d, v⟩ := y
   obtain ⟨k', d', v'⟩ := z
   simp only [toAct, Prod.mk.injEq, Ac.mk.injEq, true_and] at e
   obtain ⟨⟨rfl, rfl⟩, rfl⟩ := e
   exact hz
  obtain ⟨hk64, hd20, hsl⟩ := hL y hyL
  have hget : getKV y.1 L = some y.2 := (mem_getKV he.nodup).1 hyL
  have st : St m0 m [] w0 w3 (acE v A :: iterE strV (fun x : DV => x.2) es clock mb g6 (p1 ++ p2) :: K.objE mb (.map es clock) :: Es) := st
  have o1 := cells_one (SlM.one1 hsl)
  refine wc_region ?_
  refine wl_val (v_entry hent rfl) rfl ?_
  refine wl_val (v_extract rfl rfl) rfl ?_
  refine wl_val (v_assign' (by conv => (lhs; whnf))) rfl ?_
  refine wl_nil ?_
  refine then_go ?_
  refine wc_region ?_
  refine wl_val (v_move' (by conv => (lhs; whnf))) rfl ?_
  refine wl_val (v_move' (by conv => (lhs; whnf))) rfl ?_
  refine wl_val (v_move' (by conv => (lhs; whnf))) rfl ?_
  refine wl_val (v_move' (by conv => (lhs; whnf))) rfl ?_
  refine wl_val (v_to (v' := y.2.2) (v_mapGetH (st.at (i := 2) rfl) he kt_str Tryz.underlying93 TF.z23 hL.keys (by omega) rfl rfl false) (by rw [hget]; rfl)) rfl ?_
  refine wl_val (v_build (c' := (acC ⟨y.1, true, y.2.1⟩ y.2.2).toArray) [(0, .string (strB y.1)), (1, .bool true), (2, y.2.2)] TF.z57 TF.p57 rfl (fill_one [] [.string ⟨#[]⟩] [.bool false, .slice none 0 0] rfl rfl rfl (fill_one [.string (strB y.1)] [.bool false] [.slice none 0 0] rfl rfl rfl (fill_one [.string (strB y.1), .bool true] [.slice none 0 0] [] rfl rfl (by rw [o1]; rfl) (by rw [o1]; rfl))))) rfl ?_
  have hao : AcOk m ⟨y.1, true, y.2.1⟩ y.2.2 := ⟨by show y.1.length ≤ _; omega, hsl⟩
  refine wl_lsOne (acC ⟨y.1, true, y.2.1⟩ y.2.2) Tryz.underlying22 TF.t57 TF.z57 (by decide) (by decide) (Ac.len hao) rfl st rfl ?_
  intro b17 w st
  refine wl_lsApp (c := acP) (e := toAct y) 0 st rfl Tryz.underlying22 TF.t57 TF.z57 rfl rfl (Ac.one hao) rfl rfl (by omega) (by omega) rfl ?_
  intro v18 w st hv18
  have st : St m0 m [] w0 w (acE v18 (A ++ [toAct y]) :: iterE strV (fun x : DV => x.2) es clock mb g6 (p1 ++ p2) :: K.objE mb (.map es clock) :: Es) := st
  refine wl_val (v_assign' (by conv => (lhs; whnf))) rfl ?_
  refine wl_nil ?_
  refine block_go (then_go ?_)
  refine ⟨(p1 ++ p2).length, ?_, v18, A ++ [toAct y], p1 ++ p2, rfl, rfl, rfl, rfl, ?_, st⟩
  ·rw [hq, hR]; simp
  ·refine List.Perm.trans ?_ hperm
   rw [hR]
   simp only [List.map_append, List.map_cons, List.append_assoc, List.singleton_append]
   exact (List.perm_middle (l₁ := p1.map toAct)).symm.append_left A
end
end Go.Proofs.YtladpaehbolghaaGreat

namespace Go.Proofs.YtladpaehbolghaaGreat
open Go Go.RowKit K SH DK JR
section
variable {m0 m : Mem} {F : List Nat} {w0 w : World} {Es : List Ent}
def LogOut (m0 m : Mem) (w0 w' : World) (Es : List Ent) (g b s n : Nat) (o : DS × LG × Int) (N : List (By × Value)) (L L' : List By) (v : Value) : Prop :=
 ∃ m' wv' lv' N', (∀ k o, m k = some o → m' k = some o) ∧ v = .int .i64 o.2.2 ∧ Pcs m' N' ∧ PcsN m m' N N' ∧ N'.map (·.1) = (if o.2.2 = 0 then L' else L) ∧ St m0 m' [] w0 w' (logB g b o.2.1 lv' :: lrE lv' N' :: diskO b s n wv' o.1 :: Es)
theorem p132 {a b c : Ent} {l : List Ent} : List.Perm (a :: b :: c :: l) (a :: c :: b :: l) := List.Perm.cons _ (List.Perm.swap _ _ _)
theorem c_append {g b s n : Nat} {sl : LG} {lv wv bv : Value} {d : DS} {N : List (By × Value)} {x : By} (st : St m0 m [] w0 w (logB g b sl lv :: lrE lv N :: diskO b s n wv d :: Es)) (hr : Rdy n d 100000) (hP : Pcs m N) (hx : SlM m bv 1 x.length (bs x)) (hsl : sl.half ≤ 1) (hf1 : sl.fin ≤ n / 2 * 64) (hNn : N.length ≤ 1048576) :
  Ret Tryz.prog 51 #[.pointer (some ⟨g, 0, none⟩), bv] w fun v w' => LogOut m0 m w0 w' Es g b s n (appD n d sl (N.map (·.1)) x) N (N.map (·.1)) (N.map (·.1) ++ [x]) v := by
 obtain ⟨ba, bc, rfl, hbc⟩ := hx.opn
 have hn := hr.ok.le
 obtain ⟨la, lc, hlv⟩ := row_sl (st.at (i := 1) rfl)
 have hNL : (N.map (·.1)).length = N.length := List.length_map _
 have hrl := length_recB sl.gen (UInt64.ofNat N.length) x
 have hmm0 : ∀ k o, m k = some o → m k = some o := fun _ _ h => h
 have bad : ∀ {d' : DS} {e : Int} {m' : Mem} {wv' : Value} {w' : World}, appD n d sl (N.map (·.1)) x = (d', sl, e) → e ≠ 0 → (∀ k o, m k = some o → m' k = some o) → St m0 m' [] w0 w' (logB g b sl lv :: diskO b s n wv' d' :: lrE lv N :: Es) → LogOut m0 m w0 w' Es g b s n (appD n d sl (N.map (·.1)) x) N (N.map (·.1)) (N.map (·.1) ++ [x]) (.int .i64 e) := by
  intro d' e m' wv' w' ho he hmm st
  unfold LogOut
  rw [ho]
  exact ⟨m', wv', lv, N, hmm, rfl, hP.mono hmm, .refl, by rw [if_neg he], st.perm p132⟩
 have st : St m0 m [] w0 w (logB g b sl lv :: diskO b s n wv d :: lrE lv N :: Es) := st.perm p132
 refine ret_of Tryz.call51 Tryz.func51 rfl Tryz.ntmps51 Tryz.results51 rfl ?_
 refine wc_seq ?_
 refine wc_region ?_
 refine wl_val (v_assign' (by conv => (lhs; whnf))) rfl ?_
 refine wl_nil ?_
 refine then_go ?_
 refine wc_seq ?_
 refine wc_seq ?_
 refine wc_region ?_
 refine wl_val (v_move' (by conv => (lhs; whnf))) rfl ?_
 refine wl_call rfl (c_jcheck st.im hx) rfl ?_
 rintro v9 w ⟨t9, rfl⟩
 have st := st.pure t9
 have hck : (if 1 ≤ x.length ∧ x.length ≤ 1048576 then (0 : Int) else 1) = ((checkE x : Nat) : Int) := by unfold checkE; split <;> rfl
 rw [hck]
 refine wl_val (v_assign' (by conv => (lhs; whnf))) rfl ?_
 refine wl_nil ?_
 refine then_go ?_
 refine wc_seq ?_
 refine wc_region ?_
 refine wl_val (v_move' (by conv => (lhs; whnf))) rfl ?_
 refine wl_val (v_neq rfl rfl) rfl ?_
 refine wl_nil ?_
 refine then_go ?_
 refine wc_cond rfl (fun h11 => ?_) (fun h11 => ?_)
 ·refine wc_seq ?_
  refine wc_region ?_
  refine wl_val (v_move' (by conv => (lhs; whnf))) rfl ?_
  refine wl_val (v_assign' (by conv => (lhs; whnf))) rfl ?_
  refine wl_nil ?_
  refine then_go ?_
  refine wc_ret (then_ret ?_)
  have hz := of_decide_eq_true h11
  have h1 : checkE x = 1 := by
   have : checkE x = 0 ∨ checkE x = 1 := by
    unfold checkE
    split
    ·exact .inl rfl
    ·exact .inr rfl
   rcases this with h | h
   ·exact (hz (by rw [h]; rfl)).elim
   ·exact h
  exact ret1 (v := .int .i64 1) (by rw [h1]; rfl) (bad (by unfold appD; rw [if_pos (by omega)]) (by decide) hmm0 st)
 ·refine wc_skip ?_
  refine then_go ?_
  refine wc_seq ?_
  have hc0 : ¬ checkE x ≠ 0 := fun h => of_decide_eq_false h11 (by omega)
  have hxm : 1 ≤ x.length ∧ x.length ≤ 1048576 := by
   unfold checkE at hc0
   split at hc0
   ·assumption
   ·exact (hc0 (by decide)).elim
  have hrl2 : recL x.length ≤ 1048696 := by unfold recL; omega
  refine wc_draw TF.mixed ?_
  have st := st.pure (touch_drew _)
  refine fl_val 0 rfl (fun _ => (v_move' (by conv => (lhs; whnf)))) rfl (by kernel_rfl) ?_
  refine fl_val 1 rfl (fun _ => (v_nil rfl)) rfl (by kernel_rfl) ?_
  refine fl_val 2 rfl (fun _ => (v_fa TF.f126_2 rfl)) rfl (by kernel_rfl) ?_
  refine fl_ld 3 rfl (v_load rfl (by first | exact st.reads (v := u64 sl.gen) 0 rfl TF.t47 rfl | exact st.reads (v := u64 sl.gen) 1 rfl TF.t47 rfl)) (by kernel_rfl) ?_
  refine fl_val 4 rfl (fun _ => (v_move' (by conv => (lhs; whnf)))) rfl (by kernel_rfl) ?_
  refine fl_val 5 rfl (fun _ => (v_nil rfl)) rfl (by kernel_rfl) ?_
  refine fl_val 6 rfl (fun _ => (v_fa TF.f126_4 rfl)) rfl (by kernel_rfl) ?_
  refine fl_ld 7 rfl (v_load rfl (by first | exact st.reads (v := .slice la N.length lc) 0 rfl TF.t41 (by rw [hlv]; rfl) | exact st.reads (v := .slice la N.length lc) 1 rfl TF.t41 (by rw [hlv]; rfl))) (by kernel_rfl) ?_
  refine fl_val 8 rfl (fun _ => (v_len_s Tryz.underlying41 rfl)) rfl (by kernel_rfl) ?_
  refine fl_val 9 rfl (fun _ => (v_convi_64 Tryz.underlying3 Tryz.underlying47 rfl)) rfl (by kernel_rfl) ?_
  refine fl_val 10 rfl (fun _ => (v_move' (by conv => (lhs; whnf)))) rfl (by kernel_rfl) ?_
  refine fl_eff1 11 [8, 6, 5, 4, 2, 1, 0] [7] (by kernel_rfl) ⟨obl_ld rfl rfl rfl (v_load rfl (by first | exact st.reads (v := .slice la N.length lc) 0 rfl TF.t41 (by rw [hlv]; rfl) | exact st.reads (v := .slice la N.length lc) 1 rfl TF.t41 (by rw [hlv]; rfl))), obl_ld rfl rfl rfl (v_load rfl (by first | exact st.reads (v := u64 sl.gen) 0 rfl TF.t47 rfl | exact st.reads (v := u64 sl.gen) 1 rfl TF.t47 rfl)), trivial⟩ rfl ?_
  refine wl_call rfl (c_jrecord (g := sl.gen) (s := UInt64.ofNat N.length) st hx (by omega)) rfl ?_
  intro v24 w st
  have st1 := st
  obtain ⟨m1, hg1, hm1, st⟩ := st.freezeR (i := 0) rfl (by simp)
  obtain ⟨R, hR⟩ : ∃ R, R = recB sl.gen (UInt64.ofNat N.length) x := ⟨_, rfl⟩
  rw [← hR] at hrl st1
  have hRm : SlM m1 v24 1 R.length (bs R) := row_SlM (m := m1) (st1.at (i := 0) rfl) hm1
  have st : St m0 m1 [] w0 w (logB g b sl lv :: diskO b s n wv d :: lrE lv N :: Es) := st
  have hmm1 := hg1.le
  have hx := hx.mono hmm1
  obtain ⟨Ra, Rc, hRv, _⟩ := hRm.opn
  subst hRv
  have hRe : recB sl.gen (UInt64.ofNat (N.map (·.1)).length) x = R := by rw [hNL, hR]
  refine wl_nil ⟨rfl, ?_⟩
  refine fl_eff1 12 [] [] (by kernel_rfl) ⟨obl_ld rfl rfl rfl (v_load rfl (by first | exact st.reads (v := .slice la N.length lc) 0 rfl TF.t41 (by rw [hlv]; rfl) | exact st.reads (v := .slice la N.length lc) 1 rfl TF.t41 (by rw [hlv]; rfl))), trivial⟩ rfl ?_
  refine wl_val (v_assign' (by conv => (lhs; whnf))) rfl ?_
  refine wl_nil ⟨rfl, ?_⟩
  refine fl_nil (by kernel_rfl) trivial ?_
  refine then_go ?_
  refine wc_seq ?_
  refine wc_seq ?_
  refine wc_draw TF.mixed ?_
  have st := st.pure (touch_drew _)
  refine fl_val 0 rfl (fun _ => (v_move' (by conv => (lhs; whnf)))) rfl (by kernel_rfl) ?_
  refine fl_val 1 rfl (fun _ => (v_len_s Tryz.underlying23 rfl)) rfl (by kernel_rfl) ?_
  refine fl_val 2 rfl (fun _ => (v_move' (by conv => (lhs; whnf)))) rfl (by kernel_rfl) ?_
  refine fl_val 4 rfl (fun _ => (v_move' (by conv => (lhs; whnf)))) rfl (by kernel_rfl) ?_
  refine fl_val 5 rfl (fun _ => (v_nil rfl)) rfl (by kernel_rfl) ?_
  refine fl_val 6 rfl (fun _ => (v_fa TF.f126_3 rfl)) rfl (by kernel_rfl) ?_
  refine fl_ld 7 rfl (v_load rfl (st.reads (v := .int .i64 sl.fin) 0 rfl TF.t3 rfl)) (by kernel_rfl) ?_
  refine fl_eff1 3 [6, 5, 4, 1, 0] [7] (by kernel_rfl) ⟨obl_ld rfl rfl rfl (v_load rfl (st.reads (v := .int .i64 sl.fin) 0 rfl TF.t3 rfl)), trivial⟩ rfl ?_
  refine wl_call rfl (c_lsize st hr.ok) rfl ?_
  rintro v28 w ⟨t28, rfl⟩
  have st := st.pure t28
  refine wl_nil ⟨rfl, ?_⟩
  refine fl_val 8 rfl (fun _ => (v_sub' (c := ((n / 2 * 64 - sl.fin : Nat) : Int)) rfl rfl (by omega) (by omega) (by omega))) rfl (by kernel_rfl) ?_
  refine fl_val 9 rfl (fun _ => (v_gtr rfl rfl)) rfl (by kernel_rfl) ?_
  refine fl_nil (by kernel_rfl) ⟨obl_ld rfl rfl rfl (v_load rfl (st.reads (v := .int .i64 sl.fin) 0 rfl TF.t3 rfl)), trivial⟩ ?_
  refine then_go ?_
  refine wc_if rfl (fun h34 => ?_) (fun h34 => ?_)
  ·refine wc_seq ?_
   refine wc_region ?_
   refine wl_val (v_assign' (by conv => (lhs; whnf))) rfl ?_
   refine wl_nil ?_
   refine then_go ?_
   refine wc_ret (then_ret ?_)
   exact ret1 rfl (bad (e := 13) (by unfold appD; rw [if_neg hc0, if_pos (by omega)]) (by decide) hmm1 st)
  ·refine wc_skip ?_
   refine then_go ?_
   refine wc_seq ?_
   refine wc_seq ?_
   refine wc_draw TF.mixed ?_
   have st := st.pure (touch_drew _)
   refine fl_val 0 rfl (fun _ => (v_move' (by conv => (lhs; whnf)))) rfl (by kernel_rfl) ?_
   refine fl_val 1 rfl (fun _ => (v_move' (by conv => (lhs; whnf)))) rfl (by kernel_rfl) ?_
   refine fl_val 2 rfl (fun _ => (v_nil rfl)) rfl (by kernel_rfl) ?_
   refine fl_val 3 rfl (fun _ => (v_fa TF.f126_1 rfl)) rfl (by kernel_rfl) ?_
   refine fl_ld 4 rfl (v_load rfl (st.reads (v := .int .i64 sl.half) 0 rfl TF.t3 rfl)) (by kernel_rfl) ?_
   refine fl_val 5 rfl (fun _ => (v_move' (by conv => (lhs; whnf)))) rfl (by kernel_rfl) ?_
   refine fl_val 6 rfl (fun _ => (v_nil rfl)) rfl (by kernel_rfl) ?_
   refine fl_val 7 rfl (fun _ => (v_fa TF.f126_3 rfl)) rfl (by kernel_rfl) ?_
   refine fl_ld 8 rfl (v_load rfl (st.reads (v := .int .i64 sl.fin) 0 rfl TF.t3 rfl)) (by kernel_rfl) ?_
   refine fl_val 9 rfl (fun _ => (v_move' (by conv => (lhs; whnf)))) rfl (by kernel_rfl) ?_
   refine fl_eff1 10 [7, 6, 5, 3, 2, 1] [] (by kernel_rfl) ⟨obl_ld rfl rfl rfl (v_load rfl (st.reads (v := .int .i64 sl.fin) 0 rfl TF.t3 rfl)), obl_ld rfl rfl rfl (v_load rfl (st.reads (v := .int .i64 sl.half) 0 rfl TF.t3 rfl)), trivial⟩ rfl ?_
   have hfit : ¬ n / 2 * 64 < sl.fin + recL x.length := by omega
   refine wl_call rfl (c_put (hf := sl.half) (at' := sl.fin) st hr hRm (by rw [hrl]; unfold recL; omega) (by omega) hsl (by omega)) rfl ?_
   rintro v45 w ⟨wv1, st, rfl⟩
   have hd1 : putD n d ((sl.half * (n / 2 * 64) + sl.fin) / 64) (recB sl.gen (UInt64.ofNat (N.map (·.1)).length) x) = putD n d ((sl.half * (n / 2 * 64) + sl.fin) / 64) R := by rw [hRe]
   obtain ⟨P1, hP1⟩ : ∃ P1, P1 = putD n d ((sl.half * (n / 2 * 64) + sl.fin) / 64) R := ⟨_, rfl⟩
   rw [← hP1] at st hd1 ⊢
   refine wl_nil ⟨rfl, ?_⟩
   refine fl_eff1 11 [] [] (by kernel_rfl) trivial rfl ?_
   refine wl_val (v_assign' (by conv => (lhs; whnf))) rfl ?_
   refine wl_nil ⟨rfl, ?_⟩
   refine fl_nil (by kernel_rfl) trivial ?_
   refine then_go ?_
   refine wc_seq ?_
   refine wc_region ?_
   refine wl_val (v_move' (by conv => (lhs; whnf))) rfl ?_
   refine wl_val (v_neq rfl rfl) rfl ?_
   refine wl_nil ?_
   refine then_go ?_
   refine wc_cond rfl (fun h47 => ?_) (fun h47 => ?_)
   ·refine wc_seq ?_
    refine wc_region ?_
    refine wl_val (v_move' (by conv => (lhs; whnf))) rfl ?_
    refine wl_val (v_assign' (by conv => (lhs; whnf))) rfl ?_
    refine wl_nil ?_
    refine then_go ?_
    refine wc_ret (then_ret ?_)
    have hz := of_decide_eq_true h47
    exact ret1 rfl (bad (by unfold appD; rw [if_neg hc0, if_neg hfit, hd1, if_pos hz]) hz hmm1 st)
   ·refine wc_skip ?_
    refine then_go ?_
    refine wc_seq ?_
    refine wc_draw TF.mixed ?_
    have st := st.pure (touch_drew _)
    refine fl_val 0 rfl (fun _ => (v_move' (by conv => (lhs; whnf)))) rfl (by kernel_rfl) ?_
    refine fl_val 1 rfl (fun _ => (v_move' (by conv => (lhs; whnf)))) rfl (by kernel_rfl) ?_
    refine fl_val 2 rfl (fun _ => (v_move' (by conv => (lhs; whnf)))) rfl (by kernel_rfl) ?_
    refine fl_val 3 rfl (fun _ => (v_nil rfl)) rfl (by kernel_rfl) ?_
    refine fl_val 4 rfl (fun _ => (v_fa TF.f126_4 rfl)) rfl (by kernel_rfl) ?_
    refine fl_ld 5 rfl (v_load rfl (by first | exact st.reads (v := lv) 0 rfl TF.t41 rfl | exact st.reads (v := lv) 1 rfl TF.t41 rfl)) (by kernel_rfl) ?_
    refine fl_val 6 rfl (fun _ => (v_move' (by conv => (lhs; whnf)))) rfl (by kernel_rfl) ?_
    refine fl_val 10 rfl (fun _ => (v_move' (by conv => (lhs; whnf)))) rfl (by kernel_rfl) ?_
    refine fl_val 11 rfl (fun _ => (v_nil rfl)) rfl (by kernel_rfl) ?_
    refine fl_val 12 rfl (fun _ => (v_fa TF.f126_3 rfl)) rfl (by kernel_rfl) ?_
    refine fl_ld 13 rfl (v_load rfl (by first | exact st.reads (v := .int .i64 sl.fin) 0 rfl TF.t3 rfl | exact st.reads (v := .int .i64 sl.fin) 1 rfl TF.t3 rfl)) (by kernel_rfl) ?_
    refine fl_val 14 rfl (fun _ => (v_move' (by conv => (lhs; whnf)))) rfl (by kernel_rfl) ?_
    refine fl_val 15 rfl (fun _ => (v_len_s Tryz.underlying23 rfl)) rfl (by kernel_rfl) ?_
    refine fl_val 16 rfl (fun _ => (v_add' (c := ((sl.fin + recL x.length : Nat) : Int)) rfl rfl (by omega) (by omega) (by omega))) rfl (by kernel_rfl) ?_
    refine fl_eff1 7 [16, 15, 14, 12, 11, 10, 4, 3, 2, 1, 0] [13, 5] (by kernel_rfl) ⟨obl_ld rfl rfl rfl (v_load rfl (by first | exact st.reads (v := .int .i64 sl.fin) 0 rfl TF.t3 rfl | exact st.reads (v := .int .i64 sl.fin) 1 rfl TF.t3 rfl)), obl_ld rfl rfl rfl (v_load rfl (by first | exact st.reads (v := lv) 0 rfl TF.t41 rfl | exact st.reads (v := lv) 1 rfl TF.t41 rfl)), trivial⟩ rfl ?_
    refine wl_call rfl (c_bcloneA st.im hx (by omega)) rfl ?_
    rintro v56 w ⟨t56, m2, hg2, hi2, hxv, hap⟩
    have hap : Apart m m2 v56 x := hap.mono hmm1 fun _ _ h => h
    have st := st.grown hg2 t56 hi2
    have hmm2 : ∀ k o, m k = some o → m2 k = some o := fun k o h => hg2.le k o (hmm1 k o h)
    have hP := hP.mono hmm2
    refine wl_nil ⟨rfl, ?_⟩
    refine fl_eff1 8 [16, 15, 14, 12, 11, 10, 4, 3, 2, 1, 0] [13, 5] (by kernel_rfl) ⟨obl_ld rfl rfl rfl (v_load rfl (by first | exact st.reads (v := .int .i64 sl.fin) 0 rfl TF.t3 rfl | exact st.reads (v := .int .i64 sl.fin) 1 rfl TF.t3 rfl)), obl_ld rfl rfl rfl (v_load rfl (by first | exact st.reads (v := lv) 0 rfl TF.t41 rfl | exact st.reads (v := lv) 1 rfl TF.t41 rfl)), trivial⟩ rfl ?_
    refine wl_svOne (v := v56) Tryz.underlying41 TF.t23 TF.z23 (SlM.one1 hxv) rfl st rfl ?_
    intro b57 w st
    refine wl_nil ⟨rfl, ?_⟩
    refine fl_eff1 9 [16, 15, 14, 12, 11, 10, 4, 3, 2, 1, 0] [13] (by kernel_rfl) ⟨obl_ld rfl rfl rfl (v_load rfl (by first | exact st.reads (v := .int .i64 sl.fin) 0 rfl TF.t3 rfl | exact st.reads (v := .int .i64 sl.fin) 1 rfl TF.t3 rfl)), obl_ld rfl rfl rfl (v_load rfl (by first | exact st.reads (v := lv) 0 rfl TF.t41 rfl | exact st.reads (v := lv) 1 rfl TF.t41 rfl)), trivial⟩ rfl ?_
    refine wl_lrApp (x := x) 2 st rfl (SlM.one1 hxv) rfl rfl (by omega) rfl ?_
    intro v58 w st
    have st : St m0 m2 [] w0 w (logB g b sl lv :: diskO b s n wv1 P1.1 :: lrE v58 (N ++ [(x, v56)]) :: Es) := st
    refine wl_nil ⟨rfl, ?_⟩
    refine fl_val 17 rfl (fun _ => (v_nil rfl)) rfl (by kernel_rfl) ?_
    refine fl_val 18 rfl (fun _ => (v_fa TF.f126_4 rfl)) rfl (by kernel_rfl) ?_
    refine fl_eff1 19 [17, 16, 15, 14, 12, 11, 10, 1] [] (by kernel_rfl) ⟨obl_ld rfl rfl rfl (v_load rfl (by first | exact st.reads (v := .int .i64 sl.fin) 0 rfl TF.t3 rfl | exact st.reads (v := .int .i64 sl.fin) 1 rfl TF.t3 rfl)), trivial⟩ rfl ?_
    refine wl_store1 (v := v58) 0 st rfl TF.t41 rfl rfl (row_one (st.at (i := 2) rfl)) (lt_ok rfl) ?_
    intro w st
    have st : St m0 m2 [] w0 w (logB g b sl v58 :: diskO b s n wv1 P1.1 :: lrE v58 (N ++ [(x, v56)]) :: Es) := st
    refine wl_nil ⟨rfl, ?_⟩
    refine fl_val 20 rfl (fun _ => (v_nil rfl)) rfl (by kernel_rfl) ?_
    refine fl_val 21 rfl (fun _ => (v_fa TF.f126_3 rfl)) rfl (by kernel_rfl) ?_
    refine fl_eff1 22 [20] [] (by kernel_rfl) trivial rfl ?_
    refine wl_store1 (v := .int .i64 ((sl.fin + recL x.length : Nat) : Int)) 0 st rfl TF.t3 rfl rfl rfl (lt_ok rfl) ?_
    intro w st
    have st : St m0 m2 [] w0 w (logB g b { sl with fin := sl.fin + recL x.length } v58 :: diskO b s n wv1 P1.1 :: lrE v58 (N ++ [(x, v56)]) :: Es) := st
    refine wl_nil ⟨rfl, ?_⟩
    refine fl_nil (by kernel_rfl) trivial ?_
    refine then_go ?_
    refine wc_seq ?_
    refine wc_region ?_
    refine wl_val (v_assign' (by conv => (lhs; whnf))) rfl ?_
    refine wl_nil ?_
    refine then_go ?_
    refine wc_ret ?_
    have hz := of_decide_eq_false h47
    have hfin : appD n d sl (N.map (·.1)) x = (P1.1, { sl with fin := sl.fin + recL x.length }, 0) := by unfold appD; rw [if_neg hc0, if_neg hfit, hd1, if_neg hz]
    refine ret1 (v := .int .i64 0) rfl ?_
    unfold LogOut
    rw [hfin]
    exact ⟨m2, wv1, v58, N ++ [(x, v56)], hmm2, rfl, hP.snoc hxv, fun y hy => (List.mem_append.1 hy).imp id fun hy => by rw [List.mem_singleton.1 hy]; exact hap, by rw [if_pos rfl, List.map_append]; rfl, st.perm p132⟩
def resD (n : Nat) (d : DS) (s : LG) (M : List By) : DS × LG × Int := if ∃ b ∈ M, checkE b ≠ 0 then (d, s, 1) else overD n d s M
theorem checkE_or (x : By) : checkE x = 0 ∨ checkE x = 1 := by
 unfold checkE
 split
 ·exact .inl rfl
 ·exact .inr rfl
theorem checkE_len {x : By} (h : ¬ checkE x ≠ 0) : 1 ≤ x.length ∧ x.length ≤ 1048576 := by
 unfold checkE at h
 split at h
 ·assumption
 ·exact (h (by decide)).elim
theorem c_restart {g b s n : Nat} {sl : LG} {lv wv nv : Value} {d : DS} {N M : List (By × Value)} (st : St m0 m [] w0 w (logB g b sl lv :: lrE lv N :: diskO b s n wv d :: Es)) (hr : Rdy n d 100000) (hP : Pcs m N) (hn8 : 8 ≤ n) (hsl : sl.half ≤ 1) (hM : PcsM m nv M) (hMn : M.length ≤ 1048576) :
  Ret Tryz.prog 78 #[.pointer (some ⟨g, 0, none⟩), nv] w fun v w' => LogOut m0 m w0 w' Es g b s n (resD n d sl (M.map (·.1))) N (N.map (·.1)) (M.map (·.1)) v := by
 obtain ⟨na, nc, hlv⟩ : ∃ a c, nv = .slice a M.length c := by obtain ⟨⟨_, a, c, h, _⟩, _⟩ := hM; exact ⟨a, c, h⟩
 subst hlv
 have hmm0 : ∀ k o, m k = some o → m k = some o := fun _ _ h => h
 refine ret_of Tryz.call78 Tryz.func78 rfl Tryz.ntmps78 Tryz.results78 rfl ?_
 refine wc_seq ?_
 refine wc_region ?_
 refine wl_val (v_assign' (by conv => (lhs; whnf))) rfl ?_
 refine wl_nil ?_
 refine then_go ?_
 refine wc_seq ?_
 refine wc_seq ?_
 refine wc_region ?_
 refine wl_val (v_move' (by conv => (lhs; whnf))) rfl ?_
 refine wl_val (v_len_s Tryz.underlying41 rfl) rfl ?_
 refine wl_val (v_move' (by conv => (lhs; whnf))) rfl ?_
 refine wl_nil ?_
 refine then_go ?_
 refine wc_block ?_
 refine wc_loop (S := Nat) (fun q r w' => ∃ (i : Nat), q + i = M.length ∧ r 0 = .pointer (some ⟨g, 0, none⟩) ∧ r 1 = .slice na M.length nc ∧ r 8 = .slice na M.length nc ∧ r 9 = .int .i64 M.length ∧ r 10 = .int .i64 i ∧ (∀ x ∈ M.take i, ¬ checkE x.1 ≠ 0) ∧ St m0 m [] w0 w' (logB g b sl lv :: lrE lv N :: diskO b s n wv d :: Es)) id M.length ⟨0, by omega, rfl, rfl, rfl, rfl, rfl, by simp, st⟩ ?_
 clear st
 rintro q r w2 ⟨i, hqi, g0, g1, g8, g9, g10, hck, st⟩
 refine wc_o 0 g0 (wc_o 1 g1 (wc_o 8 g8 (wc_o 9 g9 (wc_o 10 g10 ?_))))
 refine wc_seq ?_
 refine wc_region ?_
 refine wl_val (v_lss rfl rfl) rfl ?_
 refine wl_nil ?_
 refine then_go ?_
 refine wc_seq ?_
 refine wc_if rfl (fun h11 => ?_) (fun h11 => ?_)
 ·refine wc_skip ?_
  refine then_go ?_
  refine wc_seq ?_
  refine wc_block ?_
  refine wc_seq ?_
  have hi : i < M.length := by omega
  obtain ⟨nb, no, _, hnv, hsk, hrk⟩ := hM.elem hi
  cases hnv
  refine wc_region ?_
  refine wl_val (v_ias i Tryz.underlying41 TF.t23 rfl rfl (by first | rfl | omega) (by first | omega | (dsimp only at *; omega))) rfl ?_
  refine wl_val (v_load rfl (hrk st.im)) rfl ?_
  refine wl_val (v_assign' (by conv => (lhs; whnf))) rfl ?_
  refine wl_nil ?_
  refine then_go ?_
  refine wc_seq ?_
  refine wc_region ?_
  refine wl_val (v_move' (by conv => (lhs; whnf))) rfl ?_
  refine wl_call rfl (c_jcheck st.im hsk) rfl ?_
  rintro v15 w ⟨t15, rfl⟩
  have st := st.pure t15
  have hcq : (if 1 ≤ M[i].1.length ∧ M[i].1.length ≤ 1048576 then (0 : Int) else 1) = ((checkE M[i].1 : Nat) : Int) := by unfold checkE; split <;> rfl
  rw [hcq]
  refine wl_val (v_assign' (by conv => (lhs; whnf))) rfl ?_
  refine wl_nil ?_
  refine then_go ?_
  refine wc_seq ?_
  refine wc_region ?_
  refine wl_val (v_move' (by conv => (lhs; whnf))) rfl ?_
  refine wl_val (v_neq rfl rfl) rfl ?_
  refine wl_nil ?_
  refine then_go ?_
  refine wc_cond rfl (fun h17 => ?_) (fun h17 => ?_)
  ·refine wc_seq ?_
   refine wc_region ?_
   refine wl_val (v_move' (by conv => (lhs; whnf))) rfl ?_
   refine wl_val (v_assign' (by conv => (lhs; whnf))) rfl ?_
   refine wl_nil ?_
   refine then_go ?_
   refine wc_ret (block_ret (then_ret (then_ret (block_ret (then_ret ?_)))))
   have hz := of_decide_eq_true h17
   have h1 : checkE M[i].1 = 1 := (checkE_or _).resolve_left fun h => hz (by rw [h]; rfl)
   have hfin : resD n d sl (M.map (·.1)) = (d, sl, 1) := by unfold resD; rw [if_pos ⟨_, List.mem_map.2 ⟨_, List.getElem_mem hi, rfl⟩, by omega⟩]
   refine ret1 (v := .int .i64 1) (by rw [h1]; rfl) ?_
   unfold LogOut
   rw [hfin]
   exact ⟨m, wv, lv, N, hmm0, rfl, hP, .refl, by rw [if_neg (show ¬ (1 : Int) = 0 by decide)], st⟩
  ·refine wc_skip ?_
   refine block_go (then_go ?_)
   refine wc_region ?_
   refine wl_val (v_add' (c := ((i + 1 : Nat) : Int)) rfl rfl (by omega) (by omega) (by omega)) rfl ?_
   refine wl_val (v_move' (by conv => (lhs; whnf))) rfl ?_
   refine wl_nil ?_
   refine then_go ?_
   refine ⟨q - 1, by simp; omega, i + 1, by omega, rfl, rfl, rfl, rfl, rfl, fun x hx => ?_, st⟩
   rw [List.take_succ_eq_append_getElem hi] at hx
   rcases List.mem_append.1 hx with hx | hx
   ·exact hck x hx
   ·rw [List.mem_singleton.1 hx]
    exact fun h => of_decide_eq_false h17 (by omega)
 ·refine wc_exit (then_exit (then_exit (block_hit ?_)))
  refine then_go ?_
  refine wc_seq ?_
  refine wc_region ?_
  refine wl_val (v_move' (by conv => (lhs; whnf))) rfl ?_
  refine wl_val (v_move' (by conv => (lhs; whnf))) rfl ?_
  have hiN : i = M.length := by omega
  subst hiN
  rw [List.take_length] at hck
  have hfin : resD n d sl (M.map (·.1)) = overD n d sl (M.map (·.1)) := by
   unfold resD
   rw [if_neg]
   rintro ⟨x, hx, hz⟩
   obtain ⟨y, hy, rfl⟩ := List.mem_map.1 hx
   exact hck y hy hz
  have st := st.perm p132
  refine wl_call rfl (c_over st hr hn8 hsl hM (fun x hx => (checkE_len (hck x hx)).2) hMn) rfl ?_
  rintro v22 w ⟨m1, wv1, hmm1, rfl, hbad, hok⟩
  refine wl_val (v_assign' (by conv => (lhs; whnf))) rfl ?_
  refine wl_nil ?_
  refine then_go ?_
  refine wc_ret ?_
  refine ret1 rfl ?_
  unfold LogOut
  rw [hfin]
  by_cases hz : (overD n d sl (M.map (·.1))).2.2 = 0
  ·obtain ⟨lv', N', hP', hPn, hNN, st⟩ := hok hz
   refine ⟨m1, wv1, lv', N', hmm1, rfl, hP', fun y hy => .inr (hPn y hy), by rw [if_pos hz]; exact hNN, ?_⟩
   exact (st.perm (List.perm_middle (l₁ := [_, _, _]))).drop 0
  ·obtain ⟨hs, st⟩ := hbad hz
   refine ⟨m1, wv1, lv, N, hmm1, rfl, hP.mono hmm1, .refl, by rw [if_neg hz], ?_⟩
   rw [hs]
   exact st.perm p132
abbrev rowsE (A : List (By × Value)) : List Ent := (A.map fun x => byE x.2 x.1).reverse
theorem rows_freeze : ∀ {A : List (By × Value)} {m : Mem} {Es : List Ent}, St m0 m [] w0 w (rowsE A ++ Es) → ∃ m', (∀ k o, m k = some o → m' k = some o) ∧ Pcs m' A ∧ St m0 m' [] w0 w Es := by
 intro A
 induction h : A.length generalizing A with
 | zero =>
  intro m Es st
  have := List.eq_nil_of_length_eq_zero h
  subst this
  exact ⟨m, fun _ _ h => h, (by intro x hx; cases hx), st⟩
 | succ k ih =>
  intro m Es st
  have hne : A ≠ [] := by intro e; subst e; simp at h
  obtain ⟨B, x, rfl⟩ : ∃ B x, A = B ++ [x] := ⟨A.dropLast, A.getLast hne, (List.dropLast_concat_getLast hne).symm⟩
  have e : rowsE (B ++ [x]) ++ Es = byE x.2 x.1 :: (rowsE B ++ Es) := by simp [rowsE]
  rw [e] at st
  obtain ⟨m1, hg1, hm1, st1⟩ := st.freezeR (i := 0) rfl (by simp)
  have hx : SlM m1 x.2 1 x.1.length (bs x.1) := row_SlM (m := m1) (st.at (i := 0) rfl) hm1
  obtain ⟨m2, h2, hP, st2⟩ := ih (A := B) (by simpa using h) (show St m0 m1 [] w0 w (rowsE B ++ Es) from st1)
  exact ⟨m2, fun k o h => h2 k o (hg1.le k o h), hP.snoc (hx.mono h2), st2⟩
theorem c_logAll {g b : Nat} {sl : LG} {lv : Value} {N : List (By × Value)} (st : St m0 m F w0 w (logB g b sl lv :: lrE lv N :: Es)) (hP : Pcs m N) (hNl : ∀ x ∈ N, x.1.length ≤ 1048576) (hNn : N.length ≤ 1048576) :
  Ret Tryz.prog 61 #[.pointer (some ⟨g, 0, none⟩)] w fun v w' => ∃ A, A.map (·.1) = N.map (·.1) ∧ St m0 m F w0 w' (lrE v A :: (rowsE A ++ logB g b sl lv :: lrE lv N :: Es)) := by
 obtain ⟨la, lc, hlv⟩ := row_sl (st.at (i := 1) rfl)
 subst hlv
 refine ret_of Tryz.call61 Tryz.func61 rfl Tryz.ntmps61 Tryz.results61 rfl ?_
 refine wc_seq ?_
 refine wc_region ?_
 refine wl_val (v_assign' (by conv => (lhs; whnf))) rfl ?_
 refine wl_nil ?_
 refine then_go ?_
 refine wc_seq ?_
 refine wc_region ?_
 refine wl_val (v_assign' (by conv => (lhs; whnf))) rfl ?_
 refine wl_nil ?_
 refine then_go ?_
 refine wc_seq ?_
 refine wc_seq ?_
 refine wc_region ?_
 refine wl_val (v_move' (by conv => (lhs; whnf))) rfl ?_
 refine wl_val (v_nil rfl) rfl ?_
 refine wl_val (v_fa TF.f126_4 rfl) rfl ?_
 refine wl_val (v_load rfl (st.reads (v := .slice la N.length lc) 0 rfl TF.t41 rfl)) rfl ?_
 refine wl_val (v_len_s Tryz.underlying41 rfl) rfl ?_
 refine wl_val (v_move' (by conv => (lhs; whnf))) rfl ?_
 refine wl_nil ?_
 refine then_go ?_
 refine wc_block ?_
 have st := nilRow st 23 1
 refine wc_loop (S := Nat) (fun q r w' => ∃ (i : Nat) (v : Value) (A : List (By × Value)), q + i = N.length ∧ r 3 = v ∧ r 9 = .slice la N.length lc ∧ r 10 = .int .i64 N.length ∧ r 11 = .int .i64 i ∧ A.map (·.1) = (N.take i).map (·.1) ∧ St m0 m F w0 w' (lrE v A :: (rowsE A ++ logB g b sl (.slice la N.length lc) :: lrE (.slice la N.length lc) N :: Es))) id N.length ⟨0, _, [], by omega, rfl, rfl, rfl, rfl, rfl, st⟩ ?_
 clear st
 rintro q r w2 ⟨i, v, A, hqi, g3, g9, g10, g11, hA, st⟩
 refine wc_o 3 g3 (wc_o 9 g9 (wc_o 10 g10 (wc_o 11 g11 ?_)))
 refine wc_seq ?_
 refine wc_region ?_
 refine wl_val (v_lss rfl rfl) rfl ?_
 refine wl_nil ?_
 refine then_go ?_
 refine wc_seq ?_
 refine wc_if rfl (fun h12 => ?_) (fun h12 => ?_)
 ·refine wc_skip ?_
  refine then_go ?_
  refine wc_seq ?_
  refine wc_block ?_
  refine wc_seq ?_
  have hi : i < N.length := by omega
  have hAl : A.length = i := by have := congrArg List.length hA; rw [List.length_map, List.length_map, List.length_take] at this; omega
  have hidx : (lrE v A :: (rowsE A ++ logB g b sl (.slice la N.length lc) :: lrE (.slice la N.length lc) N :: Es))[A.length + 2]? = some (lrE (.slice la N.length lc) N) := by
   rw [List.getElem?_cons_succ, List.getElem?_append_right (by simp)]
   simp
  obtain ⟨nb, no, _, hnv, hsk, hrk⟩ := (lr_PcsM st (A.length + 2) hidx hP).elem hi
  cases hnv
  have hxl := hNl _ (List.getElem_mem hi)
  have hsk := hP _ (List.getElem_mem hi)
  refine wc_region ?_
  refine wl_val (v_ias i Tryz.underlying41 TF.t23 rfl rfl (by first | rfl | omega) (by first | omega | (dsimp only at *; omega))) rfl ?_
  refine wl_val (v_load rfl (hrk (im_heapM _))) rfl ?_
  refine wl_val (v_assign' (by conv => (lhs; whnf))) rfl ?_
  refine wl_nil ?_
  refine then_go ?_
  refine wc_region ?_
  refine wl_val (v_move' (by conv => (lhs; whnf))) rfl ?_
  refine wl_val (v_move' (by conv => (lhs; whnf))) rfl ?_
  refine wl_call rfl (c_bcloneR st hsk (by omega)) rfl ?_
  intro v17 w st
  refine wl_svOne (v := v17) Tryz.underlying41 TF.t23 TF.z23 (byE_one st 0 rfl) rfl st rfl ?_
  intro b18 w st
  refine wl_lrApp (x := N[i].1) 1 st rfl (byE_one st 1 rfl) rfl rfl (by omega) rfl ?_
  intro v19 w st
  have st : St m0 m F w0 w (lrE v19 (A ++ [(N[i].1, v17)]) :: (rowsE (A ++ [(N[i].1, v17)]) ++ logB g b sl (.slice (some ⟨nb, no, none⟩) N.length lc) :: lrE (.slice (some ⟨nb, no, none⟩) N.length lc) N :: Es)) := by
   have e : rowsE (A ++ [(N[i].1, v17)]) = byE v17 N[i].1 :: rowsE A := by simp [rowsE]
   rw [e]
   exact st.perm (List.Perm.swap _ _ _)
  refine wl_val (v_assign' (by conv => (lhs; whnf))) rfl ?_
  refine wl_nil ?_
  refine block_go (then_go ?_)
  refine wc_region ?_
  refine wl_val (v_add' (c := ((i + 1 : Nat) : Int)) rfl rfl (by omega) (by omega) (by omega)) rfl ?_
  refine wl_val (v_move' (by conv => (lhs; whnf))) rfl ?_
  refine wl_nil ?_
  refine then_go ?_
  refine ⟨q - 1, by simp; omega, i + 1, v19, A ++ [(N[i].1, v17)], by omega, rfl, rfl, rfl, rfl, ?_, st⟩
  rw [List.map_append, hA, List.take_succ_eq_append_getElem hi, List.map_append]
  rfl
 ·refine wc_exit (then_exit (then_exit (block_hit ?_)))
  refine then_go ?_
  refine wc_seq ?_
  refine wc_region ?_
  refine wl_val (v_move' (by conv => (lhs; whnf))) rfl ?_
  refine wl_val (v_assign' (by conv => (lhs; whnf))) rfl ?_
  refine wl_nil ?_
  refine then_go ?_
  refine wc_ret ?_
  have hiN : i = N.length := by omega
  subst hiN
  rw [List.take_length] at hA
  exact ret1 rfl ⟨A, hA, st⟩
end
end Go.Proofs.YtladpaehbolghaaGreat

namespace Go.Proofs.YtladpaehbolghaaGreat
open Go Go.RowKit K SH DK JR
namespace JR
theorem splice_get {S l : By} {o i : Nat} (h : o + l.length ≤ S.length) : (splice S o l)[i]? = if i < o then S[i]? else if i < o + l.length then l[i - o]? else S[i]? := by
 unfold splice
 have h1 : (S.take o).length = o := by rw [List.length_take]; omega
 by_cases a : i < o
 ·rw [if_pos a, List.append_assoc, List.getElem?_append_left (by omega), List.getElem?_take_of_lt a]
 ·rw [if_neg a]
  by_cases c : i < o + l.length
  ·rw [if_pos c, List.getElem?_append_left (by rw [List.length_append]; omega), List.getElem?_append_right (by omega), h1]
  ·rw [if_neg c, List.getElem?_append_right (by rw [List.length_append]; omega), List.length_append, h1, List.getElem?_drop]
   congr 1
   omega
theorem halfB_get {b : By} {n k i : Nat} : (halfB b n k)[i]? = if i < n then b[k * n + i]? else none := by
 unfold halfB
 rw [List.getElem?_take]
 split
 ·rw [List.getElem?_drop]
 ·rfl
theorem halfB_len {b : By} {n k : Nat} (hk : k ≤ 1) (h : 2 * n ≤ b.length) : (halfB b n k).length = n := by
 unfold halfB
 rw [List.length_take, List.length_drop]
 rcases Nat.le_one_iff_eq_zero_or_eq_one.1 hk with h | h <;> subst h <;> omega
theorem half_other {S l : By} {H k a : Nat} (hk : k ≤ 1) (h : 2 * H ≤ S.length) (ha : a + l.length ≤ H) : halfB (splice S (k * H + a) l) H (1 - k) = halfB S H (1 - k) := by
 apply List.ext_getElem?
 intro i
 rw [halfB_get, halfB_get]
 split
 ·rcases Nat.le_one_iff_eq_zero_or_eq_one.1 hk with hk | hk <;> subst hk
  ·rw [splice_get (by omega), if_neg (by omega), if_neg (by omega)]
  ·rw [splice_get (by omega), if_pos (by omega)]
 ·rfl
theorem half_same {S l : By} {H k a : Nat} (hk : k ≤ 1) (h : 2 * H ≤ S.length) (ha : a + l.length ≤ H) : halfB (splice S (k * H + a) l) H k = splice (halfB S H k) a l := by
 have hkl : k * H ≤ H := by rcases Nat.le_one_iff_eq_zero_or_eq_one.1 hk with hk | hk <;> subst hk <;> omega
 apply List.ext_getElem?
 intro i
 have e : (splice (halfB S H k) a l)[i]? = if i < a then (halfB S H k)[i]? else if i < a + l.length then l[i - a]? else (halfB S H k)[i]? := splice_get (by rw [halfB_len hk h]; exact ha)
 rw [e, halfB_get, halfB_get, splice_get (by omega)]
 by_cases c : i < H
 ·simp only [if_pos c]
  by_cases c1 : i < a
  ·rw [if_pos c1, if_pos (by omega)]
  ·rw [if_neg c1, if_neg (by omega)]
   by_cases c2 : i < a + l.length
   ·rw [if_pos c2, if_pos (by omega)]; congr 1; omega
   ·rw [if_neg c2, if_neg (by omega)]
 ·rw [if_neg c, if_neg (by omega), if_neg (by omega), if_neg c]
structure LogOk (n : Nat) (S : By) (s : LG) (L : List By) : Prop where
 len : S.length = 64 * n
 n8 : 8 ≤ n
 nle : n ≤ 16384
 half : s.half ≤ 1
 fin : s.fin = 64 + sizeL L
 fit : 64 + sizeL L ≤ n / 2 * 64
 here : halfB S (n / 2 * 64) s.half = headB s.gen ++ (allB s.gen 0 L ++ List.replicate (n / 2 * 64 - 64 - sizeL L) 0)
 gen : 0 < s.gen.toNat
 other : (begF (halfB S (n / 2 * 64) (1 - s.half))).toNat < s.gen.toNat + (1 - s.half)
 okr : Okr L
theorem nextF_zeros {g s : UInt64} {k : Nat} : nextF g s (List.replicate k 0) = none := nextF_zero (by rw [List.drop_replicate, rd8_zero]; rfl)
section
variable {n : Nat} {S : By} {s : LG} {L : List By}
theorem LogOk.pick (h : LogOk n S s L) : pickF S (n / 2 * 64) = (s.half, s.gen) := by
 have hb : begF (halfB S (n / 2 * 64) s.half) = s.gen := by rw [h.here]; exact begF_head h.gen
 have ho := h.other
 unfold pickF
 rcases Nat.le_one_iff_eq_zero_or_eq_one.1 h.half with hk | hk
 ·rw [hk] at hb ho ⊢
  have ho : (begF (halfB S (n / 2 * 64) 1)).toNat < s.gen.toNat + 1 := ho
  rw [hb, if_neg]
  intro hlt
  have := UInt64.lt_iff_toNat_lt.1 hlt
  omega
 ·rw [hk] at hb ho ⊢
  have ho : (begF (halfB S (n / 2 * 64) 0)).toNat < s.gen.toNat := ho
  rw [hb, if_pos (UInt64.lt_iff_toNat_lt.2 ho)]
theorem okr_small {L : List By} (h : Okr L) : ∀ x ∈ L, 1 ≤ x.length ∧ x.length < 18446744073709551616 := fun x hx => ⟨(h x hx).1, by have := (h x hx).2; omega⟩
theorem recs_here {H : By} {g : UInt64} {L : List By} {k : Nat} (h : H = headB g ++ (allB g 0 L ++ List.replicate k 0)) (ho : Okr L) : recs g H = L := by
 unfold recs
 have e : H.drop 64 = allB g 0 L ++ List.replicate k 0 := by rw [h]; exact List.drop_left' (length_headB g)
 rw [e]
 refine recs_all (okr_small ho) nextF_zeros ?_
 rw [h, List.length_append, List.length_append, length_allB]
 have := sizeL_ge (l := L)
 omega
theorem LogOk.recs (h : LogOk n S s L) : recs s.gen (halfB S (n / 2 * 64) s.half) = L := recs_here h.here h.okr
theorem hlf_eq {n : Nat} : 64 * n / 64 / 2 * 64 = n / 2 * 64 := by omega
theorem LogOk.app (h : LogOk n S s L) {x : By} : ∃ S' s', appD n (calm S) s L x = (calm S', s', ((appR L x n : Nat) : Int)) ∧ LogOk n S' s' (if appR L x n = 0 then L ++ [x] else L) ∧ s'.gen = s.gen ∧ s'.half = s.half := by
 have hn := h.n8
 have hfit := h.fit
 have hfin := h.fin
 by_cases hc : checkE x ≠ 0
 ·have hR : appR L x n = 1 := by unfold appR; rw [if_pos hc]
  rw [hR]
  exact ⟨S, s, by unfold appD; rw [if_pos hc]; rfl, by rw [if_neg (by decide)]; exact h, rfl, rfl⟩
 ·by_cases hf : n / 2 * 64 < s.fin + recL x.length
  ·have hR : appR L x n = 13 := by unfold appR; rw [if_neg hc, sizeL_snoc, if_neg (by omega)]
   rw [hR]
   exact ⟨S, s, by unfold appD; rw [if_neg hc, if_pos hf]; rfl, by rw [if_neg (by decide)]; exact h, rfl, rfl⟩
  ·have hR : appR L x n = 0 := by unfold appR; rw [if_neg hc, sizeL_snoc, if_pos (by omega)]
   rw [hR]
   have hrl := length_recB s.gen (UInt64.ofNat L.length) x
   have hk := h.half
   have hmod := sizeL_mod (l := L)
   have hpos : 64 * ((s.half * (n / 2 * 64) + s.fin) / 64) = s.half * (n / 2 * 64) + s.fin := by rcases Nat.le_one_iff_eq_zero_or_eq_one.1 hk with hk | hk <;> rw [hk] <;> omega
   have hle : s.half * (n / 2 * 64) ≤ n / 2 * 64 := by rcases Nat.le_one_iff_eq_zero_or_eq_one.1 hk with hk | hk <;> rw [hk] <;> omega
   have h2 : 2 * (n / 2 * 64) ≤ S.length := by rw [h.len]; omega
   have hput : putD n (calm S) ((s.half * (n / 2 * 64) + s.fin) / 64) (recB s.gen (UInt64.ofNat L.length) x) = (calm (splice S (s.half * (n / 2 * 64) + s.fin) (recB s.gen (UInt64.ofNat L.length) x)), 0) := by
    rw [put_calm h.len (by rw [hrl]; unfold recL; omega) (by rw [hpos, hrl]; omega), hpos]
   refine ⟨splice S (s.half * (n / 2 * 64) + s.fin) (recB s.gen (UInt64.ofNat L.length) x), { s with fin := s.fin + recL x.length }, by unfold appD; rw [if_neg hc, if_neg hf, hput, if_neg (by simp)]; rfl, ?_, rfl, rfl⟩
   rw [if_pos rfl]
   have hz : n / 2 * 64 - 64 - sizeL L = recL x.length + (n / 2 * 64 - 64 - sizeL (L ++ [x])) := by rw [sizeL_snoc]; omega
   refine ⟨by rw [length_splice (by rw [hrl, h.len]; omega)]; exact h.len, hn, h.nle, hk, by rw [sizeL_snoc]; show s.fin + recL x.length = _; omega, by rw [sizeL_snoc]; omega, ?_, h.gen, ?_, ?_⟩
   ·show halfB (splice S (s.half * (n / 2 * 64) + s.fin) _) _ s.half = _
    rw [half_same hk h2 (by rw [hrl]; omega), h.here, hz, ← List.replicate_append_replicate]
    have hl : (headB s.gen ++ allB s.gen 0 L).length = s.fin := by rw [List.length_append, length_headB, length_allB]; omega
    unfold splice
    rw [← List.append_assoc (headB s.gen), ← List.append_assoc (headB s.gen ++ allB s.gen 0 L)]
    rw [List.append_assoc (headB s.gen ++ allB s.gen 0 L), List.take_left' hl, ← List.append_assoc (headB s.gen ++ allB s.gen 0 L)]
    rw [List.drop_left' (by rw [List.length_append, hl, List.length_replicate, hrl])]
    rw [allB_snoc, Nat.zero_add, List.append_assoc, List.append_assoc, List.append_assoc]
   ·show (begF (halfB (splice S (s.half * (n / 2 * 64) + s.fin) _) _ (1 - s.half))).toNat < s.gen.toNat + (1 - s.half)
    rw [half_other hk h2 (by rw [hrl]; omega)]
    exact h.other
   ·intro y hy
    rcases List.mem_append.1 hy with hy | hy
    ·exact h.okr y hy
    ·rw [List.mem_singleton.1 hy]; exact checkE_len hc
theorem over_ok (hl : S.length = 64 * n) (hn : 8 ≤ n) (hn2 : n ≤ 16384) (hk : s.half ≤ 1) (hg : (begF (halfB S (n / 2 * 64) s.half)).toNat ≤ s.gen.toNat) (hg2 : s.gen.toNat + 1 < 18446744073709551616) (ho : Okr L) :
  (sizeL L ≤ n / 2 * 64 - 64 → ∃ S', overD n (calm S) s L = (calm S', ⟨1 - s.half, s.gen + 1, 64 + sizeL L⟩, 0) ∧ LogOk n S' ⟨1 - s.half, s.gen + 1, 64 + sizeL L⟩ L) ∧ (¬ sizeL L ≤ n / 2 * 64 - 64 → overD n (calm S) s L = (calm S, s, 13)) := by
 refine ⟨fun hf => ?_, fun hf => by unfold overD; rw [if_pos (by omega)]⟩
 obtain ⟨hh, hhe⟩ : ∃ hh, hh = 1 - s.half := ⟨_, rfl⟩
 obtain ⟨H, hH⟩ : ∃ H, H = n / 2 * 64 := ⟨_, rfl⟩
 have hh1 : hh ≤ 1 := by omega
 have hback : 1 - hh = s.half := by omega
 have h64 : 64 * (hh * (n / 2)) = hh * H := by rcases Nat.le_one_iff_eq_zero_or_eq_one.1 hh1 with h | h <;> rw [h] <;> omega
 have h65 : 64 * (hh * (n / 2) + 1) = hh * H + 64 := by omega
 have hle : hh * H ≤ H := by rcases Nat.le_one_iff_eq_zero_or_eq_one.1 hh1 with h | h <;> rw [h] <;> omega
 have hmod := sizeL_mod (l := L)
 obtain ⟨Z, hZ⟩ : ∃ Z : By, Z = List.replicate H 0 := ⟨_, rfl⟩
 have hZl : Z.length = H := by rw [hZ, List.length_replicate]
 obtain ⟨B, hB⟩ : ∃ B, B = allB (s.gen + 1) 0 L := ⟨_, rfl⟩
 have hBl : B.length = sizeL L := by rw [hB, length_allB]
 obtain ⟨D, hD⟩ : ∃ D, D = headB (s.gen + 1) := ⟨_, rfl⟩
 have hDl : D.length = 64 := by rw [hD, length_headB]
 have p1 : putD n (calm S) (hh * (n / 2)) Z = (calm (splice S (hh * H + 0) Z), 0) := by rw [put_calm hl (by omega) (by omega), h64, Nat.add_zero]
 have l1 : (splice S (hh * H + 0) Z).length = 64 * n := by rw [length_splice (by omega)]; exact hl
 have p2 : putD n (calm (splice S (hh * H + 0) Z)) (hh * (n / 2) + 1) B = (calm (splice (splice S (hh * H + 0) Z) (hh * H + 64) B), 0) := by rw [put_calm l1 (by omega) (by omega), h65]
 have l2 : (splice (splice S (hh * H + 0) Z) (hh * H + 64) B).length = 64 * n := by rw [length_splice (by omega)]; exact l1
 have p3 : putD n (calm (splice (splice S (hh * H + 0) Z) (hh * H + 64) B)) (hh * (n / 2)) D = (calm (splice (splice (splice S (hh * H + 0) Z) (hh * H + 64) B) (hh * H + 0) D), 0) := by rw [put_calm l2 (by omega) (by omega), h64, Nat.add_zero]
 have hov : overD n (calm S) s L = (calm (splice (splice (splice S (hh * H + 0) Z) (hh * H + 64) B) (hh * H + 0) D), ⟨hh, s.gen + 1, 64 + sizeL L⟩, 0) := by
  unfold overD
  rw [← hhe, ← hH, ← hZ, ← hB, ← hD, if_neg (by omega)]
  simp only [p1, p2, p3]
  rfl
 refine ⟨_, by rw [← hhe]; exact hov, ?_⟩
 rw [← hhe]
 have hgs : (s.gen + 1).toNat = s.gen.toNat + 1 := by rw [UInt64.toNat_add]; show (s.gen.toNat + 1) % 18446744073709551616 = _; omega
 refine ⟨by rw [length_splice (by omega)]; exact l2, hn, hn2, hh1, rfl, by omega, ?_, by show 0 < (s.gen + 1).toNat; omega, ?_, ho⟩
 ·show halfB _ (n / 2 * 64) hh = _
  rw [← hH, half_same hh1 (by omega) (by omega), half_same hh1 (by omega) (by omega), half_same hh1 (by omega) (by omega)]
  have hs := halfB_len (b := S) hh1 (show 2 * H ≤ S.length by omega)
  have e1 : splice (halfB S H hh) 0 Z = Z := by
   unfold splice
   rw [List.drop_of_length_le (by omega)]
   simp
  rw [e1]
  have e2 : splice Z 64 B = List.replicate 64 0 ++ (B ++ List.replicate (H - 64 - sizeL L) 0) := by
   unfold splice
   rw [hZ, List.take_replicate, List.drop_replicate, Nat.min_eq_left (by omega), List.append_assoc, hBl]
   congr 3
   omega
  rw [e2]
  unfold splice
  rw [Nat.zero_add, List.drop_left' (by rw [List.length_replicate, hDl]), List.take_zero, List.nil_append, hD, hB]
 ·show (begF (halfB _ (n / 2 * 64) (1 - hh))).toNat < (s.gen + 1).toNat + (1 - hh)
  rw [← hH, half_other hh1 (by omega) (by omega), half_other hh1 (by omega) (by omega), half_other hh1 (by omega) (by omega), hback, hH]
  omega
theorem LogOk.res (h : LogOk n S s L) (hg2 : s.gen.toNat + 1 < 18446744073709551616) {M : List By} : ∃ S' s', resD n (calm S) s M = (calm S', s', ((resR M n : Nat) : Int)) ∧ LogOk n S' s' (if resR M n = 0 then M else L) ∧ s'.gen = (if resR M n = 0 then s.gen + 1 else s.gen) := by
 unfold resD resR
 by_cases hb : ∃ b ∈ M, checkE b ≠ 0
 ·rw [if_pos hb, if_pos hb]
  exact ⟨S, s, rfl, by rw [if_neg (by decide)]; exact h, by rw [if_neg (by decide)]⟩
 ·rw [if_neg hb, if_neg hb]
  have ho : Okr M := fun x hx => checkE_len fun hz => hb ⟨x, hx, hz⟩
  have hbe : begF (halfB S (n / 2 * 64) s.half) = s.gen := by rw [h.here]; exact begF_head h.gen
  obtain ⟨o1, o2⟩ := over_ok (L := M) h.len h.n8 h.nle h.half (by rw [hbe]; exact Nat.le_refl _) hg2 ho
  by_cases hf : sizeL M ≤ n / 2 * 64 - 64
  ·obtain ⟨S', h1, h2⟩ := o1 hf
   rw [if_pos hf]
   exact ⟨S', _, h1, by rw [if_pos rfl]; exact h2, by rw [if_pos rfl]⟩
  ·rw [if_neg hf]
   exact ⟨S, s, o2 hf, by rw [if_neg (by decide)]; exact h, by rw [if_neg (by decide)]⟩
def openD (n : Nat) (S : By) : DS × LG × List By × Int :=
  if (pickF S (n / 2 * 64)).2 = 0 then ((overD n (calm S) ⟨1, 0, 0⟩ []).1, (overD n (calm S) ⟨1, 0, 0⟩ []).2.1, [], (overD n (calm S) ⟨1, 0, 0⟩ []).2.2) else
  if ∃ c ∈ (halfB S (n / 2 * 64) (pickF S (n / 2 * 64)).1).drop (64 + sizeL (JR.recs (pickF S (n / 2 * 64)).2 (halfB S (n / 2 * 64) (pickF S (n / 2 * 64)).1))), c ≠ 0 then
    ((overD n (calm S) ⟨(pickF S (n / 2 * 64)).1, (pickF S (n / 2 * 64)).2, 64 + sizeL (JR.recs (pickF S (n / 2 * 64)).2 (halfB S (n / 2 * 64) (pickF S (n / 2 * 64)).1))⟩ (JR.recs (pickF S (n / 2 * 64)).2 (halfB S (n / 2 * 64) (pickF S (n / 2 * 64)).1))).1,
     (overD n (calm S) ⟨(pickF S (n / 2 * 64)).1, (pickF S (n / 2 * 64)).2, 64 + sizeL (JR.recs (pickF S (n / 2 * 64)).2 (halfB S (n / 2 * 64) (pickF S (n / 2 * 64)).1))⟩ (JR.recs (pickF S (n / 2 * 64)).2 (halfB S (n / 2 * 64) (pickF S (n / 2 * 64)).1))).2.1,
     JR.recs (pickF S (n / 2 * 64)).2 (halfB S (n / 2 * 64) (pickF S (n / 2 * 64)).1),
     (overD n (calm S) ⟨(pickF S (n / 2 * 64)).1, (pickF S (n / 2 * 64)).2, 64 + sizeL (JR.recs (pickF S (n / 2 * 64)).2 (halfB S (n / 2 * 64) (pickF S (n / 2 * 64)).1))⟩ (JR.recs (pickF S (n / 2 * 64)).2 (halfB S (n / 2 * 64) (pickF S (n / 2 * 64)).1))).2.2)
  else (calm S, ⟨(pickF S (n / 2 * 64)).1, (pickF S (n / 2 * 64)).2, 64 + sizeL (JR.recs (pickF S (n / 2 * 64)).2 (halfB S (n / 2 * 64) (pickF S (n / 2 * 64)).1))⟩, JR.recs (pickF S (n / 2 * 64)).2 (halfB S (n / 2 * 64) (pickF S (n / 2 * 64)).1), 0)
theorem pick_le {H : Nat} : (begF (halfB S H (1 - (pickF S H).1))).toNat ≤ (pickF S H).2.toNat ∧ begF (halfB S H (pickF S H).1) = (pickF S H).2 ∧ ((pickF S H).1 = 1 → (begF (halfB S H 0)).toNat < (pickF S H).2.toNat) := by
 unfold pickF
 split
 ·rename_i h
  have := UInt64.lt_iff_toNat_lt.1 h
  exact ⟨Nat.le_of_lt this, rfl, fun _ => this⟩
 ·rename_i h
  refine ⟨?_, rfl, fun h => by cases h⟩
  rcases Nat.lt_or_ge (begF (halfB S H 0)).toNat (begF (halfB S H 1)).toNat with h' | h'
  ·exact (h (UInt64.lt_iff_toNat_lt.2 h')).elim
  ·exact h'
theorem open_ok (hl : S.length = 64 * n) (hn : 8 ≤ n) (hn2 : n ≤ 16384) (hg : (pickF S (n / 2 * 64)).2.toNat + 1 < 18446744073709551616) :
  ∃ S' s' L, openD n S = (calm S', s', L, 0) ∧ LogOk n S' s' L ∧ (readF S).2.1 = L ∧ (s'.gen = (readF S).1 ∨ s'.gen = (readF S).1 + 1) ∧ s'.gen.toNat ≤ (pickF S (n / 2 * 64)).2.toNat + 1 := by
 obtain ⟨H, hH⟩ : ∃ H, H = n / 2 * 64 := ⟨_, rfl⟩
 have hrd : readF S = if (pickF S H).2 = 0 then (0, [], 0) else ((pickF S H).2, JR.recs (pickF S H).2 (halfB S H (pickF S H).1), 0) := by
  unfold readF
  rw [hl, hlf_eq, ← hH, if_neg (by omega)]
 rw [← hH] at hg
 rw [hrd, ← hH]
 obtain ⟨q1, q2, q3⟩ := pick_le (S := S) (H := H)
 have hk := pickF_le (b := S) (n := H)
 unfold openD
 rw [← hH]
 obtain ⟨k, hke⟩ : ∃ k, k = (pickF S H).1 := ⟨_, rfl⟩
 obtain ⟨g, hge⟩ : ∃ g, g = (pickF S H).2 := ⟨_, rfl⟩
 rw [← hke, ← hge] at q1 q2 q3 ⊢
 rw [← hge] at hg
 rw [← hke] at hk
 by_cases hg0 : g = 0
 ·rw [if_pos hg0, if_pos hg0]
  have hb1 : (begF (halfB S H 1)).toNat ≤ 0 := by
   rw [hg0] at q1 q2
   rcases Nat.le_one_iff_eq_zero_or_eq_one.1 hk with h | h
   ·rw [h] at q1; exact q1
   ·rw [h] at q2; rw [q2]; exact Nat.le_refl _
  obtain ⟨o1, _⟩ := over_ok (n := n) (S := S) (s := ⟨1, 0, 0⟩) (L := []) hl hn hn2 (Nat.le_refl _) (by rw [← hH]; exact hb1) (by decide) (by intro x hx; cases hx)
  obtain ⟨S', h1, h2⟩ := o1 (Nat.zero_le _)
  rw [h1]
  exact ⟨S', _, [], rfl, h2, rfl, .inr rfl, by rw [hg0]; exact Nat.le_refl _⟩
 ·rw [if_neg hg0, if_neg hg0]
  have hgp : 0 < g.toNat := by
   rcases Nat.eq_zero_or_pos g.toNat with h | h
   ·exact (hg0 (UInt64.toNat_inj.1 h)).elim
   ·exact h
  obtain ⟨half, hhf⟩ : ∃ half, half = halfB S H k := ⟨_, rfl⟩
  have hhl : half.length = H := by rw [hhf]; exact halfB_len hk (by omega)
  rw [← hhf] at q2 ⊢
  obtain ⟨r1, r2, r3, r4⟩ := recs_there (g := g) (f := half.length) (k := 0) (b := half.drop 64) (by rw [List.length_drop]; omega)
  have hrl : recsF g half.length 0 (half.drop 64) = JR.recs g half := rfl
  rw [hrl] at r1 r2 r3 r4
  rw [List.length_drop] at r1 r4
  obtain ⟨L, hL⟩ : ∃ L, L = JR.recs g half := ⟨_, rfl⟩
  rw [← hL] at r1 r2 r3 r4 ⊢
  have ho : Okr L := fun x hx => ⟨(r4 x hx).1, by have := (r4 x hx).2; omega⟩
  have hmod := sizeL_mod (l := L)
  by_cases hnz : ∃ c ∈ half.drop (64 + sizeL L), c ≠ 0
  ·rw [if_pos hnz]
   obtain ⟨o1, _⟩ := over_ok (n := n) (S := S) (s := ⟨k, g, 64 + sizeL L⟩) (L := L) hl hn hn2 hk (by rw [← hH, ← hhf, q2]; exact Nat.le_refl _) hg ho
   obtain ⟨S', h1, h2⟩ := o1 (by omega)
   rw [h1]
   exact ⟨S', _, L, rfl, h2, rfl, .inr rfl, by show (g + 1).toNat ≤ _; rw [UInt64.toNat_add]; show (g.toNat + 1) % 18446744073709551616 ≤ _; omega⟩
  ·rw [if_neg hnz]
   refine ⟨S, _, L, rfl, ⟨hl, hn, hn2, hk, rfl, by omega, ?_, hgp, ?_, ho⟩, rfl, .inl rfl, Nat.le_succ _⟩
   ·show halfB S (n / 2 * 64) k = headB g ++ (allB g 0 L ++ List.replicate (n / 2 * 64 - 64 - sizeL L) 0)
    rw [← hH, ← hhf, ← begF_is q2 hgp, ← r2]
    have hz : half.drop (64 + sizeL L) = List.replicate (H - 64 - sizeL L) 0 := by
     rw [List.eq_replicate_iff]
     refine ⟨by rw [List.length_drop]; omega, fun c hc => ?_⟩
     by_cases hc0 : c = 0
     ·exact hc0
     ·exact (hnz ⟨c, hc, hc0⟩).elim
    rw [← hz, ← List.drop_drop, List.take_append_drop, List.take_append_drop]
   ·show (begF (halfB S (n / 2 * 64) (1 - k))).toNat < g.toNat + (1 - k)
    rw [← hH]
    rcases Nat.le_one_iff_eq_zero_or_eq_one.1 hk with h | h
    ·rw [h] at q1 ⊢; omega
    ·rw [h]; exact q3 h
theorem begF_zeros {k : Nat} : begF (List.replicate k 0) = 0 := by
 unfold begF
 rw [List.drop_replicate, rd8_zero, if_neg (fun h => absurd h.1 (by decide))]
theorem open_new {n : Nat} (hn : 8 ≤ n) (hn2 : n ≤ 16384) : ∃ S' s', openD n (List.replicate (64 * n) 0) = (calm S', s', [], 0) ∧ LogOk n S' s' [] ∧ s'.gen = 1 := by
 have hp : (pickF (List.replicate (64 * n) 0) (n / 2 * 64)).2 = 0 := by
  unfold pickF halfB
  rw [List.drop_replicate, List.take_replicate, List.drop_replicate, List.take_replicate, begF_zeros, begF_zeros]
  rfl
 obtain ⟨S', s', L, h1, h2, h3, _, h5⟩ := open_ok (S := List.replicate (64 * n) 0) (by simp) hn hn2 (by rw [hp]; decide)
 have hL : L = [] := by
  rw [← h3]
  unfold readF
  rw [List.length_replicate, hlf_eq, if_neg (by omega), if_pos hp]
 subst hL
 refine ⟨S', s', h1, h2, ?_⟩
 rw [hp] at h5
 have := h2.gen
 have h5 : s'.gen.toNat ≤ 1 := h5
 exact UInt64.toNat_inj.1 (show s'.gen.toNat = 1 by omega)
end
end JR
end Go.Proofs.YtladpaehbolghaaGreat

namespace Go.Proofs.YtladpaehbolghaaGreat
open Go Go.RowKit K SH DK JR
section
variable {m0 m : Mem} {F : List Nat} {w0 w : World} {Es : List Ent}
theorem ok_calm {n : Nat} {S : By} (hl : S.length = 64 * n) (h1 : 1 ≤ n) (h2 : n ≤ 16384) : (calm S).ok n := ⟨h1, hl, h2, by intro x hx; cases hx⟩
theorem rdy_calm {n k : Nat} {S : By} (hl : S.length = 64 * n) (h1 : 1 ≤ n) (h2 : n ≤ 16384) : Rdy n (calm S) k := ⟨ok_calm hl h1 h2, ⟨Int.le_refl _, show (-1 : Int) ≤ 9223372036854775807 by decide⟩, Nat.zero_le _⟩
def OpenOut (m0 m : Mem) (w0 w' : World) (Es : List Ent) (b s n : Nat) (o : DS × LG × List By × Int) (v : Value) : Prop :=
 ∃ m' wv' g lv' N', (∀ k o, m k = some o → m' k = some o) ∧ v = .tuple #[.pointer (some ⟨g, 0, none⟩), .int .i64 o.2.2.2] ∧ Pcs m' N' ∧ N'.map (·.1) = o.2.2.1 ∧ St m0 m' [] w0 w' (logB g b o.2.1 lv' :: lrE lv' N' :: diskO b s n wv' o.1 :: Es)
theorem c_open {b s n : Nat} {wv : Value} {S : By} (st : St m0 m [] w0 w (diskO b s n wv (calm S) :: Es)) (hl : S.length = 64 * n) (hn : 8 ≤ n) (hn2 : n ≤ 16384) (h0 : (openD n S).2.2.2 = 0) :
  Ret Tryz.prog 60 #[.pointer (some ⟨b, 0, none⟩)] w fun v w' => OpenOut m0 m w0 w' Es b s n (openD n S) v := by
 have ok := ok_calm (n := n) hl (by omega) hn2
 have hr : Rdy n (calm S) 100000 := rdy_calm hl (by omega) hn2
 have hmm0 : ∀ k o, m k = some o → m k = some o := fun _ _ h => h
 have hop := openD.eq_1 n S
 refine ret_of Tryz.call60 Tryz.func60 rfl Tryz.ntmps60 Tryz.results60 rfl ?_
 refine wc_seq ?_
 refine wc_region ?_
 refine wl_val (v_assign' (by conv => (lhs; whnf))) rfl ?_
 refine wl_val (v_assign' (by conv => (lhs; whnf))) rfl ?_
 refine wl_nil ?_
 refine then_go ?_
 refine wc_seq ?_
 refine wc_seq ?_
 refine wc_region ?_
 refine wl_val (v_move' (by conv => (lhs; whnf))) rfl ?_
 refine wl_val (v_eq_nil (p := some ⟨b, 0, none⟩) Tryz.underlying35 rfl rfl) rfl ?_
 refine wl_val (v_move' (by conv => (lhs; whnf))) rfl ?_
 refine wl_on rfl rfl ?_
 refine wl_val (v_move' (by conv => (lhs; whnf))) rfl ?_
 refine wl_on rfl rfl ?_
 refine wl_call rfl (c_size (im_heapM _) (disk_at 0 st rfl ok)) rfl ?_
 rintro v14 w ⟨rfl, rfl⟩
 refine wl_on rfl rfl ?_
 refine wl_val (v_lss rfl rfl) rfl ?_
 refine wl_val (v_pick rfl) rfl ?_
 refine wl_nil ?_
 refine then_go ?_
 refine wc_false (congrArg Value.bool (decide_eq_false (by omega))) ?_
 refine wc_skip ?_
 refine then_go ?_
 refine wc_seq ?_
 refine wc_region ?_
 refine wl_val (v_move' (by conv => (lhs; whnf))) rfl ?_
 refine wl_call rfl (c_dump (im_heapM _) (disk_at 0 st rfl ok)) rfl ?_
 rintro v18 w ⟨t18, m1, hf1, hi1, hS⟩
 obtain ⟨m2, hmm2, hm12, st⟩ := st.absorb t18 hf1 hi1
 have hS : SlM m2 v18 1 S.length (bs S) := hS.mono hm12
 obtain ⟨sa, sc, hv18, hsc⟩ := hS.opn
 subst hv18
 refine wl_val (v_assign' (by conv => (lhs; whnf))) rfl ?_
 refine wl_nil ?_
 refine then_go ?_
 refine wc_seq ?_
 refine wc_region ?_
 refine wl_val (v_move' (by conv => (lhs; whnf))) rfl ?_
 refine wl_val (v_build (c' := #[.pointer (some ⟨b, 0, none⟩), .int .i64 0, .int .u64 0, .int .i64 0, .slice none 0 0]) [(0, .pointer (some ⟨b, 0, none⟩))] TF.z126 TF.p126 rfl ⟨0, 1, rfl, rfl, by decide, rfl⟩) rfl ?_
 refine wl_box (v := .agg #[.pointer (some ⟨b, 0, none⟩), .int .i64 0, .int .u64 0, .int .i64 0, .slice none 0 0]) rfl st rfl ?_
 intro g w st
 have st : St m0 m2 [] w0 w (logB g b ⟨0, 0, 0⟩ (.slice none 0 0) :: diskO b s n wv (calm S) :: Es) := st
 refine wl_val (v_assign' (by conv => (lhs; whnf))) rfl ?_
 refine wl_nil ?_
 refine then_go ?_
 refine wc_seq ?_
 refine wc_region ?_
 refine wl_val (v_move' (by conv => (lhs; whnf))) rfl ?_
 refine wl_call rfl (c_lsize st ok) rfl ?_
 rintro v23 w ⟨t23, rfl⟩
 have st := st.pure t23
 obtain ⟨H, hH⟩ : ∃ H, H = n / 2 * 64 := ⟨_, rfl⟩
 rw [← hH]
 refine wl_val (v_assign' (by conv => (lhs; whnf))) rfl ?_
 refine wl_nil ?_
 refine then_go ?_
 refine wc_seq ?_
 refine wc_region ?_
 refine wl_val (v_move' (by conv => (lhs; whnf))) rfl ?_
 refine wl_val (v_move' (by conv => (lhs; whnf))) rfl ?_
 refine wl_val (v_move' (by conv => (lhs; whnf))) rfl ?_
 refine wl_val (v_move' (by conv => (lhs; whnf))) rfl ?_
 refine wl_call rfl (c_pick (n := H) st.im hS (by omega) (by omega) (by omega)) rfl ?_
 rintro v29 w ⟨t29, rfl⟩
 have st := st.pure t29
 obtain ⟨q1, q2, q3⟩ := pick_le (S := S) (H := H)
 have hk := pickF_le (b := S) (n := H)
 obtain ⟨k, hke⟩ : ∃ k, k = (pickF S H).1 := ⟨_, rfl⟩
 obtain ⟨gn, hge⟩ : ∃ g, g = (pickF S H).2 := ⟨_, rfl⟩
 rw [← hH, ← hke, ← hge] at hop
 rw [← hke, ← hge] at q1 q2 q3 ⊢
 rw [← hke] at hk
 have hkl : k * H ≤ H := by rcases Nat.le_one_iff_eq_zero_or_eq_one.1 hk with h | h <;> rw [h] <;> omega
 refine wl_val (v_move' (by conv => (lhs; whnf))) rfl ?_
 refine wl_val (v_extract rfl rfl) rfl ?_
 refine wl_val (v_extract rfl rfl) rfl ?_
 refine wl_val (v_nil rfl) rfl ?_
 refine wl_val (v_fa TF.f126_1 rfl) rfl ?_
 refine wl_store1 0 st rfl TF.t3 rfl (by conv => (lhs; whnf)) rfl (by first | exact lt_ok rfl | decide | simp) ?_
 intro w st
 refine wl_val (v_nil rfl) rfl ?_
 refine wl_val (v_fa TF.f126_2 rfl) rfl ?_
 refine wl_store1 0 st rfl TF.t47 rfl (by conv => (lhs; whnf)) rfl (by first | exact lt_ok rfl | decide | simp) ?_
 intro w st
 have st : St m0 m2 [] w0 w (logB g b ⟨k, gn, 0⟩ (.slice none 0 0) :: diskO b s n wv (calm S) :: Es) := st
 refine wl_nil ?_
 refine then_go ?_
 refine wc_seq ?_
 refine wc_seq ?_
 refine wc_region ?_
 refine wl_val (v_move' (by conv => (lhs; whnf))) rfl ?_
 refine wl_val (v_nil rfl) rfl ?_
 refine wl_val (v_fa TF.f126_2 rfl) rfl ?_
 refine wl_val (v_load rfl (st.reads (v := u64 gn) 0 rfl TF.t47 rfl)) rfl ?_
 refine wl_val (v_eql64 (q := 0) rfl rfl) rfl ?_
 refine wl_nil ?_
 refine then_go ?_
 refine wc_if rfl (fun h40 => ?_) (fun h40 => ?_)
 ·refine wc_seq ?_
  refine wc_region ?_
  refine wl_val (v_move' (by conv => (lhs; whnf))) rfl ?_
  refine wl_val (v_nil rfl) rfl ?_
  refine wl_val (v_fa TF.f126_1 rfl) rfl ?_
  refine wl_store1 0 st rfl TF.t3 rfl (by conv => (lhs; whnf)) rfl (by first | exact lt_ok rfl | decide | simp) ?_
  intro w st
  have st : St m0 m2 [] w0 w (logB g b ⟨1, gn, 0⟩ (.slice none 0 0) :: diskO b s n wv (calm S) :: Es) := st
  refine wl_nil ?_
  refine then_go ?_
  refine wc_seq ?_
  refine wc_region ?_
  refine wl_val (v_move' (by conv => (lhs; whnf))) rfl ?_
  refine wl_val (v_move' (by conv => (lhs; whnf))) rfl ?_
  rw [if_pos h40] at hop
  rw [h40] at st
  refine wl_call rfl (c_over (N := []) st hr hn (Nat.le_refl _) ⟨SlM.nil, by intro x hx; cases hx⟩ (by intro x hx; cases hx) (Nat.zero_le _)) rfl ?_
  rintro v46 w ⟨m3, wv3, hmm3, rfl, hbad, hok⟩
  have hz : (overD n (calm S) ⟨1, 0, 0⟩ []).2.2 = 0 := by rw [hop] at h0; exact h0
  obtain ⟨lv', N', hP', _, hNN, st⟩ := hok hz
  refine wl_val (v_assign' (by conv => (lhs; whnf))) rfl ?_
  refine wl_val (v_assign' (by conv => (lhs; whnf))) rfl ?_
  refine wl_nil ?_
  refine then_go ?_
  refine wc_ret (then_ret ?_)
  refine ret2 rfl rfl ⟨m3, wv3, g, lv', N', fun k o h => hmm3 k o (hmm2 k o h), by rw [hop]; rfl, hP', by rw [hop]; exact hNN, by rw [hop]; exact st⟩
 ·refine wc_skip ?_
  refine then_go ?_
  refine wc_seq ?_
  rw [if_neg h40] at hop
  obtain ⟨half, hhf⟩ : ∃ half, half = halfB S H k := ⟨_, rfl⟩
  have hhl : half.length = H := by rw [hhf]; exact halfB_len hk (by omega)
  have hh : SlM m2 (.slice (sliceOff sa sc (k * H) 1) half.length (sc - k * H)) 1 half.length (bs half) := by
   have h := hS.partB (k * H) (k * H + H) (by omega) (by omega)
   rw [Nat.add_sub_cancel_left] at h
   rw [hhl]
   have e : (S.drop (k * H)).take H = half := by rw [hhf]; rfl
   rw [e, hhl] at h
   exact h
  rw [← hhf] at hop q2
  refine wc_draw TF.mixed ?_
  have st := st.pure (touch_drew _)
  refine fl_val 0 rfl (fun _ => (v_move' (by conv => (lhs; whnf)))) rfl (by kernel_rfl) ?_
  refine fl_val 1 rfl (fun _ => (v_move' (by conv => (lhs; whnf)))) rfl (by kernel_rfl) ?_
  refine fl_val 2 rfl (fun _ => (v_nil rfl)) rfl (by kernel_rfl) ?_
  refine fl_val 3 rfl (fun _ => (v_fa TF.f126_1 rfl)) rfl (by kernel_rfl) ?_
  refine fl_ld 4 rfl (v_load rfl (st.reads (v := .int .i64 k) 0 rfl TF.t3 rfl)) (by kernel_rfl) ?_
  refine fl_val 5 rfl (fun _ => (v_move' (by conv => (lhs; whnf)))) rfl (by kernel_rfl) ?_
  refine fl_val 6 rfl (fun _ => (v_mul' (c := ((k * H : Nat) : Int)) rfl rfl (Int.natCast_mul _ _).symm (by omega) (by omega))) rfl (by kernel_rfl) ?_
  refine fl_val 7 rfl (fun _ => (v_move' (by conv => (lhs; whnf)))) rfl (by kernel_rfl) ?_
  refine fl_val 8 rfl (fun _ => (v_nil rfl)) rfl (by kernel_rfl) ?_
  refine fl_val 9 rfl (fun _ => (v_fa TF.f126_1 rfl)) rfl (by kernel_rfl) ?_
  refine fl_ld 10 rfl (v_load rfl (st.reads (v := .int .i64 k) 0 rfl TF.t3 rfl)) (by kernel_rfl) ?_
  refine fl_val 11 rfl (fun _ => (v_add' (c := ((k + 1 : Nat) : Int)) rfl rfl (by omega) (by omega) (by omega))) rfl (by kernel_rfl) ?_
  refine fl_val 12 rfl (fun _ => (v_move' (by conv => (lhs; whnf)))) rfl (by kernel_rfl) ?_
  refine fl_val 13 rfl (fun _ => (v_mul' (c := ((k * H + H : Nat) : Int)) rfl rfl (by rw [Int.natCast_add, Int.natCast_add, Int.natCast_mul, Int.add_mul]; omega) (by omega) (by omega))) rfl (by kernel_rfl) ?_
  refine fl_val 14 rfl (fun _ => (v_to (v' := .slice (sliceOff sa sc (k * H) 1) half.length (sc - k * H)) (v_sls (k * H) (k * H + H) Tryz.underlying23 TF.t5 rfl ⟨_, _, rfl, rfl⟩ ⟨_, _, rfl, rfl⟩ (by omega) (by omega)) (by rw [Nat.add_sub_cancel_left, hhl]))) rfl (by kernel_rfl) ?_
  refine fl_eff1 15 [] [] (by kernel_rfl) ⟨obl_ld rfl rfl rfl (v_load rfl (st.reads (v := .int .i64 k) 0 rfl TF.t3 rfl)), obl_ld rfl rfl rfl (v_load rfl (st.reads (v := .int .i64 k) 0 rfl TF.t3 rfl)), trivial⟩ rfl ?_
  refine wl_val (v_assign' (by conv => (lhs; whnf))) rfl ?_
  refine wl_nil ⟨rfl, ?_⟩
  refine fl_nil (by kernel_rfl) trivial ?_
  refine then_go ?_
  refine wc_seq ?_
  refine wc_region ?_
  refine wl_val (v_move' (by conv => (lhs; whnf))) rfl ?_
  refine wl_val (v_move' (by conv => (lhs; whnf))) rfl ?_
  refine wl_val (v_move' (by conv => (lhs; whnf))) rfl ?_
  refine wl_val (v_nil rfl) rfl ?_
  refine wl_val (v_fa TF.f126_2 rfl) rfl ?_
  refine wl_val (v_load rfl (st.reads (v := u64 gn) 0 rfl TF.t47 rfl)) rfl ?_
  refine wl_val (v_move' (by conv => (lhs; whnf))) rfl ?_
  obtain ⟨L, hL⟩ : ∃ L, L = recs gn half := ⟨_, rfl⟩
  refine wl_call rfl (c_jread st hh (by omega) (by omega)) rfl ?_
  rintro v70 w ⟨m3, lv, N, st, hmm3, hP, hNN, rfl⟩
  obtain ⟨r1, _, _, r4⟩ := recs_there (g := gn) (f := half.length) (k := 0) (b := half.drop 64) (by rw [List.length_drop]; omega)
  have hrl : recsF gn half.length 0 (half.drop 64) = recs gn half := rfl
  rw [hrl, ← hL, List.length_drop] at r1 r4
  rw [← hL] at hNN hop ⊢
  have hLg := sizeL_ge (l := L)
  have hNL : L.length = N.length := by rw [← hNN, List.length_map]
  have st : St m0 m3 [] w0 w (logB g b ⟨k, gn, 0⟩ (.slice none 0 0) :: lrE lv N :: diskO b s n wv (calm S) :: Es) := st.perm (List.Perm.swap _ _ _)
  have hh := hh.mono hmm3
  have hmm3 : ∀ k o, m k = some o → m3 k = some o := fun k o h => hmm3 k o (hmm2 k o h)
  refine wl_val (v_move' (by conv => (lhs; whnf))) rfl ?_
  refine wl_val (v_extract rfl rfl) rfl ?_
  refine wl_val (v_extract rfl rfl) rfl ?_
  refine wl_val (v_nil rfl) rfl ?_
  refine wl_val (v_fa TF.f126_4 rfl) rfl ?_
  refine wl_store1 (v := lv) 0 st rfl TF.t41 rfl rfl (row_one (st.at (i := 1) rfl)) (lt_ok rfl) ?_
  intro w st
  have st : St m0 m3 [] w0 w (logB g b ⟨k, gn, 0⟩ lv :: lrE lv N :: diskO b s n wv (calm S) :: Es) := st
  refine wl_val (v_nil rfl) rfl ?_
  refine wl_val (v_fa TF.f126_3 rfl) rfl ?_
  refine wl_store1 (v := .int .i64 ((64 + sizeL L : Nat) : Int)) 0 st rfl TF.t3 rfl rfl rfl (lt_ok rfl) ?_
  intro w st
  have st : St m0 m3 [] w0 w (logB g b ⟨k, gn, 64 + sizeL L⟩ lv :: lrE lv N :: diskO b s n wv (calm S) :: Es) := st
  refine wl_nil ?_
  refine then_go ?_
  refine wc_seq ?_
  refine wc_seq ?_
  refine wc_region ?_
  refine wl_val (v_move' (by conv => (lhs; whnf))) rfl ?_
  refine wl_val (v_move' (by conv => (lhs; whnf))) rfl ?_
  refine wl_val (v_nil rfl) rfl ?_
  refine wl_val (v_fa TF.f126_3 rfl) rfl ?_
  refine wl_val (v_load rfl (st.reads (v := .int .i64 ((64 + sizeL L : Nat) : Int)) 0 rfl TF.t3 rfl)) rfl ?_
  refine wl_val (v_sls (64 + sizeL L) half.length Tryz.underlying23 TF.t5 rfl ⟨_, _, rfl, rfl⟩ rfl (by omega) (by omega)) rfl ?_
  refine wl_val (v_len_s Tryz.underlying23 rfl) rfl ?_
  refine wl_val (v_move' (by conv => (lhs; whnf))) rfl ?_
  refine wl_nil ?_
  refine then_go ?_
  refine wc_block ?_
  have htl := hh.tailB (64 + sizeL L) (by omega)
  obtain ⟨tl, htle⟩ : ∃ tl, tl = half.drop (64 + sizeL L) := ⟨_, rfl⟩
  have htll : tl.length = half.length - (64 + sizeL L) := by rw [htle, List.length_drop]
  rw [← htle] at htl hop
  rw [← htll] at htl ⊢
  obtain ⟨ta, tc, htv⟩ : ∃ a c, Value.slice (sliceOff (sliceOff sa sc (k * H) 1) (sc - k * H) (64 + sizeL L) 1) tl.length (sc - k * H - (64 + sizeL L)) = .slice a tl.length c := ⟨_, _, rfl⟩
  rw [htv] at htl ⊢
  refine wc_loop (S := Nat) (fun q r w' => ∃ (i : Nat), q + i = tl.length ∧ r 5 = .pointer (some ⟨g, 0, none⟩) ∧ r 82 = .slice ta tl.length tc ∧ r 83 = .int .i64 tl.length ∧ r 84 = .int .i64 i ∧ (∀ c ∈ tl.take i, c = 0) ∧ St m0 m3 [] w0 w' (logB g b ⟨k, gn, 64 + sizeL L⟩ lv :: lrE lv N :: diskO b s n wv (calm S) :: Es)) id tl.length ⟨0, by omega, rfl, rfl, rfl, rfl, by simp, st⟩ ?_
  clear st
  rintro q r w2 ⟨i, hqi, g5, g82, g83, g84, hz, st⟩
  refine wc_o 5 g5 (wc_o 82 g82 (wc_o 83 g83 (wc_o 84 g84 ?_)))
  refine wc_seq ?_
  refine wc_region ?_
  refine wl_val (v_lss rfl rfl) rfl ?_
  refine wl_nil ?_
  refine then_go ?_
  refine wc_seq ?_
  refine wc_if rfl (fun h85 => ?_) (fun h85 => ?_)
  ·refine wc_skip ?_
   refine then_go ?_
   refine wc_seq ?_
   refine wc_block ?_
   refine wc_seq ?_
   have hi : i < tl.length := by omega
   obtain ⟨tb, to, tcc, htb, _⟩ := htl.ptr1 (by omega) (by decide)
   cases htb
   refine wc_region ?_
   refine wl_val (v_ias i Tryz.underlying23 TF.t5 rfl rfl (by first | rfl | omega) (by first | omega | (dsimp only at *; omega))) rfl ?_
   refine wl_val (v_load rfl (SlM.rdB TF.t5 i htl hi st.im)) rfl ?_
   refine wl_val (v_assign' (by conv => (lhs; whnf))) rfl ?_
   refine wl_nil ?_
   refine then_go ?_
   refine wc_seq ?_
   refine wc_region ?_
   refine wl_val (v_move' (by conv => (lhs; whnf))) rfl ?_
   refine wl_val (v_neq rfl rfl) rfl ?_
   refine wl_nil ?_
   refine then_go ?_
   refine wc_if rfl (fun h89 => ?_) (fun h89 => ?_)
   ·refine wc_seq ?_
    refine wc_region ?_
    refine wl_val (v_move' (by conv => (lhs; whnf))) rfl ?_
    refine wl_val (v_move' (by conv => (lhs; whnf))) rfl ?_
    refine wl_val (v_move' (by conv => (lhs; whnf))) rfl ?_
    refine wl_val (v_nil rfl) rfl ?_
    refine wl_val (v_fa TF.f126_4 rfl) rfl ?_
    refine wl_val (v_load rfl (st.reads (v := lv) 0 rfl TF.t41 rfl)) rfl ?_
    have hnz : ∃ c ∈ tl, c ≠ 0 := ⟨tl[i], List.getElem_mem hi, fun e => h89 (by rw [e]; rfl)⟩
    rw [if_pos hnz] at hop
    have st1 := st
    obtain ⟨m4, hg4, hm4, st⟩ := st.freezeR (i := 1) rfl (by simp)
    have hNM : PcsM m4 lv N := ⟨row_SlM (m := m4) (st1.at (i := 1) rfl) hm4, hP.mono hg4.le⟩
    have st : St m0 m4 [] w0 _ (logB g b ⟨k, gn, 64 + sizeL L⟩ lv :: diskO b s n wv (calm S) :: Es) := st
    refine wl_call rfl (c_over (sl := ⟨k, gn, 64 + sizeL L⟩) st hr hn hk hNM (fun x hx => by have := (r4 x.1 (by rw [← hNN]; exact List.mem_map.2 ⟨x, hx, rfl⟩)).2; omega) (by omega)) rfl ?_
    rintro v96 w ⟨m5, wv5, hmm5, rfl, hbad, hok⟩
    rw [hNN] at hbad hok ⊢
    have hz : (overD n (calm S) ⟨k, gn, 64 + sizeL L⟩ L).2.2 = 0 := by rw [hop] at h0; exact h0
    obtain ⟨lv', N', hP', _, hNN', st⟩ := hok hz
    refine wl_val (v_assign' (by conv => (lhs; whnf))) rfl ?_
    refine wl_val (v_assign' (by conv => (lhs; whnf))) rfl ?_
    refine wl_nil ?_
    refine then_go ?_
    refine wc_ret (block_ret (then_ret (then_ret (block_ret (then_ret ?_)))))
    refine ret2 rfl rfl ⟨m5, wv5, g, lv', N', fun k o h => hmm5 k o (hg4.le k o (hmm3 k o h)), by rw [hop]; rfl, hP', by rw [hop]; exact hNN', by rw [hop]; exact st⟩
   ·refine wc_skip ?_
    refine block_go (then_go ?_)
    refine wc_region ?_
    refine wl_val (v_add' (c := ((i + 1 : Nat) : Int)) rfl rfl (by omega) (by omega) (by omega)) rfl ?_
    refine wl_val (v_move' (by conv => (lhs; whnf))) rfl ?_
    refine wl_nil ?_
    refine then_go ?_
    refine ⟨q - 1, by simp; omega, i + 1, by omega, rfl, rfl, rfl, rfl, fun c hc => ?_, st⟩
    rw [List.take_succ_eq_append_getElem hi] at hc
    rcases List.mem_append.1 hc with hc | hc
    ·exact hz c hc
    ·rw [List.mem_singleton.1 hc]
     have : tl[i].toNat = 0 := by have := Decidable.not_not.1 h89; omega
     exact UInt8.toNat_inj.1 this
  ·refine wc_exit (then_exit (then_exit (block_hit ?_)))
   refine then_go ?_
   refine wc_seq ?_
   refine wc_region ?_
   refine wl_val (v_move' (by conv => (lhs; whnf))) rfl ?_
   refine wl_val (v_assign' (by conv => (lhs; whnf))) rfl ?_
   refine wl_val (v_assign' (by conv => (lhs; whnf))) rfl ?_
   refine wl_nil ?_
   refine then_go ?_
   refine wc_ret ?_
   have hiN : i = tl.length := by omega
   subst hiN
   rw [List.take_length] at hz
   rw [if_neg (by rintro ⟨c, hc, hc0⟩; exact hc0 (hz c hc))] at hop
   refine ret2 rfl rfl ⟨m3, wv, g, lv, N, hmm3, by rw [hop]; rfl, hP, by rw [hop]; exact hNN, by rw [hop]; exact st⟩
end
end Go.Proofs.YtladpaehbolghaaGreat

namespace Go.Proofs.YtladpaehbolghaaGreat
open Go Go.RowKit K SH GC JR OS
namespace OS
abbrev Kys := List (By × By)
def Risen (M : Kys) : Prop := (M.map (·.1)).Pairwise (· < ·)
def oneS (M : Kys) (a : Ac) : Kys := M.filter (fun x => decide (x.1 < a.key)) ++ ((if a.set then [(a.key, a.data)] else []) ++ M.filter (fun x => decide (a.key < x.1)))
def doneS (M : Kys) (A : List Ac) : Kys := A.foldl oneS M
def actsOf (M : Kys) : List Ac := M.map fun x => ⟨x.1, true, x.2⟩
def anewOf (M : Kys) : List By := if M = [] then [] else [batB (actsOf M)]
def applyR (M : Kys) (R : List By) (A : List Ac) (n : Nat) : Kys × List By × Nat :=
 if chkL A ≠ 0 ∨ A = [] then (M, R, chkL A)
 else if appR R (batB A) n = 0 then (doneS M A, R ++ [batB A], 0)
 else if chkL (actsOf (doneS M A)) ≠ 0 ∨ resR (anewOf (doneS M A)) n ≠ 0 then (M, R, 13)
 else (doneS M A, anewOf (doneS M A), 0)
theorem Risen.nodup {M : Kys} (h : Risen M) : (M.map (·.1)).Nodup := h.imp fun h => by rintro rfl; exact List.lt_irrefl _ h
theorem oneS_rise {M : Kys} {a : Ac} (h : Risen M) : Risen (oneS M a) := by
 unfold Risen oneS at *
 rw [List.pairwise_map] at *
 rw [List.pairwise_append]
 refine ⟨h.sublist List.filter_sublist, ?_, ?_⟩
 ·rw [List.pairwise_append]
  refine ⟨by split <;> simp, h.sublist List.filter_sublist, fun x hx y hy => ?_⟩
  have hy := (List.mem_filter.1 hy).2
  split at hx
  ·rw [List.mem_singleton.1 hx]; exact of_decide_eq_true hy
  ·cases hx
 ·intro x hx y hy
  have hx := of_decide_eq_true (List.mem_filter.1 hx).2
  rcases List.mem_append.1 hy with hy | hy
  ·split at hy
   ·rw [List.mem_singleton.1 hy]; exact hx
   ·cases hy
  ·exact List.lt_trans hx (of_decide_eq_true (List.mem_filter.1 hy).2)
theorem ins_perm {k d : By} : ∀ {X : Kys}, (X.map (·.1)).Nodup → (insKV k d X).Perm ((k, d) :: delKV k X)
 | [], _ => List.Perm.refl _
 | x :: X, h => by
  rw [List.map_cons, List.nodup_cons] at h
  rw [insKV]
  by_cases e : x.1 = k
  ·rw [if_pos e]
   have : delKV k (x :: X) = X := by
    unfold delKV
    rw [List.filter_cons, if_neg (by simp [e])]
    exact delKV_off fun y hy q => h.1 (List.mem_map.2 ⟨y, hy, q.trans e.symm⟩)
   rw [this]
  ·rw [if_neg e]
   have : delKV k (x :: X) = x :: delKV k X := by unfold delKV; rw [List.filter_cons, if_pos (by simpa using e)]
   rw [this]
   exact ((ins_perm h.2).cons x).trans (List.Perm.swap _ _ _)
theorem two_perm {k : By} : ∀ (M : Kys), (M.filter (fun x => decide (x.1 < k)) ++ M.filter (fun x => decide (k < x.1))).Perm (delKV k M)
 | [] => List.Perm.refl _
 | x :: M => by
  have ih := two_perm (k := k) M
  unfold delKV at ih ⊢
  rw [List.filter_cons, List.filter_cons, List.filter_cons]
  by_cases h1 : x.1 < k
  ·have h2 : ¬ k < x.1 := fun h => List.lt_irrefl _ (List.lt_trans h1 h)
   have h3 : x.1 ≠ k := fun e => by rw [e] at h1; exact List.lt_irrefl _ h1
   rw [if_pos (decide_eq_true h1), if_neg (by simpa using h2), if_pos (by simpa using h3)]
   exact ih.cons x
  ·by_cases h2 : k < x.1
   ·have h3 : x.1 ≠ k := fun e => by rw [e] at h2; exact List.lt_irrefl _ h2
    rw [if_neg (by simpa using h1), if_pos (decide_eq_true h2), if_pos (by simpa using h3)]
    exact List.perm_middle.trans (ih.cons x)
   ·have h3 : x.1 = k := List.le_antisymm (List.not_lt.1 h2) (List.not_lt.1 h1)
    rw [if_neg (by simpa using h1), if_neg (by simpa using h2), if_neg (by simp [h3])]
    exact ih
theorem oneS_perm {M X : Kys} {a : Ac} (hp : M.Perm X) (hn : (X.map (·.1)).Nodup) : (oneS M a).Perm (actK X a) := by
 unfold oneS actK
 have hf : (delKV a.key M).Perm (delKV a.key X) := hp.filter _
 have h2 := (two_perm (k := a.key) M).trans hf
 split
 ·refine List.Perm.trans ?_ (ins_perm hn).symm
  exact List.perm_middle.trans (h2.cons _)
 ·rw [List.nil_append]; exact h2
theorem actK_nodup {X : Kys} {a : Ac} (h : (X.map (·.1)).Nodup) : ((actK X a).map (·.1)).Nodup := by
 unfold actK
 split
 ·exact nodup_insKV h
 ·exact nodup_delKV h
theorem doneS_rise {A : List Ac} : ∀ {M : Kys}, Risen M → Risen (doneS M A) := by
 induction A with
 | nil => intro M h; exact h
 | cons a A ih => intro M h; exact ih (oneS_rise h)
theorem doneS_perm {A : List Ac} : ∀ {M X : Kys}, M.Perm X → (X.map (·.1)).Nodup → (doneS M A).Perm (doneK X A) := by
 induction A with
 | nil => intro M X h _; exact h
 | cons a A ih => intro M X h hn; exact ih (oneS_perm h hn) (actK_nodup hn)
theorem rise_one {A B : List Ac} (hA : (A.map (·.key)).Pairwise (· < ·)) (hB : (B.map (·.key)).Pairwise (· < ·)) (hp : A.Perm B) : A = B :=
 hp.eq_of_pairwise (le := fun x y => x.key < y.key) (fun a b _ _ h1 h2 => (List.lt_irrefl _ (List.lt_trans h1 h2)).elim) (List.pairwise_map.1 hA) (List.pairwise_map.1 hB)
theorem acts_keys {M : Kys} : (actsOf M).map (·.key) = M.map (·.1) := by unfold actsOf; rw [List.map_map]; rfl
theorem whole_one {A : List AcT} {L : List (By × DV)} {M : Kys} (hA : A.Perm (L.map toAct)) (hr : (A.map (·.1.key)).Pairwise (· < ·)) (hM : Risen M) (hp : M.Perm (kvs L)) : A.map (·.1) = actsOf M := by
 refine rise_one (by rw [List.map_map]; exact hr) (by rw [acts_keys]; exact hM) ?_
 have h1 := hA.map (·.1)
 rw [List.map_map] at h1
 refine h1.trans ?_
 have h2 := (hp.map (fun x : By × By => (⟨x.1, true, x.2⟩ : Ac))).symm
 unfold kvs at h2
 rw [List.map_map] at h2
 exact h2
def bulkK (M : Kys) : Nat := (M.map fun x => x.1.length + x.2.length).sum
theorem bulk_acts {M : Kys} : bulkA (actsOf M) = bulkK M := by unfold bulkA actsOf bulkK; rw [List.map_map]; rfl
theorem bulk_filter {p : By × By → Bool} : ∀ {M : Kys}, bulkK (M.filter p) ≤ bulkK M
 | [] => by simp
 | x :: M => by
  have := bulk_filter (p := p) (M := M)
  unfold bulkK at this ⊢
  rw [List.filter_cons]
  split <;> simp <;> omega
theorem bulk_app {M N : Kys} : bulkK (M ++ N) = bulkK M + bulkK N := by simp [bulkK]
theorem bulkOne {M : Kys} {a : Ac} : bulkK (oneS M a) ≤ bulkK M + (a.key.length + a.data.length) ∧ (oneS M a).length ≤ M.length + 1 := by
 have h : (M.filter (fun x => decide (x.1 < a.key)) ++ M.filter (fun x => decide (a.key < x.1))).Perm (delKV a.key M) := two_perm M
 have h1 : bulkK (M.filter (fun x => decide (x.1 < a.key)) ++ M.filter (fun x => decide (a.key < x.1))) = bulkK (delKV a.key M) := by
  unfold bulkK
  exact (h.map _).sum_nat
 have h2 : bulkK (delKV a.key M) ≤ bulkK M := bulk_filter
 have h3 := h.length_eq
 have h4 : (delKV a.key M).length ≤ M.length := List.length_filter_le _ _
 rw [bulk_app] at h1
 rw [List.length_append] at h3
 unfold oneS
 rw [bulk_app, bulk_app, List.length_append, List.length_append]
 split
 ·simp only [bulkK, List.map_cons, List.map_nil, List.sum_cons, List.sum_nil, List.length_cons, List.length_nil] at *
  omega
 ·simp only [bulkK, List.map_nil, List.sum_nil, List.length_nil] at *
  omega
theorem bulk_done {A : List Ac} : ∀ {M : Kys}, bulkK (doneS M A) ≤ bulkK M + bulkA A ∧ (doneS M A).length ≤ M.length + A.length := by
 induction A with
 | nil => intro M; exact ⟨by simp [doneS, bulkA], by simp [doneS]⟩
 | cons a A ih =>
  intro M
  have h := ih (M := oneS M a)
  have h2 := bulkOne (M := M) (a := a)
  rw [bulk_cons, List.length_cons]
  have e : doneS M (a :: A) = doneS (oneS M a) A := rfl
  rw [e]
  omega
end OS
end Go.Proofs.YtladpaehbolghaaGreat

namespace Go.Proofs.YtladpaehbolghaaGreat
open Go Go.RowKit K SH DK JR
structure OpV where
 ag : Bool
 B : By
 bv : Value
 M : List (By × Value)
 lv : Value
def opC (o : OpV) : List Value := [.bool o.ag, o.bv, o.lv]
def OpOk (m : Mem) (o : OpV) : Prop := SlM m o.bv 1 o.B.length (bs o.B) ∧ PcsM m o.lv o.M
def OpsM (m : Mem) (v : Value) (L : List OpV) : Prop := LsM m v opC 3 L ∧ ∀ o ∈ L, OpOk m o
theorem OpsM.mono {m m' : Mem} {v : Value} {L : List OpV} (h : OpsM m v L) (hm : ∀ k o, m k = some o → m' k = some o) : OpsM m' v L := ⟨h.1.mono hm, fun o ho => ⟨(h.2 o ho).1.mono hm, (h.2 o ho).2.mono hm⟩⟩
theorem PcsM.sl {m : Mem} {v : Value} {N : List (By × Value)} (h : PcsM m v N) : ∃ a c, v = .slice a N.length c := by obtain ⟨⟨_, a, c, h, _⟩, _⟩ := h; exact ⟨a, c, h⟩
section
variable {m : Mem} {wI : World}
def ApartR (m m' : Mem) (v : Value) (N : List (By × Value)) : Prop := ∃ m1, (∀ k o, m1 k = some o → m' k = some o ∧ m k = none) ∧ SlM m1 v 1 N.length (N.map (·.2))
theorem ApartR.mono {m n m' m'' : Mem} {v : Value} {N : List (By × Value)} (h : ApartR m m' v N) (hn : ∀ k o, n k = some o → m k = some o) (hm : ∀ k o, m' k = some o → m'' k = some o) : ApartR n m'' v N := by
 obtain ⟨m1, h1, h2⟩ := h
 refine ⟨m1, fun k o hk => ⟨hm k o (h1 k o hk).1, ?_⟩, h2⟩
 cases hq : n k with
 | none => rfl
 | some q => have := hn k q hq; rw [(h1 k o hk).2] at this; cases this
theorem row_apart {m0 m m' : Mem} {w0 w : World} {Es : List Ent} {v : Value} {N : List (By × Value)} (st : St m0 m [] w0 w (lrE v N :: Es)) (hm : ∀ k o, some k = v.ownBlock → w.heap[k]? = some o → m' k = some o) : ApartR m m' v N := by
 have hown := st.own (lrE v N) (by simp)
 refine ⟨fun k => if m k = none then m' k else none, fun k o hk => ?_, row_SlM (m := fun k => if m k = none then m' k else none) (st.at (i := 0) rfl) (fun k o hk ho => ?_)⟩
 ·by_cases h : m k = none
  ·simp [h] at hk; exact ⟨hk, h⟩
  ·simp [h] at hk
 ·have h1 := (hown k (by rw [← Option.mem_toList] at *; simp [rowE, ← hk])).1
  simp [h1, hm k o hk ho]
theorem c_rappend {lv bv : Value} {N : List (By × Value)} {x : By} {n : Nat} (him : Im m wI) (hN : PcsM m lv N) (hNl : ∀ y ∈ N, y.1.length ≤ 1048576) (hNn : N.length ≤ 100000) (hx : SlM m bv 1 x.length (bs x)) (hn : n ≤ 1000000) (hn2 : 2 ≤ n) :
  Ret Tryz.prog 48 #[lv, bv, .int .i64 n] wI fun v' w' => Out m wI w' fun m' => ∃ mv, v' = .tuple #[mv, .int .i64 (appR (N.map (·.1)) x n : Nat)] ∧ PcsM m' mv (if appR (N.map (·.1)) x n = 0 then N ++ [(x, bv)] else N) ∧ (appR (N.map (·.1)) x n = 0 → ApartR m m' mv (N ++ [(x, bv)])) ∧ (appR (N.map (·.1)) x n ≠ 0 → mv = lv) := by
 have st := St.start him
 obtain ⟨la, lc, rfl⟩ := hN.sl
 obtain ⟨xa, xc, rfl, _⟩ := hx.opn
 refine ret_of Tryz.call48 Tryz.func48 rfl Tryz.ntmps48 Tryz.results48 rfl ?_
 refine wc_seq ?_
 refine wc_region ?_
 refine wl_val (v_assign' (by conv => (lhs; whnf))) rfl ?_
 refine wl_val (v_assign' (by conv => (lhs; whnf))) rfl ?_
 refine wl_nil ?_
 refine then_go ?_
 refine wc_seq ?_
 refine wc_seq ?_
 refine wc_region ?_
 refine wl_val (v_move' (by conv => (lhs; whnf))) rfl ?_
 refine wl_call rfl (c_rcheck st.im hx) rfl ?_
 rintro v11 w ⟨t11, rfl⟩
 have st := st.pure t11
 refine wl_val (v_assign' (by conv => (lhs; whnf))) rfl ?_
 refine wl_nil ?_
 refine then_go ?_
 refine wc_seq ?_
 refine wc_region ?_
 refine wl_val (v_move' (by conv => (lhs; whnf))) rfl ?_
 refine wl_val (v_neq rfl rfl) rfl ?_
 refine wl_nil ?_
 refine then_go ?_
 refine wc_cond rfl (fun h13 => ?_) (fun h13 => ?_)
 ·refine wc_seq ?_
  refine wc_region ?_
  refine wl_val (v_move' (by conv => (lhs; whnf))) rfl ?_
  refine wl_val (v_move' (by conv => (lhs; whnf))) rfl ?_
  refine wl_val (v_assign' (by conv => (lhs; whnf))) rfl ?_
  refine wl_val (v_assign' (by conv => (lhs; whnf))) rfl ?_
  refine wl_nil ?_
  refine then_go ?_
  refine wc_ret (then_ret ?_)
  have hz := of_decide_eq_true h13
  have h1 : checkE x = 1 := (checkE_or _).resolve_left fun h => hz (by rw [h]; rfl)
  have hR : appR (N.map (·.1)) x n = 1 := by unfold appR; rw [if_pos (by omega)]
  exact ret2 rfl rfl (st.out ⟨_, by rw [hR, h1]; rfl, by rw [hR, if_neg (by decide)]; exact hN, fun h => absurd (hR ▸ h) (by decide), fun _ => rfl⟩)
 ·refine wc_skip ?_
  refine then_go ?_
  refine wc_seq ?_
  refine wc_region ?_
  refine wl_val (v_assign' (by conv => (lhs; whnf))) rfl ?_
  refine wl_nil ?_
  refine then_go ?_
  refine wc_seq ?_
  have hc0 : ¬ checkE x ≠ 0 := fun h => of_decide_eq_false h13 (by omega)
  have hxm := checkE_len hc0
  have st := nilRow st 23 1
  refine wc_region ?_
  refine wl_val (v_move' (by conv => (lhs; whnf))) rfl ?_
  refine wl_val (v_move' (by conv => (lhs; whnf))) rfl ?_
  refine wl_append (news := N.map (fun y : By × Value => y.2)) (j := N.length) 0 st rfl Tryz.underlying41 Tryz.underlying41 (.inr ⟨_, rfl⟩) TF.t23 TF.z23 rfl rfl rfl (hN.1.src st.im fun u hu => by obtain ⟨y, hy, rfl⟩ := List.mem_map.1 hu; exact SlM.one1 (hN.2 y hy)) (by omega) (by omega) rfl ?_
  clear st
  intro v18 w _ st
  have st : St m m [] wI w [lrE v18 N] := by rw [Nat.zero_add, List.nil_append] at st; exact st
  refine wl_val (v_assign' (by conv => (lhs; whnf))) rfl ?_
  refine wl_nil ?_
  refine then_go ?_
  refine wc_seq ?_
  refine wc_region ?_
  refine wl_val (v_move' (by conv => (lhs; whnf))) rfl ?_
  refine wl_val (v_move' (by conv => (lhs; whnf))) rfl ?_
  refine wl_svOne (v := .slice xa x.length xc) Tryz.underlying41 TF.t23 TF.z23 rfl rfl st rfl ?_
  intro b21 w st
  refine wl_lrApp (x := x) 0 st rfl rfl rfl rfl (by omega) rfl ?_
  intro v22 w st
  obtain ⟨N1, hN1⟩ : ∃ N1, N1 = N ++ [(x, Value.slice xa x.length xc)] := ⟨_, rfl⟩
  rw [← hN1] at st
  have hP1 : Pcs m N1 := by rw [hN1]; exact Pcs.snoc hN.2 hx
  have hN1l : N1.length = N.length + 1 := by rw [hN1, List.length_append]; rfl
  have hN1x : ∀ y ∈ N1, y.1.length ≤ 1000000000 := fun y hy => by
   rw [hN1] at hy
   rcases List.mem_append.1 hy with hy | hy
   ·have := hNl y hy; omega
   ·rw [List.mem_singleton.1 hy]; show x.length ≤ _; omega
  have st0 := st
  obtain ⟨m1, hg1, hm1, st⟩ := st.freezeR (i := 0) rfl (by simp)
  have hra : ApartR m m1 v22 N1 := row_apart st0 hm1
  have hNM : PcsM m1 v22 N1 := ⟨row_SlM (m := m1) (st0.at (i := 0) rfl) hm1, hP1.mono hg1.le⟩
  have st : St m m1 [] wI w [] := st
  have hR1 : N1.map (·.1) = N.map (·.1) ++ [x] := by rw [hN1, List.map_append]; rfl
  refine wl_val (v_assign' (by conv => (lhs; whnf))) rfl ?_
  refine wl_nil ?_
  refine then_go ?_
  refine wc_seq ?_
  refine wc_seq ?_
  refine wc_region ?_
  refine wl_val (v_move' (by conv => (lhs; whnf))) rfl ?_
  refine wl_val (v_move' (by conv => (lhs; whnf))) rfl ?_
  refine wl_call rfl (c_fits st.im hNM hN1x (by omega) hn hn2) rfl ?_
  rintro v25 w ⟨t25, rfl⟩
  have st := st.pure t25
  rw [hR1]
  refine wl_val (v_not rfl) rfl ?_
  refine wl_nil ?_
  refine then_go ?_
  refine wc_cond rfl (fun h26 => ?_) (fun h26 => ?_)
  ·refine wc_seq ?_
   refine wc_region ?_
   refine wl_val (v_move' (by conv => (lhs; whnf))) rfl ?_
   refine wl_val (v_assign' (by conv => (lhs; whnf))) rfl ?_
   refine wl_val (v_assign' (by conv => (lhs; whnf))) rfl ?_
   refine wl_nil ?_
   refine then_go ?_
   refine wc_ret (then_ret ?_)
   have hR : appR (N.map (·.1)) x n = 13 := by unfold appR; rw [if_neg hc0, if_neg (by simpa using h26)]
   exact ret2 rfl rfl (st.out ⟨_, by rw [hR]; rfl, by rw [hR, if_neg (by decide)]; exact hN.mono hg1.le, fun h => absurd (hR ▸ h) (by decide), fun _ => rfl⟩)
  ·refine wc_skip ?_
   refine then_go ?_
   refine wc_seq ?_
   refine wc_region ?_
   refine wl_val (v_move' (by conv => (lhs; whnf))) rfl ?_
   refine wl_val (v_assign' (by conv => (lhs; whnf))) rfl ?_
   refine wl_val (v_assign' (by conv => (lhs; whnf))) rfl ?_
   refine wl_nil ?_
   refine then_go ?_
   refine wc_ret ?_
   have hR : appR (N.map (·.1)) x n = 0 := by unfold appR; rw [if_neg hc0, if_pos (by simpa using h26)]
   exact ret2 rfl rfl (st.out ⟨_, by rw [hR]; rfl, by rw [hR, if_pos rfl, ← hN1]; exact hNM, fun _ => by rw [← hN1]; exact hra, fun h => (h hR).elim⟩)
theorem c_rrestart {lv mv : Value} {N M : List (By × Value)} {n : Nat} (him : Im m wI) (hN : PcsM m lv N) (hM : PcsM m mv M) (hMn : M.length ≤ 1048576) (hn : n ≤ 1000000) (hn2 : 2 ≤ n) :
  Ret Tryz.prog 50 #[lv, mv, .int .i64 n] wI fun v' w' => Tch wI w' [] [] ∧ v' = .tuple #[if resR (M.map (·.1)) n = 0 then mv else lv, .int .i64 (resR (M.map (·.1)) n : Nat)] := by
 have st := St.start him
 obtain ⟨la, lc, rfl⟩ := hN.sl
 obtain ⟨na, nc, rfl⟩ := hM.sl
 refine ret_of Tryz.call50 Tryz.func50 rfl Tryz.ntmps50 Tryz.results50 rfl ?_
 refine wc_seq ?_
 refine wc_region ?_
 refine wl_val (v_assign' (by conv => (lhs; whnf))) rfl ?_
 refine wl_val (v_assign' (by conv => (lhs; whnf))) rfl ?_
 refine wl_nil ?_
 refine then_go ?_
 refine wc_seq ?_
 refine wc_seq ?_
 refine wc_region ?_
 refine wl_val (v_assign' (by conv => (lhs; whnf))) rfl ?_
 refine wl_nil ?_
 refine then_go ?_
 refine wc_block ?_
 refine wc_loop (S := Nat) (fun q r w' => ∃ (i : Nat), q + i = M.length ∧ r 0 = .slice la N.length lc ∧ r 1 = .slice na M.length nc ∧ r 2 = .int .i64 n ∧ r 8 = .int .i64 i ∧ (∀ x ∈ M.take i, ¬ checkE x.1 ≠ 0) ∧ St m m [] wI w' []) id M.length ⟨0, by omega, rfl, rfl, rfl, rfl, by simp, st⟩ ?_
 clear st
 rintro q r w2 ⟨i, hqi, g0, g1, g2, g8, hck, st⟩
 refine wc_o 0 g0 (wc_o 1 g1 (wc_o 2 g2 (wc_o 8 g8 ?_)))
 refine wc_seq ?_
 refine wc_seq ?_
 refine wc_region ?_
 refine wl_val (v_move' (by conv => (lhs; whnf))) rfl ?_
 refine wl_val (v_move' (by conv => (lhs; whnf))) rfl ?_
 refine wl_val (v_len_s Tryz.underlying41 rfl) rfl ?_
 refine wl_val (v_lss rfl rfl) rfl ?_
 refine wl_nil ?_
 refine then_go ?_
 refine wc_if rfl (fun h13 => ?_) (fun h13 => ?_)
 ·refine wc_skip ?_
  refine then_go ?_
  refine wc_seq ?_
  refine wc_block ?_
  refine wc_seq ?_
  have hi : i < M.length := by omega
  obtain ⟨nb, no, _, hnv, hsk, hrk⟩ := hM.elem hi
  cases hnv
  refine wc_region ?_
  refine wl_val (v_move' (by conv => (lhs; whnf))) rfl ?_
  refine wl_val (v_move' (by conv => (lhs; whnf))) rfl ?_
  refine wl_val (v_ias i Tryz.underlying41 TF.t23 rfl rfl (by first | rfl | omega) (by first | omega | (dsimp only at *; omega))) rfl ?_
  refine wl_val (v_load rfl (hrk st.im)) rfl ?_
  refine wl_call rfl (c_rcheck st.im hsk) rfl ?_
  rintro v20 w ⟨t20, rfl⟩
  have st := st.pure t20
  refine wl_val (v_assign' (by conv => (lhs; whnf))) rfl ?_
  refine wl_nil ?_
  refine then_go ?_
  refine wc_seq ?_
  refine wc_region ?_
  refine wl_val (v_move' (by conv => (lhs; whnf))) rfl ?_
  refine wl_val (v_neq rfl rfl) rfl ?_
  refine wl_nil ?_
  refine then_go ?_
  refine wc_cond rfl (fun h22 => ?_) (fun h22 => ?_)
  ·refine wc_seq ?_
   refine wc_region ?_
   refine wl_val (v_move' (by conv => (lhs; whnf))) rfl ?_
   refine wl_val (v_move' (by conv => (lhs; whnf))) rfl ?_
   refine wl_val (v_assign' (by conv => (lhs; whnf))) rfl ?_
   refine wl_val (v_assign' (by conv => (lhs; whnf))) rfl ?_
   refine wl_nil ?_
   refine then_go ?_
   refine wc_ret (block_ret (then_ret (then_ret (block_ret (then_ret ?_)))))
   have hz := of_decide_eq_true h22
   have h1 : checkE M[i].1 = 1 := (checkE_or _).resolve_left fun h => hz (by rw [h]; rfl)
   have hR : resR (M.map (·.1)) n = 1 := by unfold resR; rw [if_pos ⟨_, List.mem_map.2 ⟨_, List.getElem_mem hi, rfl⟩, by omega⟩]
   exact ret2 rfl rfl ⟨st.touch, by rw [hR, h1, if_neg (by decide)]; rfl⟩
  ·refine wc_skip ?_
   refine block_go (then_go ?_)
   refine wc_region ?_
   refine wl_val (v_move' (by conv => (lhs; whnf))) rfl ?_
   refine wl_val (v_add' (c := ((i + 1 : Nat) : Int)) rfl rfl (by omega) (by omega) (by omega)) rfl ?_
   refine wl_val (v_assign' (by conv => (lhs; whnf))) rfl ?_
   refine wl_nil ?_
   refine then_go ?_
   refine ⟨q - 1, by simp; omega, i + 1, by omega, rfl, rfl, rfl, rfl, fun x hx => ?_, st⟩
   rw [List.take_succ_eq_append_getElem hi] at hx
   rcases List.mem_append.1 hx with hx | hx
   ·exact hck x hx
   ·rw [List.mem_singleton.1 hx]
    exact fun h => of_decide_eq_false h22 (by omega)
 ·refine wc_exit (then_exit (then_exit (block_hit ?_)))
  refine then_go ?_
  refine wc_seq ?_
  refine wc_seq ?_
  refine wc_region ?_
  refine wl_val (v_move' (by conv => (lhs; whnf))) rfl ?_
  refine wl_val (v_move' (by conv => (lhs; whnf))) rfl ?_
  have hiN : i = M.length := by omega
  subst hiN
  rw [List.take_length] at hck
  have hnb : ¬ ∃ b ∈ M.map (·.1), checkE b ≠ 0 := by
   rintro ⟨x, hx, hz⟩
   obtain ⟨y, hy, rfl⟩ := List.mem_map.1 hx
   exact hck y hy hz
  refine wl_call rfl (c_fits st.im hM (fun x hx => by have := (checkE_len (hck x hx)).2; omega) (by omega) hn hn2) rfl ?_
  rintro v27 w ⟨t27, rfl⟩
  have st := st.pure t27
  refine wl_val (v_not rfl) rfl ?_
  refine wl_nil ?_
  refine then_go ?_
  refine wc_cond rfl (fun h28 => ?_) (fun h28 => ?_)
  ·refine wc_seq ?_
   refine wc_region ?_
   refine wl_val (v_move' (by conv => (lhs; whnf))) rfl ?_
   refine wl_val (v_assign' (by conv => (lhs; whnf))) rfl ?_
   refine wl_val (v_assign' (by conv => (lhs; whnf))) rfl ?_
   refine wl_nil ?_
   refine then_go ?_
   refine wc_ret (then_ret ?_)
   have hR : resR (M.map (·.1)) n = 13 := by unfold resR; rw [if_neg hnb, if_neg (by simpa using h28)]
   exact ret2 rfl rfl ⟨st.touch, by rw [hR, if_neg (by decide)]; rfl⟩
  ·refine wc_skip ?_
   refine then_go ?_
   refine wc_seq ?_
   refine wc_region ?_
   refine wl_val (v_move' (by conv => (lhs; whnf))) rfl ?_
   refine wl_val (v_assign' (by conv => (lhs; whnf))) rfl ?_
   refine wl_val (v_assign' (by conv => (lhs; whnf))) rfl ?_
   refine wl_nil ?_
   refine then_go ?_
   refine wc_ret ?_
   have hR : resR (M.map (·.1)) n = 0 := by unfold resR; rw [if_neg hnb, if_pos (by simpa using h28)]
   exact ret2 rfl rfl ⟨st.touch, by rw [hR, if_pos rfl]; rfl⟩
end
end Go.Proofs.YtladpaehbolghaaGreat

namespace Go.Proofs.YtladpaehbolghaaGreat
open Go Go.RowKit K SH GC JR OS
namespace OS
def plN (M : Kys) (k : By) : Nat := (M.takeWhile (fun x => decide (x.1 < k))).length
def thB (M : Kys) (k : By) : Bool := match M[plN M k]? with
 | some x => decide (x.1 = k)
 | none => false
theorem plN_le {M : Kys} {k : By} : plN M k ≤ M.length := (List.takeWhile_sublist _).length_le
theorem plN_is {k : By} : ∀ {M : Kys} {i : Nat}, (∀ x ∈ M.take i, x.1 < k) → i ≤ M.length → (∀ (h : i < M.length), ¬ M[i].1 < k) → plN M k = i
 | [], i, _, h2, _ => by simp at h2; subst h2; rfl
 | x :: M, 0, _, _, h3 => by
  have := h3 (by simp)
  unfold plN
  rw [List.takeWhile_cons, if_neg (by simpa using this)]
  rfl
 | x :: M, i + 1, h1, h2, h3 => by
  have hx : x.1 < k := h1 x (by simp)
  have := plN_is (k := k) (M := M) (i := i) (fun y hy => h1 y (by simp [hy])) (by simpa using h2) (fun h => h3 (by simpa using h))
  unfold plN at this ⊢
  rw [List.takeWhile_cons, if_pos (by simpa using hx), List.length_cons, this]
theorem pl_take {M : Kys} {k : By} (h : Risen M) : M.take (plN M k) = M.filter (fun x => decide (x.1 < k)) ∧ M.drop (plN M k + if thB M k then 1 else 0) = M.filter (fun x => decide (k < x.1)) ∧ (getKV k M).isSome = thB M k ∧ (thB M k = true → ∃ hi : plN M k < M.length, getKV k M = some M[plN M k].2) := by
 induction M with
 | nil => exact ⟨rfl, rfl, rfl, fun h => by cases h⟩
 | cons x M ih =>
  unfold Risen at h ih
  rw [List.map_cons, List.pairwise_cons] at h
  obtain ⟨h1, h2⟩ := h
  obtain ⟨i1, i2, i3, i4⟩ := ih h2
  by_cases hx : x.1 < k
  ·have e : plN (x :: M) k = plN M k + 1 := by unfold plN; rw [List.takeWhile_cons, if_pos (by simpa using hx)]; rfl
   have e2 : thB (x :: M) k = thB M k := by unfold thB; rw [e, List.getElem?_cons_succ]
   have hne : ¬ x.1 = k := fun e => by rw [e] at hx; exact List.lt_irrefl _ hx
   have hng : ¬ k < x.1 := fun h => List.lt_irrefl _ (List.lt_trans hx h)
   rw [e2, e, List.take_succ_cons, List.filter_cons, if_pos (by simpa using hx), i1, show plN M k + 1 + (if thB M k = true then 1 else 0) = plN M k + (if thB M k = true then 1 else 0) + 1 by omega, List.drop_succ_cons, i2, List.filter_cons, if_neg (by simpa using hng), getKV, if_neg hne]
   refine ⟨rfl, rfl, i3, fun h => ?_⟩
   obtain ⟨hi, hg⟩ := i4 h
   exact ⟨by simpa using hi, by rw [hg]; simp⟩
  ·have e : plN (x :: M) k = 0 := by unfold plN; rw [List.takeWhile_cons, if_neg (by simpa using hx)]; rfl
   have hgt : ∀ y ∈ M, k < y.1 := fun y hy => by
    have h3 := h1 y.1 (List.mem_map.2 ⟨y, hy, rfl⟩)
    rcases List.le_iff_lt_or_eq.1 (List.not_lt.1 hx) with h | h
    ·exact List.lt_trans h h3
    ·rw [h]; exact h3
   have f1 : M.filter (fun x => decide (x.1 < k)) = [] := List.filter_eq_nil_iff.2 fun y hy h => List.lt_irrefl _ (List.lt_trans (hgt y hy) (of_decide_eq_true h))
   have f2 : M.filter (fun x => decide (k < x.1)) = M := List.filter_eq_self.2 fun y hy => decide_eq_true (hgt y hy)
   have f3 : getKV k M = none := by
    rcases hg : getKV k M with _ | v
    ·rfl
    ·have := hgt _ ((mem_getKV (L := M) (h2.imp fun h => by rintro rfl; exact List.lt_irrefl _ h)).2 hg)
     exact (List.lt_irrefl _ this).elim
   rw [e, List.take_zero, List.filter_cons, if_neg (by simpa using hx), f1, List.filter_cons, f2, getKV]
   have e2 : thB (x :: M) k = decide (x.1 = k) := by unfold thB; rw [e]; rfl
   rw [e2]
   by_cases hk : x.1 = k
   ·rw [if_pos (by simpa using hk), if_neg (by rw [hk]; simp), if_pos hk]
    exact ⟨rfl, rfl, by simp [hk], fun _ => ⟨by simp, by simp⟩⟩
   ·have hlt : k < x.1 := (List.le_iff_lt_or_eq.1 (List.not_lt.1 hx)).resolve_right fun h => hk h.symm
    rw [if_neg (by simpa using hk), if_pos (by simpa using hlt), if_neg hk, f3]
    exact ⟨rfl, rfl, by simp [hk], fun h => absurd (of_decide_eq_true h) hk⟩
abbrev kstr (E : List (By × DV)) : List Value := E.map fun x => .string (strB x.1)
abbrev kval (E : List (By × DV)) : List Value := E.map fun x => x.2.2
def KyM (m : Mem) (kv vv : Value) (E : List (By × DV)) : Prop := SlM m kv 1 E.length (kstr E) ∧ SlM m vv 1 E.length (kval E) ∧ KvOk m E
theorem KyM.mono {m m' : Mem} {kv vv : Value} {E : List (By × DV)} (h : KyM m kv vv E) (hm : ∀ k o, m k = some o → m' k = some o) : KyM m' kv vv E := ⟨h.1.mono hm, h.2.1.mono hm, h.2.2.mono hm⟩
theorem KyM.nil {m : Mem} : KyM m (.slice none 0 0) (.slice none 0 0) [] := ⟨SlM.nil, SlM.nil, fun _ h => by cases h⟩
theorem KyM.sl {m : Mem} {kv vv : Value} {E : List (By × DV)} (h : KyM m kv vv E) : ∃ a c a' c', kv = .slice a E.length c ∧ vv = .slice a' E.length c' ∧ E.length ≤ c ∧ E.length ≤ c' := by
 obtain ⟨⟨_, a, c, h1, k1, _⟩, ⟨_, a', c', h2, k2, _⟩, _⟩ := h
 exact ⟨a, c, a', c', h1, h2, k1, k2⟩
theorem length_kvs {E : List (By × DV)} : (kvs E).length = E.length := List.length_map _
theorem kvs_at {E : List (By × DV)} {i : Nat} (h : i < E.length) : (kvs E)[i]'(by rw [length_kvs]; exact h) = (E[i].1, E[i].2.1) := by simp [kvs]
end OS
section
variable {m : Mem} {wI : World}
theorem OS.KyM.str {kv vv : Value} {E : List (By × DV)} (h : KyM m kv vv E) {i : Nat} (hi : i < E.length) : ∃ b o c, kv = .slice (some ⟨b, o, none⟩) E.length c ∧ ∀ {w : World} (_ : Im m w), Reads Tryz.prog w 9 ⟨b, o + i * 1, none⟩ (.string (strB E[i].1)) := by
 obtain ⟨b, o, c, hv, _, hr⟩ := h.1.elem Tryz.prog (i := i) hi (by omega)
 refine ⟨b, o, c, hv, fun {w} him => ?_⟩
 have := hr him (off := 0) (v' := .string (strB E[i].1)) TF.t9 (by
  have e : cellsAt (kstr E) 1 i = [.string (strB E[i].1)] := by simp [cellsAt, List.drop_eq_getElem_cons, hi]
  rw [e]
  rfl)
 simpa using this
theorem OS.KyM.val {kv vv : Value} {E : List (By × DV)} (h : KyM m kv vv E) {i : Nat} (hi : i < E.length) : ∃ b o c, vv = .slice (some ⟨b, o, none⟩) E.length c ∧ ∀ {w : World} (_ : Im m w), Reads Tryz.prog w 23 ⟨b, o + i * 1, none⟩ E[i].2.2 := by
 obtain ⟨b, o, c, hv, _, hr⟩ := h.2.1.elem Tryz.prog (i := i) hi (by omega)
 refine ⟨b, o, c, hv, fun {w} him => ?_⟩
 have := hr him (off := 0) (v' := E[i].2.2) TF.t23 (by
  have e : cellsAt (kval E) 1 i = [E[i].2.2] := by simp [cellsAt, List.drop_eq_getElem_cons, hi]
  rw [e]
  rfl)
 simpa using this
theorem c_place {kv vv : Value} {E : List (By × DV)} {k : By} (him : Im m wI) (hE : KyM m kv vv E) (hEl : E.length ≤ 1000000) :
  Ret Tryz.prog 82 #[.agg #[kv, vv], .string (strB k)] wI fun v w' => Tch wI w' [] [] ∧ v = .tuple #[.int .i64 (plN (kvs E) k : Nat), .bool (thB (kvs E) k)] := by
 have st := St.start him
 obtain ⟨ka, kc, va, vc, rfl, rfl, hkc, hvc⟩ := hE.sl
 refine ret_of Tryz.call82 Tryz.func82 rfl Tryz.ntmps82 Tryz.results82 rfl ?_
 refine wc_seq ?_
 refine wc_region ?_
 refine wl_box (v := .agg #[.slice ka E.length kc, .slice va E.length vc]) rfl st rfl ?_
 intro b2 w st
 refine wl_val (v_assign' (by conv => (lhs; whnf))) rfl ?_
 refine wl_val (v_assign' (by conv => (lhs; whnf))) rfl ?_
 refine wl_nil ?_
 refine then_go ?_
 refine wc_seq ?_
 refine wc_region ?_
 refine wl_val (v_assign' (by conv => (lhs; whnf))) rfl ?_
 refine wl_nil ?_
 refine then_go ?_
 refine wc_seq ?_
 refine wc_block ?_
 refine wc_loop (S := Nat) (fun q r w' => ∃ (i : Nat), q + i = E.length ∧ r 1 = .string (strB k) ∧ r 2 = .pointer (some ⟨b2, 0, none⟩) ∧ r 6 = .int .i64 i ∧ (∀ x ∈ (kvs E).take i, x.1 < k) ∧ St m m [] wI w' [K.blk b2 #[.slice ka E.length kc, .slice va E.length vc] 43]) id E.length ⟨0, by omega, rfl, rfl, rfl, by simp, st⟩ ?_
 clear st
 rintro q r w2 ⟨i, hqi, g1, g2, g6, hlt, st⟩
 refine wc_o 1 g1 (wc_o 2 g2 (wc_o 6 g6 ?_))
 refine wc_seq ?_
 refine wc_seq ?_
 by_cases hi : i < E.length
 ·obtain ⟨lb, lo, _, hla, hrk⟩ := hE.str hi
  cases hla
  refine wc_region ?_
  refine wl_val (v_move' (by conv => (lhs; whnf))) rfl ?_
  refine wl_val (v_fa TF.f43_0 rfl) rfl ?_
  refine wl_val (v_load rfl (st.reads 0 rfl TF.t40 rfl)) rfl ?_
  refine wl_val (v_len_s Tryz.underlying40 rfl) rfl ?_
  refine wl_val (wl_valD (v_lss rfl rfl) (q := true) (decide_eq_true (by omega))) rfl ?_
  refine wl_val (v_move' (by conv => (lhs; whnf))) rfl ?_
  refine wl_on rfl rfl ?_
  refine wl_val (v_fa TF.f43_0 rfl) rfl ?_
  refine wl_on rfl rfl ?_
  refine wl_val (v_load rfl (st.reads (v := .slice (some ⟨lb, lo, none⟩) E.length kc) 0 rfl TF.t40 rfl)) rfl ?_
  refine wl_on rfl rfl ?_
  refine wl_val (v_move' (by conv => (lhs; whnf))) rfl ?_
  refine wl_on rfl rfl ?_
  refine wl_val (v_ias i Tryz.underlying40 TF.t9 rfl rfl (by first | rfl | omega) (by first | omega | (dsimp only at *; omega))) rfl ?_
  refine wl_on rfl rfl ?_
  refine wl_val (v_load rfl (hrk st.im)) rfl ?_
  refine wl_on rfl rfl ?_
  refine wl_val (v_move' (by conv => (lhs; whnf))) rfl ?_
  refine wl_on rfl rfl ?_
  refine wl_val (v_ltStr rfl rfl) rfl ?_
  refine wl_val (v_pick rfl) rfl ?_
  refine wl_nil ?_
  refine then_go ?_
  refine wc_cond rfl (fun h20 => ?_) (fun h20 => ?_)
  ·refine wc_skip ?_
   refine then_go ?_
   refine wc_block ?_
   refine wc_region ?_
   refine wl_val (v_move' (by conv => (lhs; whnf))) rfl ?_
   refine wl_val (v_add' (c := ((i + 1 : Nat) : Int)) rfl rfl (by omega) (by omega) (by omega)) rfl ?_
   refine wl_val (v_assign' (by conv => (lhs; whnf))) rfl ?_
   refine wl_nil ?_
   refine block_go (then_go ?_)
   refine ⟨q - 1, by simp; omega, i + 1, by omega, rfl, rfl, rfl, fun x hx => ?_, st⟩
   rw [List.take_succ_eq_append_getElem (by rw [length_kvs]; exact hi)] at hx
   rcases List.mem_append.1 hx with hx | hx
   ·exact hlt x hx
   ·rw [List.mem_singleton.1 hx, kvs_at hi]
    exact of_decide_eq_true h20
  ·refine wc_exit (then_exit (then_exit (block_hit ?_)))
   refine then_go ?_
   refine wc_seq ?_
   refine wc_draw TF.mixed ?_
   have st := st.pure (touch_drew _)
   refine fl_val 0 rfl (fun _ => (v_move' (by conv => (lhs; whnf)))) rfl (by kernel_rfl) ?_
   refine fl_val 1 rfl (fun _ => (v_move' (by conv => (lhs; whnf)))) rfl (by kernel_rfl) ?_
   refine fl_val 2 rfl (fun _ => (v_fa TF.f43_0 rfl)) rfl (by kernel_rfl) ?_
   refine fl_ld 3 rfl (v_load rfl (st.reads (v := .slice (some ⟨lb, lo, none⟩) E.length kc) 0 rfl TF.t40 rfl)) (by kernel_rfl) ?_
   refine fl_val 4 rfl (fun _ => (v_len_s Tryz.underlying40 rfl)) rfl (by kernel_rfl) ?_
   refine fl_val 5 rfl (fun _ => (wl_valD (v_lss rfl rfl) (q := true) (decide_eq_true (by omega)))) rfl (by kernel_rfl) ?_
   refine fl_val 6 rfl (fun _ => (v_move' (by conv => (lhs; whnf)))) rfl (by kernel_rfl) ?_
   refine fl_on 7 rfl rfl rfl rfl (fun _ => (v_fa TF.f43_0 rfl)) rfl (by kernel_rfl) ?_
   refine fl_ond 8 rfl rfl rfl rfl (v_load rfl (st.reads (v := .slice (some ⟨lb, lo, none⟩) E.length kc) 0 rfl TF.t40 rfl)) rfl (by kernel_rfl) ?_
   refine fl_on 9 rfl rfl rfl rfl (fun _ => (v_move' (by conv => (lhs; whnf)))) rfl (by kernel_rfl) ?_
   refine fl_on 10 rfl rfl rfl rfl (fun _ => (v_ias i Tryz.underlying40 TF.t9 rfl rfl (by first | rfl | omega) (by first | omega | (dsimp only at *; omega)))) rfl (by kernel_rfl) ?_
   refine fl_ond 11 rfl rfl rfl rfl (v_load rfl (hrk st.im)) rfl (by kernel_rfl) ?_
   refine fl_on 12 rfl rfl rfl rfl (fun _ => (v_move' (by conv => (lhs; whnf)))) rfl (by kernel_rfl) ?_
   refine fl_on 13 rfl rfl rfl rfl (fun _ => (v_eqs rfl rfl)) rfl (by kernel_rfl) ?_
   refine fl_val 14 rfl (fun _ => (v_pick rfl)) rfl (by kernel_rfl) ?_
   refine fl_eff1 15 [14, 13, 12, 10, 9, 7, 5, 4, 2, 1] [11, 8, 3] (by kernel_rfl) ⟨obl_on rfl rfl rfl rfl rfl (v_load rfl (hrk st.im)), obl_on rfl rfl rfl rfl rfl (v_load rfl (st.reads (v := .slice (some ⟨lb, lo, none⟩) E.length kc) 0 rfl TF.t40 rfl)), obl_ld rfl rfl rfl (v_load rfl (st.reads (v := .slice (some ⟨lb, lo, none⟩) E.length kc) 0 rfl TF.t40 rfl)), trivial⟩ rfl ?_
   refine wl_val (v_assign' (by conv => (lhs; whnf))) rfl ?_
   refine wl_nil ⟨rfl, ?_⟩
   refine fl_eff1 16 [] [] (by kernel_rfl) ⟨obl_on rfl rfl rfl rfl rfl (v_load rfl (hrk st.im)), obl_on rfl rfl rfl rfl rfl (v_load rfl (st.reads (v := .slice (some ⟨lb, lo, none⟩) E.length kc) 0 rfl TF.t40 rfl)), obl_ld rfl rfl rfl (v_load rfl (st.reads (v := .slice (some ⟨lb, lo, none⟩) E.length kc) 0 rfl TF.t40 rfl)), trivial⟩ rfl ?_
   refine wl_val (v_assign' (by conv => (lhs; whnf))) rfl ?_
   refine wl_nil ⟨rfl, ?_⟩
   refine fl_nil (by kernel_rfl) trivial ?_
   refine then_go ?_
   refine wc_ret ?_
   have hp : plN (kvs E) k = i := plN_is hlt (by rw [length_kvs]; omega) fun h => by rw [kvs_at hi]; exact of_decide_eq_false h20
   have ht : thB (kvs E) k = decide (E[i].1 = k) := by
    unfold thB
    rw [hp, List.getElem?_eq_getElem (by rw [length_kvs]; exact hi), kvs_at hi]
   exact ret2 (v := .int .i64 i) (v' := .bool (decide (E[i].1 = k))) rfl rfl ⟨(st.keepOnly (l := []) (List.nil_sublist _)).touch, by rw [hp, ht]⟩
 ·refine wc_region ?_
  refine wl_val (v_move' (by conv => (lhs; whnf))) rfl ?_
  refine wl_val (v_fa TF.f43_0 rfl) rfl ?_
  refine wl_val (v_load rfl (st.reads 0 rfl TF.t40 rfl)) rfl ?_
  refine wl_val (v_len_s Tryz.underlying40 rfl) rfl ?_
  refine wl_val (wl_valD (v_lss rfl rfl) (q := false) (decide_eq_false (by omega))) rfl ?_
  refine wl_val (v_move' (by conv => (lhs; whnf))) rfl ?_
  refine wl_off rfl rfl rfl rfl ?_
  refine wl_off rfl rfl rfl rfl ?_
  refine wl_off rfl rfl rfl rfl ?_
  refine wl_off rfl rfl rfl rfl ?_
  refine wl_off rfl rfl rfl rfl ?_
  refine wl_off rfl rfl rfl rfl ?_
  refine wl_off rfl rfl rfl rfl ?_
  refine wl_val (v_pick rfl) rfl ?_
  refine wl_nil ?_
  refine then_go ?_
  refine wc_false rfl ?_
  refine wc_exit (then_exit (then_exit (block_hit ?_)))
  refine then_go ?_
  refine wc_seq ?_
  refine wc_draw TF.mixed ?_
  have st := st.pure (touch_drew _)
  refine fl_val 0 rfl (fun _ => (v_move' (by conv => (lhs; whnf)))) rfl (by kernel_rfl) ?_
  refine fl_val 1 rfl (fun _ => (v_move' (by conv => (lhs; whnf)))) rfl (by kernel_rfl) ?_
  refine fl_val 2 rfl (fun _ => (v_fa TF.f43_0 rfl)) rfl (by kernel_rfl) ?_
  refine fl_ld 3 rfl (v_load rfl (st.reads (v := .slice ka E.length kc) 0 rfl TF.t40 rfl)) (by kernel_rfl) ?_
  refine fl_val 4 rfl (fun _ => (v_len_s Tryz.underlying40 rfl)) rfl (by kernel_rfl) ?_
  refine fl_val 5 rfl (fun _ => (wl_valD (v_lss rfl rfl) (q := false) (decide_eq_false (by omega)))) rfl (by kernel_rfl) ?_
  refine fl_val 6 rfl (fun _ => (v_move' (by conv => (lhs; whnf)))) rfl (by kernel_rfl) ?_
  refine fl_off 7 rfl rfl rfl rfl rfl rfl (by kernel_rfl) ?_
  refine fl_offd 8 rfl rfl rfl rfl rfl rfl (by kernel_rfl) ?_
  refine fl_off 9 rfl rfl rfl rfl rfl rfl (by kernel_rfl) ?_
  refine fl_off 10 rfl rfl rfl rfl rfl rfl (by kernel_rfl) ?_
  refine fl_offd 11 rfl rfl rfl rfl rfl rfl (by kernel_rfl) ?_
  refine fl_off 12 rfl rfl rfl rfl rfl rfl (by kernel_rfl) ?_
  refine fl_off 13 rfl rfl rfl rfl rfl rfl (by kernel_rfl) ?_
  refine fl_val 14 rfl (fun _ => (v_pick rfl)) rfl (by kernel_rfl) ?_
  refine fl_eff1 15 [14, 13, 12, 10, 9, 7, 5, 4, 2, 1] [11, 8, 3] (by kernel_rfl) ⟨obl_off rfl rfl rfl rfl rfl rfl, obl_off rfl rfl rfl rfl rfl rfl, obl_ld rfl rfl rfl (v_load rfl (st.reads (v := .slice ka E.length kc) 0 rfl TF.t40 rfl)), trivial⟩ rfl ?_
  refine wl_val (v_assign' (by conv => (lhs; whnf))) rfl ?_
  refine wl_nil ⟨rfl, ?_⟩
  refine fl_eff1 16 [] [] (by kernel_rfl) ⟨obl_off rfl rfl rfl rfl rfl rfl, obl_off rfl rfl rfl rfl rfl rfl, obl_ld rfl rfl rfl (v_load rfl (st.reads (v := .slice ka E.length kc) 0 rfl TF.t40 rfl)), trivial⟩ rfl ?_
  refine wl_val (v_assign' (by conv => (lhs; whnf))) rfl ?_
  refine wl_nil ⟨rfl, ?_⟩
  refine fl_nil (by kernel_rfl) trivial ?_
  refine then_go ?_
  refine wc_ret ?_
  have hp : plN (kvs E) k = i := plN_is hlt (by rw [length_kvs]; omega) fun h => (hi (by rw [length_kvs] at h; exact h)).elim
  have ht : thB (kvs E) k = false := by
   unfold thB
   rw [hp, List.getElem?_eq_none (by rw [length_kvs]; omega)]
  exact ret2 rfl rfl ⟨(st.keepOnly (l := []) (List.nil_sublist _)).touch, by rw [hp, ht]; rfl⟩
theorem c_rget {kv vv : Value} {E : List (By × DV)} {k : By} (him : Im m wI) (hE : KyM m kv vv E) (hEl : E.length ≤ 1000000) (hr : Risen (kvs E)) :
  Ret Tryz.prog 57 #[.agg #[kv, vv], .string (strB k)] wI fun v w' => Tch wI w' [] [] ∧ ∃ u, v = .tuple #[u, .bool (getKV k (kvs E)).isSome] ∧ SlM m u 1 ((getKV k (kvs E)).getD []).length (bs ((getKV k (kvs E)).getD [])) := by
 have st := St.start him
 obtain ⟨ka, kc, va, vc, rfl, rfl, hkc, hvc⟩ := hE.sl
 obtain ⟨_, _, hs, hgt⟩ := pl_take (k := k) hr
 refine ret_of Tryz.call57 Tryz.func57 rfl Tryz.ntmps57 Tryz.results57 rfl ?_
 refine wc_seq ?_
 refine wc_region ?_
 refine wl_box (v := .agg #[.slice ka E.length kc, .slice va E.length vc]) rfl st rfl ?_
 intro b2 w st
 refine wl_val (v_assign' (by conv => (lhs; whnf))) rfl ?_
 refine wl_val (v_assign' (by conv => (lhs; whnf))) rfl ?_
 refine wl_nil ?_
 refine then_go ?_
 refine wc_seq ?_
 refine wc_region ?_
 refine wl_val (v_load rfl (st.reads (v := .agg #[.slice ka E.length kc, .slice va E.length vc]) 0 rfl TF.t43 (getV_all rfl))) rfl ?_
 refine wl_val (v_move' (by conv => (lhs; whnf))) rfl ?_
 refine wl_call rfl (c_place st.im hE hEl) rfl ?_
 rintro v11 w ⟨t11, rfl⟩
 have st := st.pure t11
 refine wl_val (v_move' (by conv => (lhs; whnf))) rfl ?_
 refine wl_val (v_extract rfl rfl) rfl ?_
 refine wl_val (v_extract rfl rfl) rfl ?_
 refine wl_val (v_assign' (by conv => (lhs; whnf))) rfl ?_
 refine wl_val (v_assign' (by conv => (lhs; whnf))) rfl ?_
 refine wl_nil ?_
 refine then_go ?_
 refine wc_seq ?_
 refine wc_seq ?_
 refine wc_region ?_
 refine wl_val (v_move' (by conv => (lhs; whnf))) rfl ?_
 refine wl_val (v_not rfl) rfl ?_
 refine wl_nil ?_
 refine then_go ?_
 refine wc_cond rfl (fun h15 => ?_) (fun h15 => ?_)
 ·refine wc_seq ?_
  refine wc_region ?_
  refine wl_val (v_assign' (by conv => (lhs; whnf))) rfl ?_
  refine wl_val (v_assign' (by conv => (lhs; whnf))) rfl ?_
  refine wl_nil ?_
  refine then_go ?_
  refine wc_ret (then_ret ?_)
  have h0 : thB (kvs E) k = false := by simpa using h15
  have hn : getKV k (kvs E) = none := Option.isNone_iff_eq_none.1 (by rw [h0] at hs; simpa using hs)
  rw [hn]
  exact ret2 rfl rfl ⟨(st.keepOnly (l := []) (List.nil_sublist _)).touch, _, rfl, SlM.nil⟩
 ·refine wc_skip ?_
  refine then_go ?_
  refine wc_seq ?_
  have h1 : thB (kvs E) k = true := by simpa using h15
  obtain ⟨hi, hg⟩ := hgt h1
  obtain ⟨i, hie⟩ : ∃ i, i = plN (kvs E) k := ⟨_, rfl⟩
  have hi' : i < E.length := by rw [hie]; rw [length_kvs] at hi; exact hi
  obtain ⟨lb, lo, _, hla, hrk⟩ := hE.val hi'
  cases hla
  have hg : getKV k (kvs E) = some E[i].2.1 := by rw [hg]; simp [kvs, hie]
  rw [hg, ← hie]
  refine wc_region ?_
  refine wl_val (v_fa TF.f43_1 rfl) rfl ?_
  refine wl_val (v_load rfl (st.reads (v := .slice (some ⟨lb, lo, none⟩) E.length vc) 0 rfl TF.t41 rfl)) rfl ?_
  refine wl_val (v_move' (by conv => (lhs; whnf))) rfl ?_
  refine wl_val (v_ias i Tryz.underlying41 TF.t23 rfl rfl (by first | rfl | omega) (by first | omega | (dsimp only at *; omega))) rfl ?_
  refine wl_val (v_load rfl (hrk st.im)) rfl ?_
  refine wl_val (v_assign' (by conv => (lhs; whnf))) rfl ?_
  refine wl_val (v_assign' (by conv => (lhs; whnf))) rfl ?_
  refine wl_nil ?_
  refine then_go ?_
  refine wc_ret ?_
  exact ret2 rfl rfl ⟨(st.keepOnly (l := []) (List.nil_sublist _)).touch, _, rfl, (hE.2.2 _ (List.getElem_mem hi')).2.2⟩
end
end Go.Proofs.YtladpaehbolghaaGreat

namespace Go.Proofs.YtladpaehbolghaaGreat
open Go Go.RowKit K SH GC JR OS
open DK hiding By
section
variable {m0 m : Mem} {F : List Nat} {w0 w : World} {Es : List Ent}
abbrev lgE (g b s n : Nat) (sl : LG) (lv wv : Value) (S : By) (N : List (By × Value)) (Es : List Ent) : List Ent := logB g b sl lv :: lrE lv N :: diskO b s n wv (calm S) :: Es
abbrev stE (sb g mb : Nat) (L : List (By × DV)) (Es : List Ent) : List Ent := K.blk sb #[.pointer (some ⟨g, 0, none⟩), .map (some mb)] 95 :: kmE mb L :: Es
def LgOut (m0 m : Mem) (w0 w' : World) (Es : List Ent) (g b s n : Nat) (sl : LG) (N : List (By × Value)) (a : Nat) (X : List By) (v : Value) : Prop :=
 ∃ m' wv' lv' N' S' sl', (∀ k o, m k = some o → m' k = some o) ∧ v = .int .i64 (a : Nat) ∧ Pcs m' N' ∧ PcsN m m' N N' ∧ N'.map (·.1) = (if a = 0 then X else N.map (·.1)) ∧ LogOk n S' sl' (N'.map (·.1)) ∧ sl'.gen.toNat ≤ sl.gen.toNat + 1 ∧ St m0 m' [] w0 w' (lgE g b s n sl' lv' wv' S' N' Es)
theorem lg_of {g b s n a : Nat} {sl sl' : LG} {N : List (By × Value)} {d : DS} {X : List By} {v : Value} {w' : World} {S' : By} (h : LogOut m0 m w0 w' Es g b s n (d, sl', ((a : Nat) : Int)) N (N.map (·.1)) X v) (hd : d = calm S') (ok : LogOk n S' sl' (if a = 0 then X else N.map (·.1))) (hg : sl'.gen.toNat ≤ sl.gen.toNat + 1) : LgOut m0 m w0 w' Es g b s n sl N a X v := by
 obtain ⟨m', wv', lv', N', hmm, hv, hP, hPn, hN, st⟩ := h
 subst hd
 have e : (if ((a : Nat) : Int) = 0 then X else N.map (·.1)) = (if a = 0 then X else N.map (·.1)) := by
  by_cases h : a = 0
  ·rw [if_pos h, if_pos (by omega)]
  ·rw [if_neg h, if_neg (by omega)]
 have hN : N'.map (·.1) = (if a = 0 then X else N.map (·.1)) := hN.trans e
 exact ⟨m', wv', lv', N', S', sl', hmm, hv, hP, hPn, hN, by rw [hN]; exact ok, hg, st⟩
theorem LgOut.drop {E : Ent} {m' : Mem} {g b s n a : Nat} {sl : LG} {N : List (By × Value)} {X : List By} {v : Value} {w' : World} (h : LgOut m0 m' w0 w' (E :: Es) g b s n sl N a X v) : LgOut m0 m' w0 w' Es g b s n sl N a X v := by
 obtain ⟨m', wv', lv', N', S', sl', hmm, hv, hP, hPn, hN, ok, hg, st⟩ := h
 exact ⟨m', wv', lv', N', S', sl', hmm, hv, hP, hPn, hN, ok, hg, st.drop 3⟩
theorem LgOut.from {m' : Mem} {g b s n a : Nat} {sl : LG} {N : List (By × Value)} {X : List By} {v : Value} {w' : World} (h : LgOut m0 m' w0 w' Es g b s n sl N a X v) (hm : ∀ k o, m k = some o → m' k = some o) : LgOut m0 m w0 w' Es g b s n sl N a X v := by
 obtain ⟨m2, wv', lv', N', S', sl', hmm, hv, hP, hPn, hN, ok, hg, st⟩ := h
 exact ⟨m2, wv', lv', N', S', sl', fun k o h => hmm k o (hm k o h), hv, hP, fun y hy => (hPn y hy).imp id fun h => h.mono hm fun _ _ h => h, hN, ok, hg, st⟩
theorem c_lrestart {g b s n : Nat} {sl : LG} {lv wv nv : Value} {S : By} {N M : List (By × Value)} (st : St m0 m [] w0 w (lgE g b s n sl lv wv S N Es)) (ok : LogOk n S sl (N.map (·.1))) (hg : sl.gen.toNat + 1 < 18446744073709551616) (hP : Pcs m N) (hM : PcsM m nv M) (hMn : M.length ≤ 1048576) :
  Ret Tryz.prog 78 #[.pointer (some ⟨g, 0, none⟩), nv] w fun v w' => LgOut m0 m w0 w' Es g b s n sl N (resR (M.map (·.1)) n) (M.map (·.1)) v := by
 obtain ⟨S', sl', hr, ok', hg'⟩ := ok.res hg (M := M.map (·.1))
 refine (c_restart st (rdy_calm ok.len (by have := ok.n8; omega) ok.nle) hP ok.n8 ok.half hM hMn).mono fun v w' h => ?_
 rw [hr] at h
 refine lg_of h rfl ok' ?_
 rw [hg']
 split
 ·rw [UInt64.toNat_add, show (1 : UInt64).toNat = 1 from rfl]; omega
 ·omega
theorem c_lappend {g b s n : Nat} {sl : LG} {lv wv bv : Value} {S : By} {N : List (By × Value)} {x : By} (st : St m0 m [] w0 w (lgE g b s n sl lv wv S N Es)) (ok : LogOk n S sl (N.map (·.1))) (hP : Pcs m N) (hx : SlM m bv 1 x.length (bs x)) :
  Ret Tryz.prog 51 #[.pointer (some ⟨g, 0, none⟩), bv] w fun v w' => LgOut m0 m w0 w' Es g b s n sl N (appR (N.map (·.1)) x n) (N.map (·.1) ++ [x]) v := by
 obtain ⟨S', sl', hr, ok', hg', hh'⟩ := ok.app (x := x)
 have hl := sizeL_ge (l := N.map (·.1))
 have h1 := ok.fit
 have h2 := ok.nle
 rw [List.length_map] at hl
 refine (c_append st (rdy_calm ok.len (by have := ok.n8; omega) ok.nle) hP hx ok.half (by rw [ok.fin]; exact ok.fit) (by omega)).mono fun v w' h => ?_
 rw [hr] at h
 exact lg_of h rfl ok' (by rw [hg']; omega)
theorem c_kclone {mb : Nat} {L : List (By × DV)} (i : Nat) (st : St m0 m F w0 w Es) (hi : Es[i]? = some (kmE mb L)) :
  Ret Tryz.prog 77 #[.map (some mb)] w fun v w' => ∃ mc, v = .map (some mc) ∧ St m0 m F w0 w' (kmE mc L :: Es) := by
 obtain ⟨es, cl, hb, he⟩ := st.at hi
 exact ⟨Tryz.call77, Calls.mono (AnyW.maps_Clone cloneMap mb es cl w hb) fun e w' ⟨he, hw⟩ => ⟨_, he, _, rfl, hw ▸ mapE_copy (b' := 0) st hi hb⟩⟩
def OS.overN (M : Kys) (n : Nat) : Nat := if chkL (actsOf M) ≠ 0 ∨ resR (anewOf M) n ≠ 0 then 13 else 0
theorem c_sover {sb mb g b s n : Nat} {sl : LG} {lv wv v : Value} {S : By} {N : List (By × Value)} {L : List (By × DV)} {A : List AcT} {M : Kys}
  (st : St m0 m [] w0 w (lgE g b s n sl lv wv S N (stE sb g mb L Es))) (ok : LogOk n S sl (N.map (·.1))) (hg : sl.gen.toNat + 1 < 18446744073709551616) (hP : Pcs m N) (hL : KvOk m L) (hM : Risen M) (hp : M.Perm (kvs L)) (hA : AcsM m v A) (hok : okL (A.map (·.1))) (hn : L.length ≤ 100000) (hb : bulkK M + bulkA (A.map (·.1)) ≤ 1000000000) :
  Ret Tryz.prog 52 #[.pointer (some ⟨sb, 0, none⟩), v] w fun v' w' => LgOut m0 m w0 w' (stE sb g mb L Es) g b s n sl N (overN (doneS M (A.map (·.1))) n) (anewOf (doneS M (A.map (·.1)))) v' := by
 obtain ⟨M1, hM1⟩ : ∃ M1, M1 = doneS M (A.map (·.1)) := ⟨_, rfl⟩
 rw [← hM1]
 have hAl : A.length ≤ 4096 := by have := hok.1; simpa using this
 have hMl : M.length = L.length := by have := hp.length_eq; simpa using this
 have hr1 : Risen M1 := by rw [hM1]; exact doneS_rise hM
 obtain ⟨hb1, hl1⟩ := bulk_done (M := M) (A := A.map (·.1))
 rw [← hM1] at hb1 hl1
 rw [List.length_map] at hl1
 have hnd : ((kvs L).map (·.1)).Nodup := (hp.map (·.1)).nodup hM.nodup
 have h8 := ok.n8
 refine ret_of Tryz.call52 Tryz.func52 rfl Tryz.ntmps52 Tryz.results52 rfl ?_
 refine wc_seq ?_
 refine wc_region ?_
 refine wl_val (v_assign' (by conv => (lhs; whnf))) rfl ?_
 refine wl_nil ?_
 refine then_go ?_
 refine wc_seq ?_
 refine wc_region ?_
 refine wl_val (v_move' (by conv => (lhs; whnf))) rfl ?_
 refine wl_val (v_nil rfl) rfl ?_
 refine wl_val (v_fa TF.f95_1 rfl) rfl ?_
 refine wl_val (v_load rfl (st.reads (v := .map (some mb)) 3 rfl TF.t93 rfl)) rfl ?_
 refine wl_call rfl (c_kclone 4 st rfl) rfl ?_
 rintro v12 w ⟨mc, rfl, st⟩
 refine wl_val (v_assign' (by conv => (lhs; whnf))) rfl ?_
 refine wl_nil ?_
 refine then_go ?_
 refine wc_seq ?_
 refine wc_region ?_
 refine wl_val (v_move' (by conv => (lhs; whnf))) rfl ?_
 refine wl_val (v_move' (by conv => (lhs; whnf))) rfl ?_
 refine wl_call rfl (c_done st hA (fun a ha => hok.2.1 _ (List.mem_map.2 ⟨a, ha, rfl⟩)) hL (by omega)) rfl ?_
 rintro v15 w ⟨m1, L1, hmm1, hL1, _, hK1, st⟩
 have hpm : M1.Perm (kvs L1) := by rw [hM1, hK1]; exact doneS_perm hp hnd
 have hL1l : L1.length = M1.length := by have := hpm.length_eq; simpa using this.symm
 refine wl_nil ?_
 refine then_go ?_
 refine wc_seq ?_
 refine wc_region ?_
 refine wl_val (v_move' (by conv => (lhs; whnf))) rfl ?_
 refine wl_call rfl (c_swhole st hL1 (by omega)) rfl ?_
 rintro v17 w ⟨A1, hp1, hrs, st⟩
 have hAM : A1.map (·.1) = actsOf M1 := whole_one hp1 hrs hr1 hpm
 have hA1l : A1.length = M1.length := by have := congrArg List.length hAM; simpa [actsOf] using this
 have hao : ∀ a ∈ A1, AcOk m1 a.1 a.2 := fun a ha => by
  obtain ⟨z, hz, rfl⟩ := List.mem_map.1 (hp1.mem_iff.1 ha)
  obtain ⟨h1, h2, h3⟩ := hL1 z hz
  exact ⟨by show z.1.length ≤ _; omega, h3⟩
 obtain ⟨la, lc, hv17⟩ := row_sl (st.at (i := 0) rfl)
 subst hv17
 refine wl_val (v_assign' (by conv => (lhs; whnf))) rfl ?_
 refine wl_nil ?_
 refine then_go ?_
 refine wc_seq ?_
 refine wc_seq ?_
 refine wc_region ?_
 refine wl_val (v_move' (by conv => (lhs; whnf))) rfl ?_
 refine wl_val (v_len_s Tryz.underlying22 rfl) rfl ?_
 refine wl_val (v_eql rfl rfl) rfl ?_
 refine wl_nil ?_
 refine then_go ?_
 refine wc_cond rfl (fun h20 => ?_) (fun h20 => ?_)
 ·refine wc_seq ?_
  refine wc_region ?_
  refine wl_val (v_move' (by conv => (lhs; whnf))) rfl ?_
  refine wl_val (v_nil rfl) rfl ?_
  refine wl_val (v_fa TF.f95_0 rfl) rfl ?_
  refine wl_val (v_load rfl (st.reads (v := .pointer (some ⟨g, 0, none⟩)) 5 rfl TF.t92 rfl)) rfl ?_
  have hM0 : M1 = [] := by have := of_decide_eq_true h20; exact List.eq_nil_of_length_eq_zero (by omega)
  have st : St m0 m1 [] w0 w (lgE g b s n sl lv wv S N (stE sb g mb L Es)) := (st.drop 0).drop 0
  refine wl_call rfl (c_lrestart st ok hg (hP.mono hmm1) (M := []) ⟨SlM.nil, by simp⟩ (by simp)) rfl ?_
  intro v25 w ho
  refine wl_val (v_assign' (by conv => (lhs; whnf))) rfl ?_
  refine wl_nil ?_
  refine then_go ?_
  refine wc_ret (then_ret ?_)
  refine ret1 rfl ?_
  have e1 : anewOf M1 = [] := by unfold anewOf; rw [if_pos hM0]
  have e2 : overN M1 n = resR [] n := by
   have h3 : resR [] n = 0 := by unfold resR; rw [if_neg (by simp), if_pos (by simp [sizeL])]
   unfold overN
   rw [e1, h3, hM0, if_neg]
   rintro (h | h)
   ·exact h (by unfold chkL; rw [if_pos ⟨by simp [actsOf], by simp [actsOf], by simp [actsOf]⟩])
   ·exact h rfl
  rw [e1, e2]
  exact ho.from hmm1
 ·refine wc_skip ?_
  refine then_go ?_
  refine wc_seq ?_
  have hM0 : M1 ≠ [] := fun e => by have := of_decide_eq_false h20; rw [e] at hA1l; exact this (by rw [hA1l]; rfl)
  obtain ⟨m2, hg2, hls, st⟩ := st.keepLs (i := 0) rfl (fun _ _ => rfl)
  have hA1 : AcsM m2 (.slice la A1.length lc) A1 := ⟨hls, fun a ha => (hao a ha).mono hg2.le⟩
  refine wc_region ?_
  refine wl_val (v_move' (by conv => (lhs; whnf))) rfl ?_
  refine wl_call rfl (c_batch st hA1 (by omega) (by rw [hAM, bulk_acts]; omega)) rfl ?_
  rintro v27 w ⟨m3, hmm3, st⟩
  rw [hAM] at st
  have hA1 := hA1.mono hmm3
  have hmm13 : ∀ k o, m k = some o → m3 k = some o := fun k o h => hmm3 k o (hg2.le k o (hmm1 k o h))
  have ean : anewOf M1 = [batB (actsOf M1)] := by unfold anewOf; rw [if_neg hM0]
  refine wl_val (v_assign' (by conv => (lhs; whnf))) rfl ?_
  refine wl_nil ?_
  refine then_go ?_
  refine wc_seq ?_
  refine wc_seq ?_
  by_cases hck : checkE (batB (actsOf M1)) ≠ 0
  ·refine wc_region ?_
   refine wl_val (v_move' (by conv => (lhs; whnf))) rfl ?_
   refine wl_call rfl (c_jcheck (im_heapM _) (byE_SlM st 0 rfl)) rfl ?_
   rintro v29 w ⟨t29, rfl⟩
   have st := st.pure t29
   have hcq : (if 1 ≤ (batB (actsOf M1)).length ∧ (batB (actsOf M1)).length ≤ 1048576 then (0 : Int) else 1) = ((checkE (batB (actsOf M1)) : Nat) : Int) := by unfold checkE; split <;> rfl
   rw [hcq]
   refine wl_val (v_neqT (by omega) rfl rfl) rfl ?_
   refine wl_val (v_move' (by conv => (lhs; whnf))) rfl ?_
   refine wl_off rfl rfl rfl rfl ?_
   refine wl_off rfl rfl rfl rfl ?_
   refine wl_off rfl rfl rfl rfl ?_
   refine wl_val (v_pick rfl) rfl ?_
   refine wl_nil ?_
   refine then_go ?_
   refine wc_true rfl ?_
   refine wc_seq ?_
   refine wc_region ?_
   refine wl_val (v_assign' (by conv => (lhs; whnf))) rfl ?_
   refine wl_nil ?_
   refine then_go ?_
   refine wc_ret (then_ret ?_)
   have e2 : overN M1 n = 13 := by
    unfold overN
    have h : resR (anewOf M1) n ≠ 0 := by
     rw [ean]
     unfold resR
     rw [if_pos ⟨_, List.mem_singleton.2 rfl, hck⟩]
     decide
    rw [if_pos (.inr h)]
   refine ret1 (v := .int .i64 13) rfl ?_
   rw [e2]
   exact ⟨m3, wv, lv, N, S, sl, hmm13, rfl, hP.mono hmm13, .refl, by rw [if_neg (by decide)], ok, by omega, (st.drop 0).drop 0⟩
  ·refine wc_region ?_
   refine wl_val (v_move' (by conv => (lhs; whnf))) rfl ?_
   refine wl_call rfl (c_jcheck (im_heapM _) (byE_SlM st 0 rfl)) rfl ?_
   rintro v29 w ⟨t29, rfl⟩
   have st := st.pure t29
   have hcq : (if 1 ≤ (batB (actsOf M1)).length ∧ (batB (actsOf M1)).length ≤ 1048576 then (0 : Int) else 1) = ((checkE (batB (actsOf M1)) : Nat) : Int) := by unfold checkE; split <;> rfl
   rw [hcq]
   refine wl_val (v_neqF (by omega) rfl rfl) rfl ?_
   refine wl_val (v_move' (by conv => (lhs; whnf))) rfl ?_
   refine wl_on rfl rfl ?_
   refine wl_val (v_move' (by conv => (lhs; whnf))) rfl ?_
   have hAk : A1.length ≤ 1099511627776 := by omega
   have hcall := c_chk st.im hA1 hAk
   refine wl_on rfl rfl ?_
   refine wl_call rfl hcall rfl ?_
   rintro v33 w ⟨t33, rfl⟩
   have st := st.pure t33
   rw [hAM]
   refine wl_on rfl rfl ?_
   refine wl_val (v_neq rfl rfl) rfl ?_
   refine wl_val (v_pick rfl) rfl ?_
   refine wl_nil ?_
   refine then_go ?_
   refine wc_cond rfl (fun h35 => ?_) (fun h35 => ?_)
   ·refine wc_seq ?_
    refine wc_region ?_
    refine wl_val (v_assign' (by conv => (lhs; whnf))) rfl ?_
    refine wl_nil ?_
    refine then_go ?_
    refine wc_ret (then_ret ?_)
    have hz := of_decide_eq_true h35
    have e2 : overN M1 n = 13 := by
     unfold overN
     rw [if_pos (.inl (by omega))]
    refine ret1 (v := .int .i64 13) rfl ?_
    rw [e2]
    exact ⟨m3, wv, lv, N, S, sl, hmm13, rfl, hP.mono hmm13, .refl, by rw [if_neg (by decide)], ok, by omega, (st.drop 0).drop 0⟩
   ·refine wc_skip ?_
    refine then_go ?_
    refine wc_seq ?_
    refine wc_region ?_
    refine wl_val (v_move' (by conv => (lhs; whnf))) rfl ?_
    refine wl_val (v_nil rfl) rfl ?_
    refine wl_val (v_fa TF.f95_0 rfl) rfl ?_
    refine wl_val (v_load rfl (st.reads (v := .pointer (some ⟨g, 0, none⟩)) 5 rfl TF.t92 rfl)) rfl ?_
    refine wl_val (v_move' (by conv => (lhs; whnf))) rfl ?_
    have ho := byE_one st 0 rfl
    have st : St m0 m3 [] w0 w (byE v27 (batB (actsOf M1)) :: kmE mc L1 :: lgE g b s n sl lv wv S N (stE sb g mb L Es)) := st
    obtain ⟨m4, hg4, hm4, st2⟩ := st.freezeR (i := 0) rfl (by simp)
    have hx : SlM m4 v27 1 (batB (actsOf M1)).length (bs (batB (actsOf M1))) := row_SlM (m := m4) (st.at (i := 0) rfl) hm4
    have st : St m0 m4 [] w0 w (kmE mc L1 :: lgE g b s n sl lv wv S N (stE sb g mb L Es)) := st2
    refine wl_svOne (v := v27) Tryz.underlying41 TF.t23 TF.z23 ho rfl st rfl ?_
    intro b41 w st
    have st := st.rowShut 0 (b := b41) (k := 1) (cap := 1) (size := 1) (xs := [v27]) rfl (by omega) rfl (by omega) rfl
    have hP1 : Pcs m4 [(batB (actsOf M1), v27)] := fun y hy => by rw [List.mem_singleton.1 hy]; exact hx
    obtain ⟨m5, hg5, hm5, st5⟩ := st.freezeR (i := 0) rfl (by simp)
    have hrow : SlM m5 (.slice (some ⟨b41, 0, none⟩) 1 1) 1 1 [v27] := row_SlM (m := m5) (st.at (i := 0) rfl) hm5
    have st := st5
    have hmm15 : ∀ k o, m k = some o → m5 k = some o := fun k o h => hg5.le k o (hg4.le k o (hmm13 k o h))
    have hPM : PcsM m5 (.slice (some ⟨b41, 0, none⟩) 1 1) [(batB (actsOf M1), v27)] := ⟨hrow, hP1.mono hg5.le⟩
    have st : St m0 m5 [] w0 w (lgE g b s n sl lv wv S N (stE sb g mb L Es)) := st.drop 0
    refine wl_call rfl (c_lrestart st ok hg (hP.mono hmm15) hPM (by simp)) rfl ?_
    intro v42 w ho
    refine wl_val (v_assign' (by conv => (lhs; whnf))) rfl ?_
    refine wl_nil ?_
    refine then_go ?_
    refine wc_ret ?_
    refine ret1 rfl ?_
    have hz := of_decide_eq_false h35
    have e2 : overN M1 n = if resR (anewOf M1) n = 0 then 0 else 13 := by
     unfold overN
     by_cases h : resR (anewOf M1) n = 0
     ·rw [if_pos h, if_neg (by omega)]
     ·rw [if_neg h, if_pos (.inr h)]
    have e3 : resR (anewOf M1) n = 0 ∨ resR (anewOf M1) n = 13 := by
     rw [ean]
     unfold resR
     rw [if_neg (by rintro ⟨y, hy, hc⟩; rw [List.mem_singleton.1 hy] at hc; exact hck hc)]
     split
     ·exact .inl rfl
     ·exact .inr rfl
    have e4 : overN M1 n = resR (anewOf M1) n := by rcases e3 with e | e <;> rw [e2, e] <;> rfl
    rw [e4]
    have ho := ho.from hmm15
    rw [ean]
    exact ho
end
end Go.Proofs.YtladpaehbolghaaGreat

namespace Go.Proofs.YtladpaehbolghaaGreat
open Go Go.RowKit K SH GC JR OS
open DK hiding By
section
variable {m0 m : Mem} {F : List Nat} {w0 w : World} {Es : List Ent}
theorem OS.KvN.trans {m m1 m2 : Mem} {L L1 L2 : List (By × DV)} (h1 : KvN m m1 L L1) (h2 : KvN m1 m2 L1 L2) (hm : ∀ k o, m k = some o → m1 k = some o) (hm2 : ∀ k o, m1 k = some o → m2 k = some o) : KvN m m2 L L2 := fun x hx => (h2 x hx).elim (fun h => (h1 x h).imp id fun h => h.mono (fun _ _ h => h) hm2) fun h => .inr (h.mono hm fun _ _ h => h)
theorem PcsN.trans' {m m1 m2 : Mem} {L L1 L2 : List (By × Value)} (h1 : PcsN m m1 L L1) (h2 : PcsN m1 m2 L1 L2) (hm : ∀ k o, m k = some o → m1 k = some o) (hm2 : ∀ k o, m1 k = some o → m2 k = some o) : PcsN m m2 L L2 := fun x hx => (h2 x hx).elim (fun h => (h1 x h).imp id fun h => h.mono (fun _ _ h => h) hm2) fun h => .inr (h.mono hm fun _ _ h => h)
def StOut (m0 m : Mem) (w0 w' : World) (Es : List Ent) (sb mb g b s n : Nat) (sl : LG) (N : List (By × Value)) (L : List (By × DV)) (o : Kys × List By × Nat) (v : Value) : Prop :=
 ∃ m' wv' lv' N' S' sl' L', (∀ k o, m k = some o → m' k = some o) ∧ v = .int .i64 (o.2.2 : Nat) ∧ Pcs m' N' ∧ PcsN m m' N N' ∧ N'.map (·.1) = o.2.1 ∧ LogOk n S' sl' (N'.map (·.1)) ∧ sl'.gen.toNat ≤ sl.gen.toNat + 2 ∧ KvOk m' L' ∧ KvN m m' L L' ∧ o.1.Perm (kvs L') ∧ St m0 m' [] w0 w' (lgE g b s n sl' lv' wv' S' N' (stE sb g mb L' Es))
theorem appR_or {R : List By} {x : By} {n : Nat} : appR R x n = 0 ∨ appR R x n = 1 ∨ appR R x n = 13 := by
 unfold appR
 split
 ·exact .inr (.inl rfl)
 ·split
  ·exact .inl rfl
  ·exact .inr (.inr rfl)
theorem c_sapply {sb mb g b s n : Nat} {sl : LG} {lv wv v : Value} {S : By} {N : List (By × Value)} {L : List (By × DV)} {A : List AcT} {M : Kys}
  (st : St m0 m [] w0 w (lgE g b s n sl lv wv S N (stE sb g mb L Es))) (ok : LogOk n S sl (N.map (·.1))) (hg : sl.gen.toNat + 2 < 18446744073709551616) (hP : Pcs m N) (hL : KvOk m L) (hM : Risen M) (hp : M.Perm (kvs L)) (hA : AcsM m v A) (hAl : A.length ≤ 1000000) (hn : L.length ≤ 100000) (hb : bulkK M + bulkA (A.map (·.1)) ≤ 1000000000) :
  Ret Tryz.prog 22 #[.pointer (some ⟨sb, 0, none⟩), v] w fun v' w' => StOut m0 m w0 w' Es sb mb g b s n sl N L (applyR M (N.map (·.1)) (A.map (·.1)) n) v' := by
 have hmm0 : ∀ k o, m k = some o → m k = some o := fun _ _ h => h
 obtain ⟨la, lc, rfl⟩ := hA.1.sl
 have hnd : ((kvs L).map (·.1)).Nodup := (hp.map (·.1)).nodup hM.nodup
 refine ret_of Tryz.call22 Tryz.func22 rfl Tryz.ntmps22 Tryz.results22 rfl ?_
 refine wc_seq ?_
 refine wc_region ?_
 refine wl_val (v_assign' (by conv => (lhs; whnf))) rfl ?_
 refine wl_nil ?_
 refine then_go ?_
 refine wc_seq ?_
 refine wc_seq ?_
 refine wc_region ?_
 refine wl_val (v_move' (by conv => (lhs; whnf))) rfl ?_
 refine wl_call rfl (c_chk st.im hA (by omega)) rfl ?_
 rintro v8 w ⟨t8, rfl⟩
 have st := st.pure t8
 refine wl_val (v_assign' (by conv => (lhs; whnf))) rfl ?_
 refine wl_nil ?_
 refine then_go ?_
 refine wc_seq ?_
 refine wc_region ?_
 refine wl_val (v_move' (by conv => (lhs; whnf))) rfl ?_
 refine wl_val (v_neq rfl rfl) rfl ?_
 refine wl_val (v_move' (by conv => (lhs; whnf))) rfl ?_
 refine wl_valg rfl rfl (fun e => (v_move' (by conv => (lhs; whnf)))) rfl ?_
 refine wl_valg rfl rfl (fun e => (v_len_s Tryz.underlying22 (by first | rfl | exact gx e rfl))) rfl ?_
 refine wl_valg rfl rfl (fun e => (v_eql (by first | rfl | exact gx e rfl) (by first | rfl | exact gx e rfl))) rfl ?_
 refine wl_val (v_pickO rfl rfl rfl) rfl ?_
 refine wl_nil ?_
 refine then_go ?_
 refine wc_cond rfl (fun h15 => ?_) (fun h15 => ?_)
 ·refine wc_seq ?_
  refine wc_region ?_
  refine wl_val (v_move' (by conv => (lhs; whnf))) rfl ?_
  refine wl_val (v_assign' (by conv => (lhs; whnf))) rfl ?_
  refine wl_nil ?_
  refine then_go ?_
  refine wc_ret (then_ret ?_)
  have h : chkL (A.map (·.1)) ≠ 0 ∨ A.map (·.1) = [] := by
   rcases (Bool.or_eq_true _ _).mp h15 with h | h
   ·have := of_decide_eq_true h; exact .inl (by omega)
   ·have := of_decide_eq_true h; exact .inr (by rw [List.eq_nil_of_length_eq_zero (l := A) (by omega)]; rfl)
  refine ret1 (v := .int .i64 (chkL (A.map (·.1)) : Nat)) rfl ?_
  unfold applyR
  rw [if_pos h]
  exact ⟨m, wv, lv, N, S, sl, L, hmm0, rfl, hP, .refl, rfl, ok, by omega, hL, .refl, hp, st⟩
 ·refine wc_skip ?_
  refine then_go ?_
  refine wc_seq ?_
  have h2 := (Bool.or_eq_false_iff.mp h15)
  have hc0 : chkL (A.map (·.1)) = 0 := by have := of_decide_eq_false h2.1; omega
  have hok : okL (A.map (·.1)) := by
   unfold chkL at hc0
   split at hc0
   ·assumption
   ·cases hc0
  have hA0 : ¬ (chkL (A.map (·.1)) ≠ 0 ∨ A.map (·.1) = []) := by
   rintro (h | h)
   ·exact h hc0
   ·exact of_decide_eq_false h2.2 (by rw [List.map_eq_nil_iff.1 h]; rfl)
  refine wc_draw TF.mixed ?_
  have st := st.pure (touch_drew _)
  refine fl_val 0 rfl (fun _ => (v_move' (by conv => (lhs; whnf)))) rfl (by kernel_rfl) ?_
  refine fl_val 1 rfl (fun _ => (v_nil rfl)) rfl (by kernel_rfl) ?_
  refine fl_val 2 rfl (fun _ => (v_fa TF.f95_0 rfl)) rfl (by kernel_rfl) ?_
  refine fl_ld 3 rfl (v_load rfl (st.reads (v := .pointer (some ⟨g, 0, none⟩)) 3 rfl TF.t92 rfl)) (by kernel_rfl) ?_
  refine fl_val 4 rfl (fun _ => (v_move' (by conv => (lhs; whnf)))) rfl (by kernel_rfl) ?_
  refine fl_eff1 5 [2, 1, 0] [3] (by kernel_rfl) ⟨obl_ld rfl rfl rfl (v_load rfl (st.reads (v := .pointer (some ⟨g, 0, none⟩)) 3 rfl TF.t92 rfl)), trivial⟩ rfl ?_
  refine wl_call rfl (c_batch st hA (by omega) (by omega)) rfl ?_
  rintro v22 w ⟨m1, hmm1, st⟩
  obtain ⟨m2, hg2, hm2, st2⟩ := st.freezeR (i := 0) rfl (by simp)
  have hx : SlM m2 v22 1 (batB (A.map (·.1))).length (bs (batB (A.map (·.1)))) := row_SlM (m := m2) (st.at (i := 0) rfl) hm2
  have st : St m0 m2 [] w0 w (lgE g b s n sl lv wv S N (stE sb g mb L Es)) := st2
  have hmm2 : ∀ k o, m k = some o → m2 k = some o := fun k o h => hg2.le k o (hmm1 k o h)
  refine wl_nil ⟨rfl, ?_⟩
  refine fl_eff1 6 [2, 1, 0] [] (by kernel_rfl) ⟨obl_ld rfl rfl rfl (v_load rfl (st.reads (v := .pointer (some ⟨g, 0, none⟩)) 3 rfl TF.t92 rfl)), trivial⟩ rfl ?_
  refine wl_call rfl (c_lappend st ok (hP.mono hmm2) hx) rfl ?_
  rintro v23 w ⟨m3, wv3, lv3, N3, S3, sl3, hmm3, rfl, hP3, hPn3, hN3, ok3, hg3, st⟩
  have hmm3 : ∀ k o, m k = some o → m3 k = some o := fun k o h => hmm3 k o (hmm2 k o h)
  refine wl_nil ⟨rfl, ?_⟩
  refine fl_eff1 7 [] [] (by kernel_rfl) trivial rfl ?_
  refine wl_val (v_assign' (by conv => (lhs; whnf))) rfl ?_
  refine wl_nil ⟨rfl, ?_⟩
  refine fl_nil (by kernel_rfl) trivial ?_
  refine then_go ?_
  refine wc_seq ?_
  refine wc_seq ?_
  refine wc_region ?_
  refine wl_val (v_move' (by conv => (lhs; whnf))) rfl ?_
  refine wl_val (v_eql rfl rfl) rfl ?_
  refine wl_val (v_move' (by conv => (lhs; whnf))) rfl ?_
  refine wl_valg rfl rfl (fun e => (v_move' (by conv => (lhs; whnf)))) rfl ?_
  refine wl_valg rfl rfl (fun e => (v_eql (by first | rfl | exact gx e rfl) (by first | rfl | exact gx e rfl))) rfl ?_
  refine wl_val (v_pickO rfl rfl rfl) rfl ?_
  refine wl_nil ?_
  refine then_go ?_
  refine wc_mid (fun r w' => ∃ (a : Nat) (m' : Mem) (wv' lv' : Value) (N' : List (By × Value)) (S' : By) (sl' : LG), r 0 = .pointer (some ⟨sb, 0, none⟩) ∧ r 1 = .slice la A.length lc ∧ r 6 = .int .i64 a ∧ (∀ k o, m k = some o → m' k = some o) ∧ Pcs m' N' ∧ PcsN m m' N N' ∧ applyR M (N.map (·.1)) (A.map (·.1)) n = (if a = 0 then doneS M (A.map (·.1)) else M, N'.map (·.1), a) ∧ LogOk n S' sl' (N'.map (·.1)) ∧ sl'.gen.toNat ≤ sl.gen.toNat + 2 ∧ St m0 m' [] w0 w' (lgE g b s n sl' lv' wv' S' N' (stE sb g mb L Es))) ?_ ?_
  ·refine wc_cond rfl (fun h29 => ?_) (fun h29 => ?_)
   ·refine wc_region ?_
    refine wl_val (v_move' (by conv => (lhs; whnf))) rfl ?_
    refine wl_val (v_move' (by conv => (lhs; whnf))) rfl ?_
    have hne : ¬ appR (N.map (·.1)) (batB (A.map (·.1))) n = 0 := fun e => by rw [e] at h29; cases h29
    rw [if_neg hne] at hN3
    rw [hN3] at ok3
    refine wl_call rfl (c_sover st (by rw [hN3]; exact ok3) (by omega) hP3 (hL.mono hmm3) hM hp (hA.mono hmm3) hok hn hb) rfl ?_
    rintro v32 w ⟨m4, wv4, lv4, N4, S4, sl4, hmm4, rfl, hP4, hPn4, hN4, ok4, hg4, st⟩
    refine wl_val (v_assign' (by conv => (lhs; whnf))) rfl ?_
    refine wl_nil ?_
    refine then_go ?_
    refine ⟨_, m4, wv4, lv4, N4, S4, sl4, rfl, rfl, rfl, fun k o h => hmm4 k o (hmm3 k o h), hP4, PcsN.trans' (fun y hy => (hPn3 y hy).imp id fun h => h.mono hmm2 fun _ _ h => h) hPn4 hmm3 hmm4, ?_, ok4, by omega, st⟩
    unfold applyR
    rw [if_neg hA0, if_neg hne, hN4, hN3]
    unfold overN
    split
    ·rw [if_neg (by decide), if_neg (by decide)]
    ·rw [if_pos rfl, if_pos rfl]
   ·refine wc_skip ?_
    refine then_go ?_
    have h2 := (Bool.or_eq_false_iff.mp h29)
    have he : appR (N.map (·.1)) (batB (A.map (·.1))) n = 0 := (appR_or).resolve_right fun h => h.elim (fun h => of_decide_eq_false h2.2 (by rw [h]; rfl)) fun h => of_decide_eq_false h2.1 (by rw [h]; rfl)
    refine ⟨0, m3, wv3, lv3, N3, S3, sl3, rfl, rfl, by rw [← he]; rfl, hmm3, hP3, fun y hy => (hPn3 y hy).imp id fun h => h.mono hmm2 fun _ _ h => h, ?_, ok3, by omega, st⟩
    unfold applyR
    rw [if_neg hA0, if_pos he, hN3, if_pos he, if_pos rfl]
  ·clear st
   rintro r w ⟨a, m4, wv4, lv4, N4, S4, sl4, g0, g1, g6, hmm4, hP4, hPn4, hap, ok4, hg4, st⟩
   refine wc_o 0 g0 (wc_o 1 g1 (wc_o 6 g6 ?_))
   rw [hap]
   refine wc_seq ?_
   refine wc_seq ?_
   refine wc_region ?_
   refine wl_val (v_move' (by conv => (lhs; whnf))) rfl ?_
   refine wl_val (v_eql rfl rfl) rfl ?_
   refine wl_nil ?_
   refine then_go ?_
   refine wc_cond rfl (fun h34 => ?_) (fun h34 => ?_)
   ·refine wc_region ?_
    refine wl_val (v_move' (by conv => (lhs; whnf))) rfl ?_
    refine wl_val (v_nil rfl) rfl ?_
    refine wl_val (v_fa TF.f95_1 rfl) rfl ?_
    refine wl_val (v_load rfl (st.reads (v := .map (some mb)) 3 rfl TF.t93 rfl)) rfl ?_
    refine wl_val (v_move' (by conv => (lhs; whnf))) rfl ?_
    have st := st.perm (List.perm_middle (l₁ := [_, _, _, _]))
    refine wl_call rfl (c_done st (hA.mono hmm4) (fun a ha => hok.2.1 _ (List.mem_map.2 ⟨a, ha, rfl⟩)) (hL.mono hmm4) (by omega)) rfl ?_
    rintro v40 w ⟨m5, L5, hmm5, hL5, hN5, hK5, st⟩
    have st : St m0 m5 [] w0 w (lgE g b s n sl4 lv4 wv4 S4 N4 (stE sb g mb L5 Es)) := st.perm (List.perm_middle (l₁ := [_, _, _, _])).symm
    refine wl_nil ?_
    refine then_go ?_
    refine wc_seq ?_
    refine wc_region ?_
    refine wl_val (v_move' (by conv => (lhs; whnf))) rfl ?_
    refine wl_val (v_assign' (by conv => (lhs; whnf))) rfl ?_
    refine wl_nil ?_
    refine then_go ?_
    refine wc_ret ?_
    have ha : a = 0 := by have := of_decide_eq_true h34; omega
    refine ret1 (v := .int .i64 (a : Nat)) rfl ?_
    refine ⟨m5, wv4, lv4, N4, S4, sl4, L5, fun k o h => hmm5 k o (hmm4 k o h), rfl, hP4.mono hmm5, fun y hy => (hPn4 y hy).imp id fun h => h.mono (fun _ _ h => h) hmm5, rfl, ok4, hg4, hL5, fun y hy => (hN5 y hy).imp id fun h => h.mono hmm4 fun _ _ h => h, ?_, st⟩
    rw [if_pos ha, hK5]
    exact doneS_perm hp hnd
   ·refine wc_skip ?_
    refine then_go ?_
    refine wc_seq ?_
    refine wc_region ?_
    refine wl_val (v_move' (by conv => (lhs; whnf))) rfl ?_
    refine wl_val (v_assign' (by conv => (lhs; whnf))) rfl ?_
    refine wl_nil ?_
    refine then_go ?_
    refine wc_ret ?_
    have ha : ¬ a = 0 := by have := of_decide_eq_false h34; omega
    refine ret1 (v := .int .i64 (a : Nat)) rfl ?_
    refine ⟨m4, wv4, lv4, N4, S4, sl4, L, hmm4, rfl, hP4, hPn4, rfl, ok4, hg4, hL.mono hmm4, .refl, ?_, st⟩
    rw [if_neg ha]
    exact hp
end
end Go.Proofs.YtladpaehbolghaaGreat

namespace Go.Proofs.YtladpaehbolghaaGreat
open Go Go.RowKit K SH GC JR OS
open DK hiding By
namespace OS
def oneE (E : List (By × DV)) (a : Ac) (dv : Value) : List (By × DV) := E.take (plN (kvs E) a.key) ++ ((if a.set then [(a.key, a.data, dv)] else []) ++ E.drop (plN (kvs E) a.key + if thB (kvs E) a.key then 1 else 0))
theorem kvs_one {E : List (By × DV)} {a : Ac} {dv : Value} (h : Risen (kvs E)) : kvs (oneE E a dv) = oneS (kvs E) a := by
 obtain ⟨h1, h2, _⟩ := pl_take (k := a.key) h
 unfold oneE oneS
 rw [← h1, ← h2]
 unfold kvs
 rw [List.map_append, List.map_append, List.map_take, List.map_drop]
 split <;> rfl
theorem kvok_app {m : Mem} {A B : List (By × DV)} (hA : KvOk m A) (hB : KvOk m B) : KvOk m (A ++ B) := fun x hx => (List.mem_append.1 hx).elim (hA x) (hB x)
theorem KvOk.take {m : Mem} {E : List (By × DV)} (h : KvOk m E) (i : Nat) : KvOk m (E.take i) := fun x hx => h x (List.mem_of_mem_take hx)
theorem KvOk.drop {m : Mem} {E : List (By × DV)} (h : KvOk m E) (i : Nat) : KvOk m (E.drop i) := fun x hx => h x (List.mem_of_mem_drop hx)
theorem one_str {E : List (By × DV)} : ∀ u ∈ kstr E, u.oneCell' = true := fun u hu => by obtain ⟨x, _, rfl⟩ := List.mem_map.1 hu; rfl
theorem one_val {m : Mem} {E : List (By × DV)} (h : KvOk m E) : ∀ u ∈ kval E, u.oneCell' = true := fun u hu => by obtain ⟨x, hx, rfl⟩ := List.mem_map.1 hu; exact SlM.one1 (h x hx).2.2
theorem thB_lt {M : Kys} {k : By} (h : thB M k = true) : plN M k < M.length := by
 unfold thB at h
 split at h
 ·rename_i x hx
  rcases Nat.lt_or_ge (plN M k) M.length with h' | h'
  ·exact h'
  ·rw [List.getElem?_eq_none h'] at hx; cases hx
 ·cases h
end OS
section
variable {m0 m : Mem} {wI w0 w : World} {Es : List Ent}
abbrev rwE {α : Type} (T : TypeId) (f : α → Value) (v : Value) (L : List α) : Ent := rowE v T 1 L.length (L.map f)
abbrev ksE (v : Value) (E : List (By × DV)) : Ent := rwE 9 (fun x => .string (strB x.1)) v E
abbrev vsE (v : Value) (E : List (By × DV)) : Ent := rwE 23 (fun x => x.2.2) v E
section
variable {α : Type} {P : Program} {n : Nat} {ops : Array Oper} {Q : Po} {rest : List Oper} {r : Fr} {d : Nat} {ty : TypeId} {pos : String} {after : Array Edge} {F : List Nat}
theorem wl_rwApp (f : α → Value) (i : Nat) {T E bytes : Nat} {z v x : Value} {s y : Operand} {A B : List α} (st : St m0 m F w0 w Es) (hi : Es[i]? = some (rwE E f v A)) (hT : P.underlying T = some (.slice E)) (tf : TyF P E false 1 bytes) (hz : TyZ P E z) (hzs : z.cells.size = 1)
  (hs : ev r s = v) (hy : ev r y = x) (src : Src P w x 1 B.length (B.map f)) (hb : (A.length + B.length) * bytes ≤ 140737488355328) (h63 : A.length + B.length ≤ 9223372036854775807) (hd : Nat.blt d n = true)
  (k : ∀ v' w', St m0 m F w0 w' (Es.set i (rwE E f v' (A ++ B))) → v'.oneCell' = true → WL P n ops Q rest (upd d v' r) w') :
  WL P n ops Q (⟨some d, .call ⟨.builtin .append, #[s, y], #[T, T]⟩, ty, pos, after, none⟩ :: rest) r w := by
 refine wl_append (news := B.map f) i st hi hT hT (.inr ⟨_, rfl⟩) tf hz hzs hs hy src h63 hb hd ?_
 intro v' w' _ st'
 have st2 := st'
 have e1 : A.map f ++ B.map f = (A ++ B).map f := by simp
 have e2 : A.length + B.length = (A ++ B).length := by simp
 rw [e1, e2] at st2
 have hlt : i < Es.length := by
  rcases Nat.lt_or_ge i Es.length with h | h
  ·exact h
  ·rw [List.getElem?_eq_none h] at hi; cases hi
 have hrow : (rwE E f v' (A ++ B)).holds w' := st2.at (i := i) (List.getElem?_set_self hlt)
 exact k v' w' st2 (row_one hrow)
theorem wl_rwPut (f : α → Value) (i : Nat) {T E bytes b cap : Nat} {z v : Value} {s y : Operand} {A : List α} {e : α} (st : St m0 m F w0 w (K.blk b #[f e] E :: Es)) (hi : Es[i]? = some (rwE E f v A)) (hT : P.underlying T = some (.slice E)) (tf : TyF P E false 1 bytes) (hz : TyZ P E z) (hzs : z.cells.size = 1) (ho : (f e).oneCell' = true)
  (hs : ev r s = v) (hy : ev r y = .slice (some ⟨b, 0, none⟩) 1 cap) (hb : (A.length + 1) * bytes ≤ 140737488355328) (h63 : A.length + 1 ≤ 9223372036854775807) (hd : Nat.blt d n = true)
  (k : ∀ v' w', St m0 m F w0 w' (Es.set i (rwE E f v' (A ++ [e]))) → v'.oneCell' = true → WL P n ops Q rest (upd d v' r) w') :
  WL P n ops Q (⟨some d, .call ⟨.builtin .append, #[s, y], #[T, T]⟩, ty, pos, after, none⟩ :: rest) r w := by
 refine wl_rwApp f (i + 1) (B := [e]) st hi hT tf hz hzs hs hy (st.srcArr (off := 0) 0 rfl rfl (fun j u hj => by simpa using hj) (fun u hu => by rw [List.mem_singleton.1 hu]; exact ho)) hb h63 hd ?_
 intro v' w' st' h1
 exact k v' w' (st'.drop 0) h1
theorem wl_rwOne {T E : TypeId} {bytes : Nat} {z v : Value} {x : Operand} (hT : P.underlying T = some (.slice E)) (tf : TyF P E false 1 bytes) (hz : TyZ P E z) (hzs : z.cells.size = 1) (ho : v.oneCell' = true) (hx : ev r x = v) (st : St m0 m F w0 w Es) (hd : Nat.blt d n = true)
  (k : ∀ b w', St m0 m F w0 w' (K.blk b #[v] E :: Es) → WL P n ops Q rest (upd d (.slice (some ⟨b, 0, none⟩) 1 1) r) w') :
  WL P n ops Q (⟨some d, .buildSlice T 1 #[(0, x)], ty, pos, after, none⟩ :: rest) r w := by
 refine wl_buildSlice (c' := #[v]) [(0, v)] hT tf hz (by decide) (by decide) (by simp [hx]) ⟨0, 1, rfl, by rw [cells_one ho]; rfl, by simp [size_madeCells, hzs], ?_⟩ st hd k
 rw [cells_one ho]
 exact setSeg_all (by simp [size_madeCells, hzs])
theorem SlM.subM {β : Type} (f : β → Value) {a : Option Addr} {cap : Nat} {L : List β} (i j : Nat) (hx : SlM m (.slice a L.length cap) 1 L.length (L.map f)) (hij : i ≤ j) (hj : j ≤ L.length) :
  SlM m (.slice (sliceOff a cap i 1) (j - i) (cap - i)) 1 ((L.drop i).take (j - i)).length (((L.drop i).take (j - i)).map f) := by
 have hs := hx.sub rfl (l := i) (h := j) hij hj (by omega)
 have e : ((L.map f).drop (i * 1)).take ((j - i) * 1) = ((L.drop i).take (j - i)).map f := by rw [List.map_take, List.map_drop, Nat.mul_one, Nat.mul_one]
 rw [e] at hs
 rw [List.length_take, List.length_drop, Nat.min_eq_left (by omega)]
 exact hs
end
theorem c_rone {kv vv dv : Value} {E : List (By × DV)} {x : Ac} (him : Im m wI) (hE : KyM m kv vv E) (hEl : E.length ≤ 1000000) (hok : AcOk m x dv) (hk : x.key.length ≤ 64) (hd : x.data.length ≤ 1048576) :
  Ret Tryz.prog 70 #[.agg #[kv, vv], .agg (acC x dv).toArray] wI fun v w' => Out m wI w' fun m' => ∃ kv' vv', v = .agg #[kv', vv'] ∧ KyM m' kv' vv' (oneE E x dv) := by
 have st := St.start him
 obtain ⟨ka, kc, va, vc, rfl, rfl, hkc, hvc⟩ := hE.sl
 obtain ⟨i, hie⟩ : ∃ i, i = plN (kvs E) x.key := ⟨_, rfl⟩
 obtain ⟨th, hth⟩ : ∃ t, t = thB (kvs E) x.key := ⟨_, rfl⟩
 obtain ⟨j, hj⟩ : ∃ j, j = i + if th = true then 1 else 0 := ⟨_, rfl⟩
 have hi : i ≤ E.length := by have := plN_le (M := kvs E) (k := x.key); rw [length_kvs] at this; omega
 have hjl : j ≤ E.length := by
  rw [hj]
  split
  ·have := thB_lt (M := kvs E) (k := x.key) (by rw [← hth]; assumption); rw [length_kvs] at this; omega
  ·omega
 have hone := cells_one (SlM.one1 hok.data)
 have hd1 := SlM.one1 hok.data
 obtain ⟨da, dc, rfl, hdc⟩ := hok.data.opn
 obtain ⟨L1, hL1⟩ : ∃ L, L = E.take i ++ (if x.set then [(x.key, x.data, (.slice da x.data.length dc : Value))] else []) := ⟨_, rfl⟩
 have hE' : oneE E x (.slice da x.data.length dc) = L1 ++ E.drop j := by
  unfold oneE
  rw [← hie, ← hth, ← hj, hL1, List.append_assoc]
 have tk : (E.drop 0).take (i - 0) = E.take i := rfl
 have dk : (E.drop j).take (E.length - j) = E.drop j := List.take_of_length_le (by simp)
 have sk1 := SlM.subM (fun x : By × DV => .string (strB x.1)) 0 i hE.1 (Nat.zero_le _) hi
 have sv1 := SlM.subM (fun x : By × DV => x.2.2) 0 i hE.2.1 (Nat.zero_le _) hi
 have sk2 := SlM.subM (fun x : By × DV => .string (strB x.1)) j E.length hE.1 hjl (Nat.le_refl _)
 have sv2 := SlM.subM (fun x : By × DV => x.2.2) j E.length hE.2.1 hjl (Nat.le_refl _)
 rw [tk] at sk1 sv1
 rw [dk] at sk2 sv2
 have ln1 : (E.take i).length = i := by rw [List.length_take]; omega
 have ln2 : (E.drop j).length = E.length - j := List.length_drop
 have lnL : L1.length ≤ i + 1 := by rw [hL1, List.length_append, ln1]; split <;> simp
 have hT1 : KvOk m (E.take i) := hE.2.2.take i
 have hL1ok : KvOk m L1 := by
  rw [hL1]
  refine kvok_app hT1 ?_
  split
  ·intro y hy; rw [List.mem_singleton.1 hy]; exact ⟨hk, hd, hok.data⟩
  ·intro y hy; cases hy
 refine ret_of Tryz.call70 Tryz.func70 rfl Tryz.ntmps70 Tryz.results70 rfl ?_
 refine wc_seq ?_
 refine wc_region ?_
 refine wl_box (v := .agg #[.slice ka E.length kc, .slice va E.length vc]) rfl st rfl ?_
 intro b2 w st
 refine wl_box (v := .agg (acC x (.slice da x.data.length dc)).toArray) rfl st rfl ?_
 intro b3 w st
 refine wl_alloc TF.z43 st rfl ?_
 intro b4 w st
 refine wl_nil ?_
 refine then_go ?_
 refine wc_seq ?_
 refine wc_region ?_
 refine wl_val (v_load rfl (st.reads (v := .agg #[.slice ka E.length kc, .slice va E.length vc]) 2 rfl TF.t43 (getV_all rfl))) rfl ?_
 refine wl_val (v_fa TF.f57_0 rfl) rfl ?_
 refine wl_val (v_load rfl (st.reads (v := .string (strB x.key)) 1 rfl TF.t9 (Ac.g0_1 hok))) rfl ?_
 refine wl_call rfl (c_place st.im hE hEl) rfl ?_
 rintro v12 w ⟨t12, rfl⟩
 have st := st.pure t12
 rw [← hie, ← hth]
 refine wl_val (v_move' (by conv => (lhs; whnf))) rfl ?_
 refine wl_val (v_extract rfl rfl) rfl ?_
 refine wl_val (v_extract rfl rfl) rfl ?_
 refine wl_val (v_assign' (by conv => (lhs; whnf))) rfl ?_
 refine wl_val (v_assign' (by conv => (lhs; whnf))) rfl ?_
 refine wl_nil ?_
 refine then_go ?_
 refine wc_seq ?_
 refine wc_region ?_
 refine wl_val (v_build (c' := #[.slice none 0 0, .slice none 0 0]) [] TF.z43 TF.p43 rfl rfl) rfl ?_
 refine wl_alloc TF.z43 st rfl ?_
 intro b7 w st
 refine wl_storeW (cs := #[.slice none 0 0, .slice none 0 0]) 0 st rfl TF.t43 rfl rfl rfl rfl (by simp [Value.oneCell']) ?_
 intro w st
 obtain ⟨bb2, hbb2⟩ : ∃ q, q = K.blk b2 #[.slice ka E.length kc, .slice va E.length vc] 43 := ⟨_, rfl⟩
 have st := nilRow st 23 1
 have st := nilRow st 9 1
 have st : St m m [] wI w [ksE (.slice none 0 0) [], vsE (.slice none 0 0) [], K.blk b7 #[.slice none 0 0, .slice none 0 0] 43, K.blk b4 #[.slice none 0 0, .slice none 0 0] 43, K.blk b3 (acC x (.slice da x.data.length dc)).toArray 57, K.blk b2 #[.slice ka E.length kc, .slice va E.length vc] 43] := st
 refine wl_nil ?_
 refine then_go ?_
 refine wc_seq ?_
 refine wc_draw TF.mixed ?_
 have st := st.pure (touch_drew _)
 refine fl_val 0 rfl (fun _ => (v_fa TF.f43_0 rfl)) rfl (by kernel_rfl) ?_
 refine fl_ld 1 rfl (v_load rfl (st.reads (v := .slice none 0 0) 2 rfl TF.t40 rfl)) (by kernel_rfl) ?_
 refine fl_val 2 rfl (fun _ => (v_fa TF.f43_0 rfl)) rfl (by kernel_rfl) ?_
 refine fl_ld 3 rfl (v_load rfl (st.reads (v := .slice ka E.length kc) 5 rfl TF.t40 rfl)) (by kernel_rfl) ?_
 refine fl_val 4 rfl (fun _ => (v_move' (by conv => (lhs; whnf)))) rfl (by kernel_rfl) ?_
 refine fl_val 5 rfl (fun _ => (v_slice_s (l := 0) (h := i) Tryz.underlying40 TF.t9 rfl rfl ⟨_, _, rfl, rfl⟩ (by omega) (by omega))) rfl (by kernel_rfl) ?_
 refine fl_eff1 6 [4, 2, 0] [3] (by kernel_rfl) ⟨obl_ld rfl rfl rfl (v_load rfl (st.reads (v := .slice ka E.length kc) 5 rfl TF.t40 rfl)), obl_ld rfl rfl rfl (v_load rfl (st.reads (v := .slice none 0 0) 2 rfl TF.t40 rfl)), trivial⟩ rfl ?_
 refine wl_rwApp _ 0 (B := E.take i) st rfl Tryz.underlying40 TF.t9 TF.z9 rfl rfl rfl (sk1.src st.im one_str) (by simp; omega) (by simp; omega) rfl ?_
 intro v22 w st o22
 refine wl_nil ⟨rfl, ?_⟩
 refine fl_val 7 rfl (fun _ => (v_fa TF.f43_0 rfl)) rfl (by kernel_rfl) ?_
 refine fl_eff1 8 [] [] (by kernel_rfl) ⟨obl_ld rfl rfl rfl (v_load rfl (st.reads (v := .slice ka E.length kc) 5 rfl TF.t40 rfl)), trivial⟩ rfl ?_
 refine wl_store1 (v := v22) 2 st rfl TF.t40 rfl rfl o22 (lt_ok rfl) ?_
 intro w st
 refine wl_nil ⟨rfl, ?_⟩
 refine fl_nil (by kernel_rfl) trivial ?_
 refine then_go ?_
 refine wc_seq ?_
 refine wc_draw TF.mixed ?_
 have st := st.pure (touch_drew _)
 refine fl_val 0 rfl (fun _ => (v_fa TF.f43_1 rfl)) rfl (by kernel_rfl) ?_
 refine fl_ld 1 rfl (v_load rfl (st.reads (v := .slice none 0 0) 2 rfl TF.t41 rfl)) (by kernel_rfl) ?_
 refine fl_val 2 rfl (fun _ => (v_fa TF.f43_1 rfl)) rfl (by kernel_rfl) ?_
 refine fl_ld 3 rfl (v_load rfl (st.reads (v := .slice va E.length vc) 5 rfl TF.t41 rfl)) (by kernel_rfl) ?_
 refine fl_val 4 rfl (fun _ => (v_move' (by conv => (lhs; whnf)))) rfl (by kernel_rfl) ?_
 refine fl_val 5 rfl (fun _ => (v_slice_s (l := 0) (h := i) Tryz.underlying41 TF.t23 rfl rfl ⟨_, _, rfl, rfl⟩ (by omega) (by omega))) rfl (by kernel_rfl) ?_
 refine fl_eff1 6 [4, 2, 0] [3] (by kernel_rfl) ⟨obl_ld rfl rfl rfl (v_load rfl (st.reads (v := .slice va E.length vc) 5 rfl TF.t41 rfl)), obl_ld rfl rfl rfl (v_load rfl (st.reads (v := .slice none 0 0) 2 rfl TF.t41 rfl)), trivial⟩ rfl ?_
 refine wl_rwApp _ 1 (B := E.take i) st rfl Tryz.underlying41 TF.t23 TF.z23 rfl rfl rfl (sv1.src st.im (one_val hT1)) (by simp; omega) (by simp; omega) rfl ?_
 intro v30 w st o30
 refine wl_nil ⟨rfl, ?_⟩
 refine fl_val 7 rfl (fun _ => (v_fa TF.f43_1 rfl)) rfl (by kernel_rfl) ?_
 refine fl_eff1 8 [] [] (by kernel_rfl) ⟨obl_ld rfl rfl rfl (v_load rfl (st.reads (v := .slice va E.length vc) 5 rfl TF.t41 rfl)), trivial⟩ rfl ?_
 refine wl_store1 (v := v30) 2 st rfl TF.t41 rfl rfl o30 (lt_ok rfl) ?_
 intro w st
 have st : St m m [] wI w [ksE v22 (E.take i), vsE v30 (E.take i), K.blk b7 #[v22, v30] 43, K.blk b4 #[.slice none 0 0, .slice none 0 0] 43, K.blk b3 (acC x (.slice da x.data.length dc)).toArray 57, K.blk b2 #[.slice ka E.length kc, .slice va E.length vc] 43] := st
 refine wl_nil ⟨rfl, ?_⟩
 refine fl_nil (by kernel_rfl) trivial ?_
 refine then_go ?_
 refine wc_seq ?_
 refine wc_seq ?_
 refine wc_region ?_
 refine wl_val (v_fa TF.f57_1 rfl) rfl ?_
 refine wl_val (v_load rfl (st.reads (v := .bool x.set) 4 rfl TF.t4 (Ac.g1_1 hok))) rfl ?_
 refine wl_nil ?_
 refine then_go ?_
 refine wc_mid (fun r w' => ∃ v1 v2, r 2 = .pointer (some ⟨b2, 0, none⟩) ∧ r 4 = .pointer (some ⟨b4, 0, none⟩) ∧ r 5 = .int .i64 i ∧ r 6 = .bool th ∧ r 7 = .pointer (some ⟨b7, 0, none⟩) ∧ v1.oneCell' = true ∧ v2.oneCell' = true ∧ St m m [] wI w' [ksE v1 L1, vsE v2 L1, K.blk b7 #[v1, v2] 43, K.blk b4 #[.slice none 0 0, .slice none 0 0] 43, K.blk b3 (acC x (.slice da x.data.length dc)).toArray 57, K.blk b2 #[.slice ka E.length kc, .slice va E.length vc] 43]) ?_ ?_
 ·refine wc_cond rfl (fun h33 => ?_) (fun h33 => ?_)
  ·refine wc_seq ?_
   refine wc_region ?_
   refine wl_val (v_fa TF.f43_0 rfl) rfl ?_
   refine wl_val (v_load rfl (st.reads (v := v22) 2 rfl TF.t40 rfl)) rfl ?_
   refine wl_val (v_fa TF.f57_0 rfl) rfl ?_
   refine wl_val (v_load rfl (st.reads (v := .string (strB x.key)) 4 rfl TF.t9 (Ac.g0_1 hok))) rfl ?_
   refine wl_rwOne (v := .string (strB x.key)) Tryz.underlying40 TF.t9 TF.z9 rfl rfl rfl st rfl ?_
   intro b38 w st
   refine wl_rwPut (fun x : By × DV => .string (strB x.1)) 0 (e := (x.key, x.data, .slice da x.data.length dc)) st rfl Tryz.underlying40 TF.t9 TF.z9 rfl rfl rfl rfl (by omega) (by omega) rfl ?_
   intro v39 w st o39
   refine wl_val (v_fa TF.f43_0 rfl) rfl ?_
   refine wl_store1 (v := v39) 2 st rfl TF.t40 rfl rfl o39 (lt_ok rfl) ?_
   intro w st
   refine wl_nil ?_
   refine then_go ?_
   refine wc_region ?_
   refine wl_val (v_fa TF.f43_1 rfl) rfl ?_
   refine wl_val (v_load rfl (st.reads (v := v30) 2 rfl TF.t41 rfl)) rfl ?_
   refine wl_val (v_fa TF.f57_2 rfl) rfl ?_
   refine wl_val (v_load rfl (st.reads (v := .slice da x.data.length dc) 4 rfl TF.t23 (Ac.g2_1 hok))) rfl ?_
   refine wl_rwOne (v := .slice da x.data.length dc) Tryz.underlying41 TF.t23 TF.z23 rfl rfl rfl st rfl ?_
   intro b45 w st
   refine wl_rwPut (fun x : By × DV => x.2.2) 1 (e := (x.key, x.data, .slice da x.data.length dc)) st rfl Tryz.underlying41 TF.t23 TF.z23 rfl rfl rfl rfl (by omega) (by omega) rfl ?_
   intro v46 w st o46
   refine wl_val (v_fa TF.f43_1 rfl) rfl ?_
   refine wl_store1 (v := v46) 2 st rfl TF.t41 rfl rfl o46 (lt_ok rfl) ?_
   intro w st
   refine wl_nil ?_
   refine then_go ?_
   exact ⟨v39, v46, rfl, rfl, rfl, rfl, rfl, o39, o46, by rw [hL1, if_pos h33]; exact st⟩
  ·refine wc_skip ?_
   refine then_go ?_
   exact ⟨v22, v30, rfl, rfl, rfl, rfl, rfl, o22, o30, by rw [hL1, if_neg (by rw [h33]; decide), List.append_nil]; exact st⟩
 ·clear st
  rintro r w ⟨v1, v2, g2, g4, g5, g6, g7, o1, o2, st⟩
  refine wc_o 2 g2 (wc_o 4 g4 (wc_o 5 g5 (wc_o 6 g6 (wc_o 7 g7 ?_))))
  refine wc_seq ?_
  refine wc_seq ?_
  refine wc_region ?_
  refine wl_val (v_move' (by conv => (lhs; whnf))) rfl ?_
  refine wl_nil ?_
  refine then_go ?_
  refine wc_mid (fun r w' => r 2 = .pointer (some ⟨b2, 0, none⟩) ∧ r 4 = .pointer (some ⟨b4, 0, none⟩) ∧ r 5 = .int .i64 j ∧ r 7 = .pointer (some ⟨b7, 0, none⟩) ∧ St m m [] wI w' [ksE v1 L1, vsE v2 L1, K.blk b7 #[v1, v2] 43, K.blk b4 #[.slice none 0 0, .slice none 0 0] 43, K.blk b3 (acC x (.slice da x.data.length dc)).toArray 57, K.blk b2 #[.slice ka E.length kc, .slice va E.length vc] 43]) ?_ ?_
  ·refine wc_cond rfl (fun h48 => ?_) (fun h48 => ?_)
   ·refine wc_region ?_
    refine wl_val (v_move' (by conv => (lhs; whnf))) rfl ?_
    refine wl_val (v_add' (c := ((i + 1 : Nat) : Int)) rfl rfl (by omega) (by omega) (by omega)) rfl ?_
    refine wl_val (v_assign' (by conv => (lhs; whnf))) rfl ?_
    refine wl_nil ?_
    refine then_go ?_
    exact ⟨rfl, rfl, by rw [hj, if_pos h48]; rfl, rfl, st⟩
   ·refine wc_skip ?_
    refine then_go ?_
    exact ⟨rfl, rfl, by rw [hj, if_neg (by rw [h48]; decide)]; rfl, rfl, st⟩
  ·clear st
   rintro r w ⟨g2, g4, g5, g7, st⟩
   refine wc_o 2 g2 (wc_o 4 g4 (wc_o 5 g5 (wc_o 7 g7 ?_)))
   refine wc_seq ?_
   refine wc_draw TF.mixed ?_
   have st := st.pure (touch_drew _)
   refine fl_val 0 rfl (fun _ => (v_fa TF.f43_0 rfl)) rfl (by kernel_rfl) ?_
   refine fl_ld 1 rfl (v_load rfl (st.reads (v := v1) 2 rfl TF.t40 rfl)) (by kernel_rfl) ?_
   refine fl_val 2 rfl (fun _ => (v_fa TF.f43_0 rfl)) rfl (by kernel_rfl) ?_
   refine fl_ld 3 rfl (v_load rfl (st.reads (v := .slice ka E.length kc) 5 rfl TF.t40 rfl)) (by kernel_rfl) ?_
   refine fl_val 4 rfl (fun _ => (v_move' (by conv => (lhs; whnf)))) rfl (by kernel_rfl) ?_
   refine fl_val 5 rfl (fun _ => (v_slice_s (l := j) (h := E.length) Tryz.underlying40 TF.t9 rfl ⟨_, _, rfl, rfl⟩ rfl (by omega) (by omega))) rfl (by kernel_rfl) ?_
   refine fl_eff1 6 [4, 2, 0] [3] (by kernel_rfl) ⟨obl_ld rfl rfl rfl (v_load rfl (st.reads (v := .slice ka E.length kc) 5 rfl TF.t40 rfl)), obl_ld rfl rfl rfl (v_load rfl (st.reads (v := v1) 2 rfl TF.t40 rfl)), trivial⟩ rfl ?_
   refine wl_rwApp _ 0 (B := E.drop j) st rfl Tryz.underlying40 TF.t9 TF.z9 rfl rfl rfl (sk2.src st.im one_str) (by omega) (by omega) rfl ?_
   intro v57 w st o57
   refine wl_nil ⟨rfl, ?_⟩
   refine fl_val 7 rfl (fun _ => (v_fa TF.f43_0 rfl)) rfl (by kernel_rfl) ?_
   refine fl_eff1 8 [] [] (by kernel_rfl) ⟨obl_ld rfl rfl rfl (v_load rfl (st.reads (v := .slice ka E.length kc) 5 rfl TF.t40 rfl)), trivial⟩ rfl ?_
   refine wl_store1 (v := v57) 2 st rfl TF.t40 rfl rfl o57 (lt_ok rfl) ?_
   intro w st
   refine wl_nil ⟨rfl, ?_⟩
   refine fl_nil (by kernel_rfl) trivial ?_
   refine then_go ?_
   refine wc_seq ?_
   refine wc_draw TF.mixed ?_
   have st := st.pure (touch_drew _)
   refine fl_val 0 rfl (fun _ => (v_fa TF.f43_1 rfl)) rfl (by kernel_rfl) ?_
   refine fl_ld 1 rfl (v_load rfl (st.reads (v := v2) 2 rfl TF.t41 rfl)) (by kernel_rfl) ?_
   refine fl_val 2 rfl (fun _ => (v_fa TF.f43_1 rfl)) rfl (by kernel_rfl) ?_
   refine fl_ld 3 rfl (v_load rfl (st.reads (v := .slice va E.length vc) 5 rfl TF.t41 rfl)) (by kernel_rfl) ?_
   refine fl_val 4 rfl (fun _ => (v_move' (by conv => (lhs; whnf)))) rfl (by kernel_rfl) ?_
   refine fl_val 5 rfl (fun _ => (v_slice_s (l := j) (h := E.length) Tryz.underlying41 TF.t23 rfl ⟨_, _, rfl, rfl⟩ rfl (by omega) (by omega))) rfl (by kernel_rfl) ?_
   refine fl_eff1 6 [4, 2, 0] [3] (by kernel_rfl) ⟨obl_ld rfl rfl rfl (v_load rfl (st.reads (v := .slice va E.length vc) 5 rfl TF.t41 rfl)), obl_ld rfl rfl rfl (v_load rfl (st.reads (v := v2) 2 rfl TF.t41 rfl)), trivial⟩ rfl ?_
   refine wl_rwApp _ 1 (B := E.drop j) st rfl Tryz.underlying41 TF.t23 TF.z23 rfl rfl rfl (sv2.src st.im (one_val (hE.2.2.drop j))) (by omega) (by omega) rfl ?_
   intro v65 w st o65
   refine wl_nil ⟨rfl, ?_⟩
   refine fl_val 7 rfl (fun _ => (v_fa TF.f43_1 rfl)) rfl (by kernel_rfl) ?_
   refine fl_eff1 8 [] [] (by kernel_rfl) ⟨obl_ld rfl rfl rfl (v_load rfl (st.reads (v := .slice va E.length vc) 5 rfl TF.t41 rfl)), trivial⟩ rfl ?_
   refine wl_store1 (v := v65) 2 st rfl TF.t41 rfl rfl o65 (lt_ok rfl) ?_
   intro w st
   refine wl_nil ⟨rfl, ?_⟩
   refine fl_nil (by kernel_rfl) trivial ?_
   refine then_go ?_
   refine wc_seq ?_
   refine wc_region ?_
   refine wl_val (v_load rfl (st.reads (v := .agg #[v57, v65]) 2 rfl TF.t43 (getV_all rfl))) rfl ?_
   refine wl_storeW (cs := #[v57, v65]) 3 st rfl TF.t43 rfl rfl rfl rfl (by intro u hu; simp at hu; rcases hu with rfl | rfl <;> assumption) ?_
   intro w st
   have st : St m m [] wI w [ksE v57 (L1 ++ E.drop j), vsE v65 (L1 ++ E.drop j), K.blk b7 #[v57, v65] 43, K.blk b4 #[v57, v65] 43, K.blk b3 (acC x (.slice da x.data.length dc)).toArray 57, K.blk b2 #[.slice ka E.length kc, .slice va E.length vc] 43] := st
   refine wl_nil ?_
   refine then_go ?_
   refine wc_ret ?_
   obtain ⟨m1, hg1, hm1, st1⟩ := st.freezeR (i := 0) rfl (by simp)
   have hk1 := row_SlM (m := m1) (st.at (i := 0) rfl) hm1
   obtain ⟨m2, hg2, hm2, st2⟩ := st1.freezeR (i := 0) rfl (by simp)
   have hv1 := row_SlM (m := m2) (st1.at (i := 0) rfl) hm2
   refine ret1c (p := ⟨b4, 0, none⟩) (v := .agg #[v57, v65]) rfl (st.reads (off := 0) 3 rfl TF.t43 (getV_all rfl)) ((st2.keepOnly (l := []) (List.nil_sublist _)).out ⟨v57, v65, rfl, ?_⟩)
   rw [hE']
   exact ⟨hk1.mono hg2.le, hv1, (kvok_app hL1ok (hE.2.2.drop j)).mono fun k o h => hg2.le k o (hg1.le k o h)⟩
end
end Go.Proofs.YtladpaehbolghaaGreat

namespace Go.Proofs.YtladpaehbolghaaGreat
open Go Go.RowKit K SH GC JR OS
open DK hiding By
section
variable {m0 m : Mem} {w0 w : World} {Es : List Ent}
theorem c_sget {sb mb g b s n : Nat} {sl : LG} {lv wv : Value} {S k : By} {N : List (By × Value)} {L : List (By × DV)} {M : Kys}
    (st : St m0 m [] w0 w (lgE g b s n sl lv wv S N (stE sb g mb L Es))) (hL : KvOk m L) (hM : Risen M) (hp : M.Perm (kvs L)) (hk : k.length ≤ 9223372036854775807) :
    Ret Tryz.prog 29 #[.pointer (some ⟨sb, 0, none⟩), .string (strB k)] w fun v w' => ∃ u, v = .tuple #[u, .bool (getKV k M).isSome] ∧ St m0 m [] w0 w' (byE u ((getKV k M).getD []) :: lgE g b s n sl lv wv S N (stE sb g mb L Es)) := by
  have hnd : ((kvs L).map (·.1)).Nodup := (hp.map (·.1)).nodup hM.nodup
  have hget : getKV k M = (getKV k L).map (·.1) := by
    rw [← kvs_get]
    refine Option.ext fun d => ?_
    rw [← mem_getKV hM.nodup, ← mem_getKV hnd]
    exact hp.mem_iff
  rw [hget]
  have hv : SlM m (((getKV k L).map (fun x : DV => x.2)).getD (.slice none 0 0)) 1 (((getKV k L).map (·.1)).getD []).length (bs (((getKV k L).map (·.1)).getD [])) ∧ (((getKV k L).map (·.1)).getD []).length ≤ 1048576 := by
    have hnL : (L.map (·.1)).Nodup := by have : (kvs L).map (·.1) = L.map (·.1) := by unfold kvs; rw [List.map_map]; rfl
                                         rw [← this]; exact hnd
    rcases h : getKV k L with _ | x
    · exact ⟨SlM.nil, by simp⟩
    · have := hL _ ((mem_getKV hnL).2 h)
      exact ⟨this.2.2, this.2.1⟩
  have hsome : (getKV k L).isSome = ((getKV k L).map (·.1)).isSome := by cases getKV k L <;> rfl
  refine ret_of Tryz.call29 Tryz.func29 rfl Tryz.ntmps29 Tryz.results29 rfl ?_
  refine wc_seq ?_
  refine wc_region ?_
  refine wl_val (v_assign' (by conv => (lhs; whnf))) rfl ?_
  refine wl_val (v_assign' (by conv => (lhs; whnf))) rfl ?_
  refine wl_nil ?_
  refine then_go ?_
  refine wc_seq ?_
  refine wc_region ?_
  refine wl_val (v_move' (by conv => (lhs; whnf))) rfl ?_
  refine wl_val (v_nil rfl) rfl ?_
  refine wl_val (v_fa TF.f95_1 rfl) rfl ?_
  refine wl_val (v_load rfl (st.reads (v := .map (some mb)) 3 rfl TF.t93 rfl)) rfl ?_
  refine wl_val (v_move' (by conv => (lhs; whnf))) rfl ?_
  refine wl_val (v_mapGetO 4 st rfl kt_str Tryz.underlying93 TF.z23 hL.keys hk rfl rfl true) rfl ?_
  refine wl_val (v_move' (by conv => (lhs; whnf))) rfl ?_
  refine wl_val (v_extract rfl rfl) rfl ?_
  refine wl_val (v_extract rfl rfl) rfl ?_
  refine wl_val (v_assign' (by conv => (lhs; whnf))) rfl ?_
  refine wl_val (v_assign' (by conv => (lhs; whnf))) rfl ?_
  refine wl_nil ?_
  refine then_go ?_
  refine wc_seq ?_
  refine wc_region ?_
  refine wl_val (v_move' (by conv => (lhs; whnf))) rfl ?_
  refine wl_call rfl (c_bcloneR st hv.1 (by have := hv.2; omega)) rfl ?_
  intro v18 w st
  refine wl_val (v_move' (by conv => (lhs; whnf))) rfl ?_
  refine wl_val (v_assign' (by conv => (lhs; whnf))) rfl ?_
  refine wl_val (v_assign' (by conv => (lhs; whnf))) rfl ?_
  refine wl_nil ?_
  refine then_go ?_
  refine wc_ret ?_
  exact ret2 (v := v18) (v' := .bool (getKV k L).isSome) rfl rfl ⟨v18, by rw [hsome], st⟩
theorem c_slen {sb mb g b s n : Nat} {sl : LG} {lv wv : Value} {S : By} {N : List (By × Value)} {L : List (By × DV)}
  (st : St m0 m [] w0 w (lgE g b s n sl lv wv S N (stE sb g mb L Es))) :
  Ret Tryz.prog 34 #[.pointer (some ⟨sb, 0, none⟩)] w fun v w' => Tch w w' [] [] ∧ v = .int .i64 L.length := by
 refine ret_of Tryz.call34 Tryz.func34 rfl Tryz.ntmps34 Tryz.results34 rfl ?_
 refine wc_seq ?_
 refine wc_region ?_
 refine wl_val (v_assign' (by conv => (lhs; whnf))) rfl ?_
 refine wl_nil ?_
 refine then_go ?_
 refine wc_seq ?_
 refine wc_region ?_
 refine wl_val (v_move' (by conv => (lhs; whnf))) rfl ?_
 refine wl_val (v_nil rfl) rfl ?_
 refine wl_val (v_fa TF.f95_1 rfl) rfl ?_
 refine wl_val (v_load rfl (st.reads (v := .map (some mb)) 3 rfl TF.t93 rfl)) rfl ?_
 refine wl_val (v_mapLen 4 st rfl Tryz.underlying93 rfl) rfl ?_
 refine wl_val (v_assign' (by conv => (lhs; whnf))) rfl ?_
 refine wl_nil ?_
 refine then_go ?_
 refine wc_ret ?_
 exact ret1 rfl ⟨Tch.refl _ _, rfl⟩
theorem c_sall {sb mb g b s n : Nat} {sl : LG} {lv wv : Value} {S : By} {N : List (By × Value)} {L : List (By × DV)} {M : Kys}
  (st : St m0 m [] w0 w (lgE g b s n sl lv wv S N (stE sb g mb L Es))) (hL : KvOk m L) (hM : Risen M) (hp : M.Perm (kvs L)) (hl : L.length ≤ 1000000) :
  Ret Tryz.prog 30 #[.pointer (some ⟨sb, 0, none⟩)] w fun v w' => ∃ b3 m' av A, v = .func (.func 64) #[] #[.pointer (some ⟨b3, 0, none⟩)] ∧ (∀ k o, m k = some o → m' k = some o) ∧ AcsM m' av A ∧ A.map (·.1) = actsOf M ∧ m' b3 = some (.cells #[av] 22 (0, 0)) ∧ St m0 m' [] w0 w' (lgE g b s n sl lv wv S N (stE sb g mb L Es)) := by
 refine ret_of Tryz.call30 Tryz.func30 rfl Tryz.ntmps30 Tryz.results30 rfl ?_
 refine wc_seq ?_
 refine wc_region ?_
 refine wl_val (v_assign' (by conv => (lhs; whnf))) rfl ?_
 refine wl_nil ?_
 refine then_go ?_
 refine wc_seq ?_
 refine wc_region ?_
 refine wl_val (v_move' (by conv => (lhs; whnf))) rfl ?_
 refine wl_val (v_nil rfl) rfl ?_
 refine wl_val (v_fa TF.f95_1 rfl) rfl ?_
 refine wl_val (v_load rfl (st.reads (v := .map (some mb)) 3 rfl TF.t93 rfl)) rfl ?_
 have st := st.perm (List.perm_middle (l₁ := [_, _, _, _]))
 refine wl_call rfl (c_swhole st hL hl) rfl ?_
 rintro v8 w ⟨A, hp1, hrs, st⟩
 have hAM : A.map (·.1) = actsOf M := whole_one hp1 hrs hM hp
 have hao : ∀ a ∈ A, AcOk m a.1 a.2 := fun a ha => by
  obtain ⟨z, hz, rfl⟩ := List.mem_map.1 (hp1.mem_iff.1 ha)
  obtain ⟨h1, h2, h3⟩ := hL z hz
  exact ⟨by show z.1.length ≤ _; omega, h3⟩
 obtain ⟨m1, hg1, hls, st⟩ := st.keepLs (i := 0) rfl (fun _ _ => rfl)
 have hA : AcsM m1 v8 A := ⟨hls, fun a ha => (hao a ha).mono hg1.le⟩
 obtain ⟨aa, ac, rfl⟩ := hA.1.sl
 refine wl_alloc TF.z22 st rfl ?_
 intro b3 w st
 refine wl_store1 (v := .slice aa A.length ac) 0 st rfl TF.t22 rfl rfl rfl (lt_ok rfl) ?_
 intro w st
 obtain ⟨m2, hg2, hm2, st⟩ := st.freeze (i := 0) rfl (by simp)
 have st : St m0 m2 [] w0 w (lgE g b s n sl lv wv S N (stE sb g mb L Es)) := st.perm (List.perm_middle (l₁ := [_, _, _, _])).symm
 refine wl_nil ?_
 refine then_go ?_
 refine wc_seq ?_
 refine wc_region ?_
 refine wl_val (v_mkfunc rfl rfl) rfl ?_
 refine wl_val (v_assign' (by conv => (lhs; whnf))) rfl ?_
 refine wl_nil ?_
 refine then_go ?_
 refine wc_ret ?_
 exact ret1 rfl ⟨b3, m2, _, A, rfl, fun k o h => hg2.le k o (hg1.le k o h), hA.mono hg2.le, hAM, hm2, st⟩
theorem c_sall1 {mA : Mem} {W : World} {l b1 : Nat} {av : Value} {A : List AcT} (J : Nat → World → Prop) (Jx : World → Prop) (him : ∀ i W, J i W → Im mA W)
  (hy : ∀ i W W2 u (hi : i < A.length), J i W → St (heapM W) (heapM W) [] W W2 [byE u A[i].1.data] → YieldR Tryz.prog l [.string (strB A[i].1.key), u] W2 fun v W' => (v = .bool true ∧ J (i + 1) W') ∨ (v = .bool false ∧ Jx W'))
  (hA : AcsM mA av A) (hAl : A.length ≤ 1000000) (hAd : ∀ a ∈ A, a.1.data.length ≤ 1048576) (hJ : J 0 W) (hrd : Reads Tryz.prog W 22 ⟨b1, 0, none⟩ av) :
  Ret Tryz.prog 64 #[.func (.yield l) #[] #[], .pointer (some ⟨b1, 0, none⟩)] W fun _ W' => J A.length W' ∨ Jx W' := by
 obtain ⟨la, lc, rfl⟩ := hA.1.sl
 refine ret_of Tryz.call64 Tryz.func64 rfl Tryz.ntmps64 Tryz.results64 rfl ?_
 refine wc_seq ?_
 refine wc_region ?_
 refine wl_val (v_load rfl hrd) rfl ?_
 refine wl_val (v_len_s Tryz.underlying22 rfl) rfl ?_
 refine wl_val (v_move' (by conv => (lhs; whnf))) rfl ?_
 refine wl_nil ?_
 refine then_go ?_
 refine wc_block ?_
 refine wc_loop (S := Nat) (fun q r w' => ∃ i, q + i = A.length ∧ r 0 = .func (.yield l) #[] #[] ∧ r 5 = .slice la A.length lc ∧ r 6 = .int .i64 A.length ∧ r 7 = .int .i64 i ∧ J i w') id A.length ⟨0, by omega, rfl, rfl, rfl, rfl, hJ⟩ ?_
 rintro q r w ⟨i, hqi, g0, g5, g6, g7, hJ⟩
 refine wc_o 0 g0 (wc_o 5 g5 (wc_o 6 g6 (wc_o 7 g7 ?_)))
 refine wc_seq ?_
 refine wc_region ?_
 refine wl_val (v_lss rfl rfl) rfl ?_
 refine wl_nil ?_
 refine then_go ?_
 refine wc_seq ?_
 refine wc_if rfl (fun h8 => ?_) (fun h8 => ?_)
 ·refine wc_skip ?_
  refine then_go ?_
  refine wc_seq ?_
  refine wc_block ?_
  refine wc_seq ?_
  have hi : i < A.length := by omega
  have st := St.start (im_heapM w)
  obtain ⟨lb, lo, da, dc, hla, hd, hrL, _⟩ := hA.at hi
  subst hla
  have hok : AcOk mA A[i].1 A[i].2 := hA.2 _ (List.getElem_mem hi)
  have hdl := hAd _ (List.getElem_mem hi)
  have hyy := fun W2 u => hy i w W2 u hi
  obtain ⟨x, hx⟩ : ∃ x, x = A[i].1 := ⟨_, rfl⟩
  rw [← hx] at hd hok hdl hyy
  rw [hd] at hok
  have hrX : ∀ {w' : World}, Im mA w' → Reads Tryz.prog w' 57 ⟨lb, lo + i * 3, none⟩ (.agg (acC x (.slice da x.data.length dc)).toArray) := by rw [← hd, hx]; exact hrL
  have hdm : SlM (heapM w) (.slice da x.data.length dc) 1 x.data.length (bs x.data) := hok.data.mono (him i w hJ)
  refine wc_region ?_
  refine wl_val (v_ias i Tryz.underlying22 TF.t57 rfl rfl (by first | rfl | omega) (by first | omega | (dsimp only at *; omega))) rfl ?_
  refine wl_val (v_load rfl (hrX (him i _ hJ))) rfl ?_
  refine wl_alloc TF.z57 st rfl ?_
  intro b4 w st
  refine wl_storeW (cs := (acC x (.slice da x.data.length dc)).toArray) 0 st rfl TF.t57 rfl rfl (by exact Ac.len hok) rfl (by exact Ac.one hok) ?_
  intro w3 st
  refine wl_nil ?_
  refine then_go ?_
  refine wc_seq ?_
  refine wc_drawI TF.mixed ?_
  have st := st.pure (touch_drew _)
  refine fli_val 0 rfl (fun _ => (v_move' (by conv => (lhs; whnf)))) rfl (by kernel_rfl) ?_
  refine fli_val 1 rfl (fun _ => (v_fa TF.f57_0 rfl)) rfl (by kernel_rfl) ?_
  refine fli_ld 2 rfl (v_load rfl (by first | exact st.reads (v := .string (strB x.key)) 0 rfl TF.t9 (Ac.g0_1 hok) | exact st.reads (v := .string (strB x.key)) 1 rfl TF.t9 (Ac.g0_1 hok))) (by kernel_rfl) ?_
  refine fli_val 3 rfl (fun _ => (v_fa TF.f57_2 rfl)) rfl (by kernel_rfl) ?_
  refine fli_ld 4 rfl (v_load rfl (st.reads (v := .slice da x.data.length dc) 0 rfl TF.t23 (Ac.g2_1 hok))) (by kernel_rfl) ?_
  refine fli_eff1 5 [3, 1, 0] [2] (by kernel_rfl) ⟨obl_ld rfl rfl rfl (v_load rfl (st.reads (v := .slice da x.data.length dc) 0 rfl TF.t23 (Ac.g2_1 hok))), obl_ld rfl rfl rfl (v_load rfl (by first | exact st.reads (v := .string (strB x.key)) 0 rfl TF.t9 (Ac.g0_1 hok) | exact st.reads (v := .string (strB x.key)) 1 rfl TF.t9 (Ac.g0_1 hok))), trivial⟩ rfl ?_
  refine wli_call rfl (c_bcloneR st hdm (by omega)) rfl ?_
  intro v16 w4 st
  refine wli_nil ⟨rfl, ?_⟩
  refine fli_eff1 6 [3, 1] [] (by kernel_rfl) ⟨obl_ld rfl rfl rfl (v_load rfl (by first | exact st.reads (v := .string (strB x.key)) 0 rfl TF.t9 (Ac.g0_1 hok) | exact st.reads (v := .string (strB x.key)) 1 rfl TF.t9 (Ac.g0_1 hok))), trivial⟩ rfl ?_
  refine wli_yield rfl rfl (hyy w4 v16 hJ (st.drop 1)) rfl ?_
  intro v17 w5 hR
  obtain ⟨bb, rfl, hR2⟩ : ∃ bb : Bool, v17 = .bool bb ∧ ((bb = true ∧ J (i + 1) w5) ∨ (bb = false ∧ Jx w5)) := by
   rcases hR with ⟨rfl, h⟩ | ⟨rfl, h⟩
   ·exact ⟨true, rfl, .inl ⟨rfl, h⟩⟩
   ·exact ⟨false, rfl, .inr ⟨rfl, h⟩⟩
  refine wli_nil ⟨rfl, ?_⟩
  refine fli_val 7 rfl (fun _ => (v_not rfl)) rfl (by kernel_rfl) ?_
  refine fli_nil (by kernel_rfl) trivial ?_
  refine then_go ?_
  refine wc_cond rfl (fun h18 => ?_) (fun h18 => ?_)
  ·refine wc_ret (block_ret (then_ret (then_ret (block_ret ?_))))
   refine ret0 ?_
   rcases hR2 with ⟨rfl, h⟩ | ⟨rfl, h⟩
   ·cases h18
   ·exact .inr h
  ·refine wc_skip ?_
   refine block_go (then_go ?_)
   refine wc_region ?_
   refine wl_val (v_add' (c := ((i + 1 : Nat) : Int)) rfl rfl (by omega) (by omega) (by omega)) rfl ?_
   refine wl_val (v_move' (by conv => (lhs; whnf))) rfl ?_
   refine wl_nil ?_
   refine then_go ?_
   rcases hR2 with ⟨rfl, h⟩ | ⟨rfl, h⟩
   ·exact ⟨q - 1, by simp; omega, i + 1, by omega, rfl, rfl, rfl, rfl, h⟩
   ·cases h18
 ·refine wc_exit (then_exit (then_exit (block_hit ?_)))
  refine end0 ?_
  have hiA : i = A.length := by omega
  subst hiA
  exact .inl hJ
end
end Go.Proofs.YtladpaehbolghaaGreat

namespace Go.Proofs.YtladpaehbolghaaGreat
open Go Go.RowKit K SH GC JR
end Go.Proofs.YtladpaehbolghaaGreat

namespace Go.Proofs.YtladpaehbolghaaGreat
open Go Go.RowKit K SH GC JR
end Go.Proofs.YtladpaehbolghaaGreat
