/-
  Proved here: for every input the law TreeAgain returns true, and what it was handed reads behind the call as before. No condition.
-/
import Derived.Test.YtkbmhhbclbgdpaaRows
import Derived.Test.YtkbmhhbclbgdpaaUw
import Derived.Test.YtkbmhhbclbgdpaaUu
namespace Go.Proofs.Ytkbmhhbclbgdpaa
open Go Go.ChangeShapes Go.WideShapes Go.ChangeAt Go.RowKit K SH PT

theorem Try.owne : ownKnob Try.prog.godebug = none := by kernel_rfl
theorem Try.laidOute : laidOutB Try.prog = true := by kernel_rfl

set_option maxRecDepth 100000 in
theorem treeAgain_lifted (os : Os) (started : os.Started) (H : Type) (enc : TypeId × Value → H) :
    ReturnsInHanded {} Try.checked os 7 .any (Rows.treeAgainSpec.pre6 enc Try.prog Try.f7 Rows.treeAgainRow.domain false) (Rows.treeAgainSpec.post enc Try.prog Try.f7 false true false false) := by
  refine returnsInHanded_of_change (C := Try.checked) Try.owne started (by kernel_rfl) Try.func7
    (ChangeSpec.witness6 (enc := enc) (C := Try.checked) false ⟨#[], #[.slice none 0 0, .slice none 0 0, arr z32, arr z32, arr z32], []⟩ 8 (by kernel_rfl) (by kernel_rfl) (by kernel_rfl) (by kernel_rfl)) ?_
  intro W base args ds gs before hval0 hW hcnd _
  have hval : ∀ (j : Nat) t v, Try.f7.params[j]? = some t → args[j]? = some v → Value.okWide Try.prog W .any base t v := hval0
  have hW' := hW
  obtain ⟨p, q, hA0, hV, rfl, hfz, hnd⟩ := hW
  have hA : DataW.TrodAll enc Try.prog W 0 (fun _ => true) true Try.f7.params.toList args.toList ds p := hA0
  rw [Try.params7] at hA hval
  obtain ⟨v0, v1, v2, v3, v4, d0, d1, d2, d3, d4, p0, p1, p2, p3, p4, rfl, rfl, rfl, h0, h1, h2, h3, h4⟩ := trodAll_five hA
  obtain ⟨fu0, hf0⟩ := h0
  obtain ⟨sa0, sl0, sc0, rfl⟩ := okWide_slice Try.underlying22 (hval 0 22 v0 rfl rfl)
  obtain ⟨l0, hl0, hn0⟩ := open_digs hf0
  obtain ⟨fu1, hf1⟩ := h1
  obtain ⟨sa1, sl1, sc1, rfl⟩ := okWide_slice Try.underlying22 (hval 1 22 v1 rfl rfl)
  obtain ⟨l1, hl1, hn1⟩ := open_digs hf1
  obtain ⟨l2, rfl, hl2⟩ := open_dig (hval 2 24 v2 rfl rfl) h2
  obtain ⟨l3, rfl, hl3⟩ := open_dig (hval 3 24 v3 rfl rfl) h3
  obtain ⟨l4, rfl, hl4⟩ := open_dig (hval 4 24 v4 rfl rfl) h4
  refine Calls.mono (P := Try.prog) (c_f7 (im_heapM W) hl0 hl1 hl2 hl3 hl4).2 fun e W1 ⟨v, he, t, hv⟩ => ?_
  subst hv
  subst he
  exact ⟨_, rfl, post_true Try.laidOute (by kernel_rfl) rfl hW' t rfl rfl Try.underlying4⟩

theorem treeAgain_holds : Rows.TreeAgainSaid :=
  OpenClaim.holds_of_wide 7 Try.f7 rfl rfl rfl rfl rfl rfl rfl ⟨rfl, rfl, rfl, rfl, rfl⟩ rfl rfl rfl rfl rfl (by kernel_rfl) Try.func7 (by kernel_rfl)
    (of_decide_eq_true (by kernel_rfl)) (by unfold Func.isWrapper; first | (rw [if_pos (by decide +kernel)]; kernel_rfl) | (rw [if_neg (by decide +kernel)]; exact ⟨rfl, rfl⟩))
    (fun os started H enc _ => treeAgain_lifted os started H enc)

end Go.Proofs.Ytkbmhhbclbgdpaa
