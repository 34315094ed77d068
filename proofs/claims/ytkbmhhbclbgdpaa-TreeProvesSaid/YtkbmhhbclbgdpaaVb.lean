/-
  Proved here: for every input the law TreeProves returns true, and what it was handed reads behind the call as before. No condition.
-/
import Derived.Test.YtkbmhhbclbgdpaaRows
import Derived.Test.YtkbmhhbclbgdpaaUw
import Derived.Test.YtkbmhhbclbgdpaaUs
namespace Go.Proofs.Ytkbmhhbclbgdpaa
open Go Go.ChangeShapes Go.WideShapes Go.ChangeAt Go.RowKit K SH PT

theorem Try.ownb : ownKnob Try.prog.godebug = none := by kernel_rfl
theorem Try.laidOutb : laidOutB Try.prog = true := by kernel_rfl

set_option maxRecDepth 100000 in
theorem treeProves_lifted (os : Os) (started : os.Started) (H : Type) (enc : TypeId × Value → H) :
    ReturnsInHanded {} Try.checked os 4 .any (Rows.treeProvesSpec.pre6 enc Try.prog Try.f4 Rows.treeProvesRow.domain false) (Rows.treeProvesSpec.post enc Try.prog Try.f4 false true false false) := by
  refine returnsInHanded_of_change (C := Try.checked) Try.ownb started (by kernel_rfl) Try.func4
    (ChangeSpec.witness6 (enc := enc) (C := Try.checked) false ⟨#[], #[.slice none 0 0, .slice none 0 0, arr z32], []⟩ 8 (by kernel_rfl) (by kernel_rfl) (by kernel_rfl) (by kernel_rfl)) ?_
  intro W base args ds gs before hval0 hW hcnd _
  have hval : ∀ (j : Nat) t v, Try.f4.params[j]? = some t → args[j]? = some v → Value.okWide Try.prog W .any base t v := hval0
  have hW' := hW
  obtain ⟨p, q, hA0, hV, rfl, hfz, hnd⟩ := hW
  have hA : DataW.TrodAll enc Try.prog W 0 (fun _ => true) true Try.f4.params.toList args.toList ds p := hA0
  rw [Try.params4] at hA hval
  obtain ⟨v0, v1, v2, d0, d1, d2, p0, p1, p2, rfl, rfl, rfl, h0, h1, h2⟩ := trodAll_three hA
  obtain ⟨fu0, hf0⟩ := h0
  obtain ⟨sa0, sl0, sc0, rfl⟩ := okWide_slice Try.underlying22 (hval 0 22 v0 rfl rfl)
  obtain ⟨l0, hl0, hn0⟩ := open_digs hf0
  obtain ⟨fu1, hf1⟩ := h1
  obtain ⟨sa1, sl1, sc1, rfl⟩ := okWide_slice Try.underlying22 (hval 1 22 v1 rfl rfl)
  obtain ⟨l1, hl1, hn1⟩ := open_digs hf1
  obtain ⟨l2, rfl, hl2⟩ := open_dig (hval 2 24 v2 rfl rfl) h2
  refine Calls.mono (P := Try.prog) (c_f4 (im_heapM W) hl0 hl1 hl2 hn1).2 fun e W1 ⟨v, he, t, hv⟩ => ?_
  subst hv
  subst he
  exact ⟨_, rfl, post_true Try.laidOutb (by kernel_rfl) rfl hW' t rfl rfl Try.underlying4⟩

theorem treeProves_holds : Rows.TreeProvesSaid :=
  OpenClaim.holds_of_wide 4 Try.f4 rfl rfl rfl rfl rfl rfl rfl ⟨rfl, rfl, rfl, rfl, rfl⟩ rfl rfl rfl rfl rfl (by kernel_rfl) Try.func4 (by kernel_rfl)
    (of_decide_eq_true (by kernel_rfl)) (by unfold Func.isWrapper; first | (rw [if_pos (by decide +kernel)]; kernel_rfl) | (rw [if_neg (by decide +kernel)]; exact ⟨rfl, rfl⟩))
    (fun os started H enc _ => treeProves_lifted os started H enc)

end Go.Proofs.Ytkbmhhbclbgdpaa
