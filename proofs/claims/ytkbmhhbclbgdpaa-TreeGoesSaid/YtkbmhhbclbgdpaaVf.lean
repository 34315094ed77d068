/-
  Proved here: for every input the law TreeGoes returns true, and what it was handed reads behind the call as before. No condition.
-/
import Derived.Test.YtkbmhhbclbgdpaaRows
import Derived.Test.YtkbmhhbclbgdpaaUw
import Derived.Test.YtkbmhhbclbgdpaaUx
namespace Go.Proofs.Ytkbmhhbclbgdpaa
open Go Go.ChangeShapes Go.WideShapes Go.ChangeAt Go.RowKit K SH PT

theorem Try.ownf : ownKnob Try.prog.godebug = none := by kernel_rfl
theorem Try.laidOutf : laidOutB Try.prog = true := by kernel_rfl

set_option maxRecDepth 100000 in
theorem treeGoes_lifted (os : Os) (started : os.Started) (H : Type) (enc : TypeId × Value → H) :
    ReturnsInHanded {} Try.checked os 8 .any (Rows.treeGoesSpec.pre6 enc Try.prog Try.f8 Rows.treeGoesRow.domain false) (Rows.treeGoesSpec.post enc Try.prog Try.f8 false true false false) := by
  refine returnsInHanded_of_change (C := Try.checked) Try.ownf started (by kernel_rfl) Try.func8
    (ChangeSpec.witness6 (enc := enc) (C := Try.checked) false ⟨#[], #[.slice none 0 0, .slice none 0 0, .int .i64 0], []⟩ 8 (by kernel_rfl) (by kernel_rfl) (by kernel_rfl) (by kernel_rfl)) ?_
  intro W base args ds gs before hval0 hW hcnd _
  have hval : ∀ (j : Nat) t v, Try.f8.params[j]? = some t → args[j]? = some v → Value.okWide Try.prog W .any base t v := hval0
  have hW' := hW
  obtain ⟨p, q, hA0, hV, rfl, hfz, hnd⟩ := hW
  have hA : DataW.TrodAll enc Try.prog W 0 (fun _ => true) true Try.f8.params.toList args.toList ds p := hA0
  rw [Try.params8] at hA hval
  obtain ⟨v0, v1, v2, d0, d1, d2, p0, p1, p2, rfl, rfl, rfl, h0, h1, h2⟩ := trodAll_three hA
  obtain ⟨fu0, hf0⟩ := h0
  obtain ⟨sa0, sl0, sc0, rfl⟩ := okWide_slice Try.underlying22 (hval 0 22 v0 rfl rfl)
  obtain ⟨l0, hl0, hn0⟩ := open_digs hf0
  obtain ⟨fu1, hf1⟩ := h1
  obtain ⟨sa1, sl1, sc1, rfl⟩ := okWide_slice Try.underlying22 (hval 1 22 v1 rfl rfl)
  obtain ⟨l1, hl1, hn1⟩ := open_digs hf1
  obtain ⟨a2, rfl, rfl, rfl, wa2⟩ := open_int Try.underlying3 (hval 2 3 v2 rfl rfl) h2
  refine Calls.mono (P := Try.prog) (c_f8 (im_heapM W) hl0 hl1 hn1).2 fun e W1 ⟨v, he, t, hv⟩ => ?_
  subst hv
  subst he
  exact ⟨_, rfl, post_true Try.laidOutf (by kernel_rfl) rfl hW' t rfl rfl Try.underlying4⟩

theorem treeGoes_holds : Rows.TreeGoesSaid :=
  OpenClaim.holds_of_wide 8 Try.f8 rfl rfl rfl rfl rfl rfl rfl ⟨rfl, rfl, rfl, rfl, rfl⟩ rfl rfl rfl rfl rfl (by kernel_rfl) Try.func8 (by kernel_rfl)
    (of_decide_eq_true (by kernel_rfl)) (by unfold Func.isWrapper; first | (rw [if_pos (by decide +kernel)]; kernel_rfl) | (rw [if_neg (by decide +kernel)]; exact ⟨rfl, rfl⟩))
    (fun os started H enc _ => treeGoes_lifted os started H enc)

end Go.Proofs.Ytkbmhhbclbgdpaa
