/-
  Proved here: for every input the law DiskDoes returns true, and what it was handed reads behind the call as before. No condition.
-/
import Derived.Test.YtekhcjgmgflmkaaRows
import Derived.Test.YtekhcjgmgflmkaaDw
import Derived.Test.YtekhcjgmgflmkaaDo
namespace Go.Proofs.Ytekhcjgmgflmkaa
open Go Go.ChangeShapes Go.WideShapes Go.ChangeAt Go.RowKit K DK

theorem Try.owny2 : ownKnob Try.prog.godebug = none := by kernel_rfl
theorem Try.laidOuty2 : laidOutB Try.prog = true := by kernel_rfl

set_option maxRecDepth 100000 in
theorem diskDoes_lifted (os : Os) (started : os.Started) (H : Type) (enc : TypeId × Value → H) :
    ReturnsInHanded {} Try.checked os 4 .any (Rows.diskDoesSpec.pre6 enc Try.prog Try.f4 Rows.diskDoesRow.domain false) (Rows.diskDoesSpec.post enc Try.prog Try.f4 false true false false) := by
  refine returnsInHanded_of_change (C := Try.checked) Try.owny2 started (by kernel_rfl) Try.func4
    (ChangeSpec.witness6 (enc := enc) (C := Try.checked) false ⟨#[], #[.int .i64 0, .slice none 0 0], []⟩ 8 (by kernel_rfl) (by kernel_rfl) (by kernel_rfl) (by kernel_rfl)) ?_
  intro W base args ds gs before hval0 hW hcnd _
  have hval : ∀ (j : Nat) t v, Try.f4.params[j]? = some t → args[j]? = some v → Value.okWide Try.prog W .any base t v := hval0
  have hW' := hW
  obtain ⟨p, q, hA0, hV, rfl, hfz, hnd⟩ := hW
  have hA : DataW.TrodAll enc Try.prog W 0 (fun _ => true) true Try.f4.params.toList args.toList ds p := hA0
  rw [Try.params4] at hA hval
  obtain ⟨v0, v1, d0, d1, p0, p1, rfl, rfl, rfl, h0, h1⟩ := trodAll_two hA
  obtain ⟨a0, rfl, rfl, rfl, wa0⟩ := open_int Try.underlying3 (hval 0 3 v0 rfl rfl) h0
  obtain ⟨sa1, sl1, sc1, rfl⟩ := okWide_slice Try.underlying38 (hval 1 38 v1 rfl rfl)
  obtain ⟨fu1, hf1⟩ := h1
  obtain ⟨l1, hl1⟩ := open_ops hf1
  refine Calls.mono (P := Try.prog) (l_does (im_heapM W) hl1).2 fun e W1 ⟨v, he, t, hv⟩ => ?_
  subst hv
  subst he
  exact ⟨_, rfl, post_true Try.laidOuty2 (by kernel_rfl) rfl hW' t rfl rfl Try.underlying4⟩

theorem diskDoes_holds : Rows.DiskDoesSaid :=
  OpenClaim.holds_of_wide 4 Try.f4 rfl rfl rfl rfl rfl rfl rfl ⟨rfl, rfl, rfl, rfl, rfl⟩ rfl rfl rfl rfl rfl (by kernel_rfl) Try.func4 (by kernel_rfl)
    (of_decide_eq_true (by kernel_rfl)) (by unfold Func.isWrapper; first | (rw [if_pos (by decide +kernel)]; kernel_rfl) | (rw [if_neg (by decide +kernel)]; exact ⟨rfl, rfl⟩))
    (fun os started H enc _ => diskDoes_lifted os started H enc)

end Go.Proofs.Ytekhcjgmgflmkaa
