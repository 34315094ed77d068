/-
  Proved here: for every input the law DiskFused returns true, and what it was handed reads behind the call as before. No condition.
-/
import Derived.Test.YtekhcjgmgflmkaaRows
import Derived.Test.YtekhcjgmgflmkaaDw
import Derived.Test.YtekhcjgmgflmkaaDu
namespace Go.Proofs.Ytekhcjgmgflmkaa
open Go Go.ChangeShapes Go.WideShapes Go.ChangeAt Go.RowKit K DK

theorem Try.owny5 : ownKnob Try.prog.godebug = none := by kernel_rfl
theorem Try.laidOuty5 : laidOutB Try.prog = true := by kernel_rfl

set_option maxRecDepth 100000 in
theorem diskFused_lifted (os : Os) (started : os.Started) (H : Type) (enc : TypeId × Value → H) :
    ReturnsInHanded {} Try.checked os 7 .any (Rows.diskFusedSpec.pre6 enc Try.prog Try.f7 Rows.diskFusedRow.domain false) (Rows.diskFusedSpec.post enc Try.prog Try.f7 false true false false) := by
  refine returnsInHanded_of_change (C := Try.checked) Try.owny5 started (by kernel_rfl) Try.func7
    (ChangeSpec.witness6 (enc := enc) (C := Try.checked) false ⟨#[], #[.int .i64 0, .slice none 0 0, .slice none 0 0], []⟩ 8 (by kernel_rfl) (by kernel_rfl) (by kernel_rfl) (by kernel_rfl)) ?_
  intro W base args ds gs before hval0 hW hcnd _
  have hval : ∀ (j : Nat) t v, Try.f7.params[j]? = some t → args[j]? = some v → Value.okWide Try.prog W .any base t v := hval0
  have hW' := hW
  obtain ⟨p, q, hA0, hV, rfl, hfz, hnd⟩ := hW
  have hA : DataW.TrodAll enc Try.prog W 0 (fun _ => true) true Try.f7.params.toList args.toList ds p := hA0
  rw [Try.params7] at hA hval
  obtain ⟨v0, v1, v2, d0, d1, d2, p0, p1, p2, rfl, rfl, rfl, h0, h1, h2⟩ := trodAll_three hA
  obtain ⟨a0, rfl, rfl, rfl, wa0⟩ := open_int Try.underlying3 (hval 0 3 v0 rfl rfl) h0
  obtain ⟨sa1, sl1, sc1, rfl⟩ := okWide_slice Try.underlying38 (hval 1 38 v1 rfl rfl)
  obtain ⟨fu1, hf1⟩ := h1
  obtain ⟨l1, hl1⟩ := open_ops hf1
  obtain ⟨sa2, sl2, sc2, rfl⟩ := okWide_slice Try.underlying38 (hval 2 38 v2 rfl rfl)
  obtain ⟨fu2, hf2⟩ := h2
  obtain ⟨l2, hl2⟩ := open_ops hf2
  refine Calls.mono (P := Try.prog) (l_fused (im_heapM W) hl1 hl2).2 fun e W1 ⟨v, he, t, hv⟩ => ?_
  subst hv
  subst he
  exact ⟨_, rfl, post_true Try.laidOuty5 (by kernel_rfl) rfl hW' t rfl rfl Try.underlying4⟩

theorem diskFused_holds : Rows.DiskFusedSaid :=
  OpenClaim.holds_of_wide 7 Try.f7 rfl rfl rfl rfl rfl rfl rfl ⟨rfl, rfl, rfl, rfl, rfl⟩ rfl rfl rfl rfl rfl (by kernel_rfl) Try.func7 (by kernel_rfl)
    (of_decide_eq_true (by kernel_rfl)) (by unfold Func.isWrapper; first | (rw [if_pos (by decide +kernel)]; kernel_rfl) | (rw [if_neg (by decide +kernel)]; exact ⟨rfl, rfl⟩))
    (fun os started H enc _ => diskFused_lifted os started H enc)

end Go.Proofs.Ytekhcjgmgflmkaa
