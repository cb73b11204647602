/- The statement GraphLoads: law17.GraphLoads returns true at each input, and its input reads as it did. No condition. -/
import Derived.Test.YtcokiflkjnekeaaRows
import Derived.Test.YtcokiflkjnekeaaLoadsLaw
import Derived.Test.YtcokiflkjnekeaaRowD
import Derived.WalkKit
import Derived.ProofKit
import Derived.OpenShut
namespace Go.Proofs.Ytcokiflkjnekeaa
open Go.ChangeShapes Go.WideShapes Go.ChangeAt Go.RowKit

theorem own : ownKnob Try.prog.godebug = none := by kernel_rfl
theorem laid : laidOutB Try.prog = true := by kernel_rfl
theorem rowed : mapsRowed Try.prog = true := by kernel_rfl
theorem kids : Kids Try.prog (· < Try.prog.types.size) := kids_rows laid rowed
theorem slicesFull : ∀ t e, t < Try.prog.types.size → Try.prog.underlying t = some (.slice e) → 0 < Try.prog.cellsOf e := slices_full_of _ (by kernel_rfl)

set_option maxRecDepth 100000 in
theorem graphLoadsLifted (os : Os) (started : os.Started) (H : Type) (enc : TypeId × Value → H) :
    ReturnsInHanded {} Try.checked os 6 .any (Rows.graphLoadsSpec.pre6 enc Try.prog Try.f6 Rows.graphLoadsRow.domain false) (Rows.graphLoadsSpec.post enc Try.prog Try.f6 false true false false) := by
  refine returnsInHanded_of_change (C := Try.checked) own started (by kernel_rfl) Try.func6
    (ChangeSpec.witness6 (enc := enc) (C := Try.checked) false ⟨#[], #[.agg #[.slice none 0 0, .slice none 0 0, .int .i64 0], .slice none 0 0], []⟩ 8 (by kernel_rfl) (by kernel_rfl) (by kernel_rfl) (by kernel_rfl)) ?_
  intro W base args ds gs before hval0 hW _ _
  have hval : ∀ (j : Nat) t v, Try.f6.params[j]? = some t → args[j]? = some v → Value.okWide Try.prog W .any base t v := hval0
  have hW' := hW
  obtain ⟨p, q, hA0, hV, rfl, _, _⟩ := hW
  have hA : DataW.TrodAll enc Try.prog W 0 (fun _ => true) true Try.f6.params.toList args.toList ds p := hA0
  rw [Try.params6] at hA hval
  obtain ⟨v0, v1, d0, d1, p0, p1, rfl, rfl, rfl, h0, h1⟩ := trodAll_two hA
  obtain ⟨rfl, rfl⟩ := trodVars_none hV
  obtain ⟨l0n, l0e, l0N, l0E, l0x, rfl, hl0n, hl0e⟩ := Go.Hg.openTold (hval 0 64 v0 rfl rfl) h0
  obtain ⟨l1, hl1⟩ := Go.Hg.openOps (hval 1 22 v1 rfl rfl) h1
  refine (Go.Hg.lawLoads l0n l0e l0N l0E l0x _ v1 l1 W hl0n hl0e hl1).mono fun e W' ⟨he, hg⟩ => ⟨_, he, ?_⟩
  exact Go.Hg.lawPost kids slicesFull (by decide +kernel) hW' rfl rfl rfl rfl rfl Try.underlying4 hg

theorem graphLoads : Rows.GraphLoadsSaid :=
  OpenClaim.holds_of_wide 6 Try.f6 rfl rfl rfl rfl rfl rfl rfl ⟨rfl, rfl, rfl, rfl, rfl⟩ rfl rfl rfl rfl rfl (by kernel_rfl) Try.func6 (by kernel_rfl)
    (of_decide_eq_true (by kernel_rfl)) (by unfold Func.isWrapper; first | (rw [if_pos (by decide +kernel)]; kernel_rfl) | (rw [if_neg (by decide +kernel)]; exact ⟨rfl, rfl⟩))
    (fun os started H enc _ => graphLoadsLifted os started H enc)
end Go.Proofs.Ytcokiflkjnekeaa
