/- The statement AdjTells: law18.AdjTells returns true at each input, and its input reads as it did. No condition. -/
import Derived.Test.YtfffnkgdpbaakaaGreatRows
import Derived.Test.YtfffnkgdpbaakaaGreatLaw18T
import Derived.Test.YtfffnkgdpbaakaaGreatAdjJ
import Derived.WalkKit
import Derived.ProofKit
import Derived.OpenShut
namespace Go.Proofs.YtfffnkgdpbaakaaGreat
open Go.ChangeShapes Go.WideShapes Go.ChangeAt Go.RowKit

theorem own : ownKnob Tryz.prog.godebug = none := by kernel_rfl
theorem laid : laidOutB Tryz.prog = true := by kernel_rfl
theorem rowed : mapsRowed Tryz.prog = true := by kernel_rfl
theorem kids : Kids Tryz.prog (· < Tryz.prog.types.size) := kids_rows laid rowed
theorem slicesFull : ∀ t e, t < Tryz.prog.types.size → Tryz.prog.underlying t = some (.slice e) → 0 < Tryz.prog.cellsOf e := slices_full_of _ (by kernel_rfl)

set_option maxRecDepth 100000 in
theorem adjTellsLifted (os : Os) (started : os.Started) (H : Type) (enc : TypeId × Value → H) :
    ReturnsInHanded {} Tryz.checked os 8 .any (Rows.adjTellsSpec.pre6 enc Tryz.prog Tryz.f8 Rows.adjTellsRow.domain false) (Rows.adjTellsSpec.post enc Tryz.prog Tryz.f8 false true false false) := by
  refine returnsInHanded_of_change (C := Tryz.checked) own started (by kernel_rfl) Tryz.func8
    (ChangeSpec.witness6 (enc := enc) (C := Tryz.checked) false ⟨#[], #[.slice none 0 0, .agg #[.int .i64 0, .int .i64 0], .string ByteArray.empty], []⟩ 8 (by kernel_rfl) (by kernel_rfl) (by kernel_rfl) (by kernel_rfl)) ?_
  intro W base args ds gs before hval0 hW _ _
  have hval : ∀ (j : Nat) t v, Tryz.f8.params[j]? = some t → args[j]? = some v → Value.okWide Tryz.prog W .any base t v := hval0
  have hW' := hW
  obtain ⟨p, q, hA0, hV, rfl, _, _⟩ := hW
  have hA : DataW.TrodAll enc Tryz.prog W 0 (fun _ => true) true Tryz.f8.params.toList args.toList ds p := hA0
  rw [Tryz.params8] at hA hval
  obtain ⟨v0, v1, v2, d0, d1, d2, p0, p1, p2, rfl, rfl, rfl, h0, h1, h2⟩ := trodAll_three hA
  obtain ⟨rfl, rfl⟩ := trodVars_none hV
  obtain ⟨l0, hl0⟩ := Go.Hg.openOps (hval 0 22 v0 rfl rfl) h0
  obtain ⟨l1x, l1y, hl1x, hl1y, rfl⟩ := Go.Hg.openArr2 (hval 1 23 v1 rfl rfl) h1
  obtain ⟨l2, rfl⟩ := Go.Hg.openStr (hval 2 9 v2 rfl rfl)
  refine (Go.Hg.law18Tells _ v0 l0 l1x l1y l2 W hl0).mono fun e W' ⟨he, hg⟩ => ⟨_, he, ?_⟩
  exact Go.Hg.lawPost kids slicesFull (by decide +kernel) hW' rfl rfl rfl rfl rfl Tryz.underlying4 hg

theorem adjTells : Rows.AdjTellsSaid :=
  OpenClaim.holds_of_wide 8 Tryz.f8 rfl rfl rfl rfl rfl rfl rfl ⟨rfl, rfl, rfl, rfl, rfl⟩ rfl rfl rfl rfl rfl (by kernel_rfl) Tryz.func8 (by kernel_rfl)
    (of_decide_eq_true (by kernel_rfl)) (by unfold Func.isWrapper; first | (rw [if_pos (by decide +kernel)]; kernel_rfl) | (rw [if_neg (by decide +kernel)]; exact ⟨rfl, rfl⟩))
    (fun os started H enc _ => adjTellsLifted os started H enc)
end Go.Proofs.YtfffnkgdpbaakaaGreat
