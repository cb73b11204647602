/- A law's row: arguments of other types, opened. No condition. -/
import Derived.Test.YtcokiflkjnekeaaGreatRowB
import Derived.OpenShut
namespace Go.Hg
open Go.RowKit Go.ChangeShapes Go.WideShapes Go.Deep Go.Proofs

section
variable {H : Type} {enc : TypeId × Value → H} {W : World} {base : Nat} {sp : Nat → Bool} {held : Bool}
set_option maxRecDepth 100000 in
theorem openOp1 {v : Value} {d : DataW H} {ps : List MemPlace} {r : Reach} {b0 : Nat} (hval : Value.okWide Tryz.prog W r b0 41 v) (h : DataW.Trod enc Tryz.prog W base sp held 41 v d ps) : ∃ o : POp, v = o.args := by
  obtain ⟨cs, rfl, -⟩ := okWide_struct Tryz.underlying41 hval
  obtain ⟨n, hn⟩ := h
  obtain ⟨o, ho⟩ := openOp hn
  refine ⟨o, ?_⟩
  have e : cs.toList = o.cells := ho
  have e2 : cs = o.cells.toArray := by rw [← e]
  rw [e2]
  rfl
set_option maxRecDepth 100000 in
theorem openU8 {v : Value} {d : DataW H} {ps : List MemPlace} {r : Reach} {b0 : Nat} (hval : Value.okWide Tryz.prog W r b0 5 v) (h : DataW.Trod enc Tryz.prog W base sp held 5 v d ps) : ∃ k : Nat, k < 256 ∧ v = .int .u8 k := by
  obtain ⟨m, rfl⟩ := okWide_int Tryz.underlying5 hval
  obtain ⟨n, hn⟩ := h
  obtain ⟨k, e, -, hw⟩ := DataW.trod_int Tryz.underlying5 hn
  have hb := bounds_u8 hw
  have e2 : m = k := by
    have e' : [Value.int .u8 m] = [Value.int .u8 k] := e
    simpa using e'
  subst e2
  exact ⟨m.toNat, by omega, by rw [Int.toNat_of_nonneg hb.1]⟩
end
end Go.Hg
