/- val.Props, hedgerowref02.Props: whether properties are good. No condition. -/
import Derived.Test.YtcokiflkjnekeaaGreatValB
import Derived.Test.YtcokiflkjnekeaaGreatDeep
namespace Go.Hg
open Go.RowKit Go.Proofs

def ltS (a b : ByteArray) : Bool := Op.bytesLess a.toList b.toList
theorem bytesLess_tri : ∀ a b : List UInt8, (Op.bytesLess a b || decide (a = b)) = !(Op.bytesLess b a)
  | [], [] => by simp [Op.bytesLess]
  | [], b :: bs => by simp [Op.bytesLess]
  | a :: l, [] => by simp [Op.bytesLess]
  | a :: l, b :: bs => by
    have ih := bytesLess_tri l bs
    unfold Op.bytesLess
    by_cases h1 : a < b
    · have h2 : ¬ b < a := by
        rw [UInt8.lt_iff_toNat_lt] at *; omega
      have h3 : ¬ b = a := fun e => by subst e; exact h2 h1
      simp [h1, h2, h3]
    · by_cases h2 : b < a
      · have h3 : ¬ a = b := fun e => by subst e; exact h1 h2
        simp [h1, h2, h3]
      · have h3 : a = b := by
          rw [UInt8.lt_iff_toNat_lt] at *
          exact UInt8.toNat_inj.1 (by omega)
        subst h3
        simp [h1, ih]
theorem ltS_tri (a b : ByteArray) : (ltS a b || decide (a = b)) = !(ltS b a) := by
  have h := bytesLess_tri a.toList b.toList
  have e : decide (a = b) = decide (a.toList = b.toList) := by
    rw [← ba_beq]
    by_cases h : a.toList = b.toList
    · simp [h]
    · rw [decide_eq_false h]; exact beq_eq_false_iff_ne.2 h
  unfold ltS
  rw [e]; exact h

def PropOkAt (l : List PProp) (i : Nat) : Prop := ∀ p, l[i]? = some p → NameOk p.name ∧ GoodV p.v ∧ (0 < i → ∀ q, l[i - 1]? = some q → ltS q.name p.name = true)
def PropsOk (l : List PProp) : Prop := l.length ≤ 8 ∧ ∀ i, i < l.length → PropOkAt l i
open Classical in
noncomputable def propsB (l : List PProp) : Bool := decide (PropsOk l)
theorem propsB_true {l : List PProp} (h : PropsOk l) : propsB l = true := by unfold propsB; simp [h]
theorem propsB_false {l : List PProp} (h : ¬ PropsOk l) : propsB l = false := by unfold propsB; simp [h]
theorem propsB_iff {l : List PProp} : propsB l = true ↔ PropsOk l := by unfold propsB; simp

end Go.Hg
