/- A quicker check of the lexical order of a great region. No condition. -/
import Derived.Test.YtcokiflkjnekeaaGreatBase
namespace Go.Hg
section
variable (md : Region.Mode) (ops : Array Oper)
/-- each operation waits for elder ones alone, and is apart from the younger ones that do not wait for it -/
def lexL : Nat → List Oper → Bool
  | _, [] => true
  | k, o :: l => (o.after.all fun e => !Region.binds md e || decide (e.on < k)) && (l.all fun oj => oj.after.any (fun e => Region.binds md e && e.on == k) || o.apart ops oj) && lexL (k + 1) l
def lexC : Bool := Region.noSelect ops && lexL md ops 0 ops.toList
def lits (n k : Nat) : Array Bool := ((List.range n).map fun j => decide (j < k)).toArray
theorem lits_get (n k j : Nat) (d : Bool) : (lits n k).getD j d = if j < n then decide (j < k) else d := by
  unfold lits
  rw [Array.getD_eq_getD_getElem?]
  simp only [List.getElem?_toArray, List.getElem?_map]
  by_cases h : j < n
  · rw [List.getElem?_range h, if_pos h]; rfl
  · rw [if_neg h, List.getElem?_eq_none (by simpa using h)]; rfl
theorem lits_get? (n k j : Nat) : (lits n k)[j]? = if j < n then some (decide (j < k)) else none := by
  unfold lits
  simp only [List.getElem?_toArray, List.getElem?_map]
  by_cases h : j < n
  · rw [List.getElem?_range h, if_pos h]; rfl
  · rw [if_neg h, List.getElem?_eq_none (by simpa using h)]; rfl
theorem lits_size (n k : Nat) : (lits n k).size = n := by simp [lits]
theorem lits_set (n k : Nat) (hk : k < n) : (lits n k).setIfInBounds k true = lits n (k + 1) := by
  apply Array.ext_getElem?
  intro i
  rw [Array.getElem?_setIfInBounds, lits_get?, lits_get?, lits_size]
  by_cases e : k = i
  · subst e; rw [if_pos rfl, if_pos hk, if_pos hk, decide_eq_true (by omega)]
  · rw [if_neg e]
    by_cases hi : i < n
    · rw [if_pos hi, if_pos hi]
      by_cases h : i < k
      · rw [decide_eq_true h, decide_eq_true (by omega)]
      · rw [decide_eq_false h, decide_eq_false (by omega)]
    · rw [if_neg hi, if_neg hi]
theorem lits_zero (n : Nat) : Array.replicate n false = lits n 0 := by
  apply Array.ext
  · simp [lits]
  · intro i h1 h2
    simp [lits]
theorem lexFrom_of : ∀ (l : List Oper) (k : Nat), ops.toList.drop k = l → k ≤ ops.size → lexL md ops k l = true → Region.lexFrom md ops l.length k (lits ops.size k) = true
  | [], k, hl, hk, _ => by
    have hkn : k = ops.size := by
      have := congrArg List.length hl
      simp at this; omega
    subst hkn
    show (Region.ready md ops (lits ops.size ops.size)).isEmpty = true
    unfold Region.ready
    rw [List.isEmpty_iff, List.filter_eq_nil_iff]
    intro i hi
    have hi' : i < ops.size := by simpa using hi
    rw [lits_get, if_pos hi', decide_eq_true hi']
    simp
  | o :: l, k, hl, hk, h => by
    have hkn : k < ops.size := by
      have := congrArg List.length hl
      simp at this; omega
    have ho : ops[k]? = some o := by
      have h1 := List.getElem?_drop (xs := ops.toList) (i := k) (j := 0)
      rw [hl] at h1
      simpa using h1.symm
    have hl' : ops.toList.drop (k + 1) = l := by
      have := congrArg List.tail hl
      simpa using this
    simp only [lexL, Bool.and_eq_true] at h
    obtain ⟨⟨h1, h2⟩, h3⟩ := h
    show ((Region.ready md ops (lits ops.size k)).contains k && Region.free md ops (lits ops.size k) k && Region.lexFrom md ops l.length (k + 1) ((lits ops.size k).setIfInBounds k true)) = true
    rw [lits_set _ _ hkn, lexFrom_of l (k + 1) hl' hkn h3, Bool.and_true, Bool.and_eq_true]
    constructor
    · rw [List.contains_iff_mem]
      unfold Region.ready
      rw [List.mem_filter]
      refine ⟨by simpa using hkn, ?_⟩
      rw [lits_get, if_pos hkn, decide_eq_false (Nat.lt_irrefl k), ho]
      simp only [Bool.not_false, Option.map_some, Option.getD_some, Bool.true_and]
      rw [Array.all_eq_true_iff_forall_mem] at h1 ⊢
      intro e he
      have := h1 e he
      rw [Bool.or_eq_true] at this ⊢
      refine this.imp id (fun h => ?_)
      have hlt := of_decide_eq_true h
      rw [lits_get, if_pos (by omega)]
      exact h
    · unfold Region.free
      rw [ho]
      show ((List.range ops.size).all _) = true
      rw [List.all_eq_true]
      intro j hj
      have hj' : j < ops.size := by simpa using hj
      by_cases hjk : j = k
      · subst hjk; simp
      · rw [lits_get, if_pos hj']
        by_cases hlt : j < k
        · rw [decide_eq_true hlt]; simp
        · have hm : ops[j]? = some (ops[j]) := Array.getElem?_eq_getElem hj'
          rw [hm]
          have hmem : ops[j] ∈ l := by
            rw [← hl']
            rw [List.mem_drop_iff_getElem]
            exact ⟨j - (k + 1), by simp; omega, by simp; congr 1; omega⟩
          have := List.all_eq_true.1 h2 _ hmem
          rw [Bool.or_eq_true]
          right
          exact this
theorem lexB_of (h : lexC md ops = true) : Region.lexB md ops = true := by
  unfold lexC at h
  rw [Bool.and_eq_true] at h
  unfold Region.lexB
  rw [h.1, lits_zero]
  have := lexFrom_of md ops ops.toList 0 rfl (Nat.zero_le _) h.2
  simpa using this
end
end Go.Hg
