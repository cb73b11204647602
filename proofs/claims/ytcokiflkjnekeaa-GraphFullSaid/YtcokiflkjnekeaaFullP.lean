/- A graph that is filled with nodes. No condition. -/
import Derived.Test.YtcokiflkjnekeaaPlain
namespace Go.Hg

def manOp : POp := ⟨1, 0, sMan, 0, 0, ByteArray.empty, ⟨0, 0, ByteArray.empty⟩, false⟩
def zooOp : POp := ⟨1, 0, sZoo, 0, 0, ByteArray.empty, ⟨0, 0, ByteArray.empty⟩, false⟩
def knowsOp : POp := ⟨3, 0, sKnows, 1, 2, ByteArray.empty, ⟨0, 0, ByteArray.empty⟩, false⟩
def goOp (n : Int) : POp := ⟨2, n, ByteArray.empty, 0, 0, ByteArray.empty, ⟨0, 0, ByteArray.empty⟩, false⟩
def fullN (k : Nat) : PGraph := ⟨(List.range k).map fun j : Nat => (⟨(j : Int) + 1, sMan, []⟩ : PNode), [], (k : Int) + 1⟩
theorem fullN_zero : fullN 0 = PGraph.empty := rfl
theorem fullN_nodes (k : Nat) : (fullN k).nodes = (List.range k).map fun j : Nat => (⟨(j : Int) + 1, sMan, []⟩ : PNode) := rfl
theorem fullN_len (k : Nat) : (fullN k).nodes.length = k := by simp [fullN]
theorem fullN_not {k : Nat} (h : k < 1024) : fullG (fullN k) = false := by
  unfold fullG
  rw [fullN_len, decide_eq_false (show ¬ 1024 ≤ k + (fullN k).edges.length by show ¬ 1024 ≤ k + 0; omega), decide_eq_false (show ¬ 4611686018427387903 < (fullN k).next by show ¬ 4611686018427387903 < (k : Int) + 1; omega)]
  rfl
theorem fullN_yes : fullG (fullN 1024) = true := by
  unfold fullG
  rw [fullN_len, decide_eq_true (show 1024 ≤ 1024 + (fullN 1024).edges.length from Nat.le_add_right _ _)]
  rfl
theorem fullN_may {k : Nat} (h : k < 1024) : mayG typesC manOp (fullN k) = 0 := by
  unfold mayG
  rw [if_pos (show manOp.kind = 1 from rfl), if_neg (show ¬ memS manOp.typ typesC.nodes = false by decide), if_neg (by rw [fullN_not h]; simp)]
theorem fullN_do (k : Nat) : doG manOp (fullN k) = fullN (k + 1) := by
  unfold doG
  rw [if_pos (show manOp.kind = 1 from rfl)]
  unfold addNodeG fullN
  rw [List.range_succ, List.map_append]
  simp [manOp]
theorem fullN_step {k : Nat} (h : k < 1024) : stepG typesC manOp (fullN k) = fullN (k + 1) := by
  unfold stepG
  rw [if_pos (fullN_may h), fullN_do]
theorem fullN_id (k : Nat) : idG manOp (fullN k) = (k : Int) + 1 := rfl
theorem fullN_inv : ∀ k : Nat, k ≤ 1024 → GInv (fullN k)
  | 0, _ => GInv.empty
  | k + 1, h => by rw [← fullN_step (by omega)]; exact (fullN_inv k (by omega)).stepG
theorem full_may : mayG typesC manOp (fullN 1024) = 50 := by
  unfold mayG
  rw [if_pos (show manOp.kind = 1 from rfl), if_neg (show ¬ memS manOp.typ typesC.nodes = false by decide), if_pos fullN_yes]
theorem full_mem {k m : Nat} (h : k < m) : (⟨(k : Int) + 1, sMan, []⟩ : PNode) ∈ (fullN m).nodes := by
  rw [fullN_nodes]
  exact List.mem_map.2 ⟨k, List.mem_range.2 h, rfl⟩
theorem full_has {k m : Nat} (h : k < m) : hasN (fullN m) ((k : Int) + 1) = true := by
  unfold hasN
  rw [List.any_eq_true]
  exact ⟨⟨(k : Int) + 1, sMan, []⟩, full_mem h, by simp⟩
theorem full_may2 : mayG typesC knowsOp (fullN 1024) = 50 := by
  unfold mayG
  rw [if_neg (by decide), if_neg (by decide), if_pos (show knowsOp.kind = 3 from rfl), if_neg (show ¬ memS knowsOp.typ typesC.edges = false by decide), if_neg ?_, if_pos fullN_yes]
  have h1 : hasN (fullN 1024) knowsOp.from_ = true := full_has (k := 0) (m := 1024) (by omega)
  have h2 : hasN (fullN 1024) knowsOp.to_ = true := full_has (k := 1) (m := 1024) (by omega)
  rw [h1, h2]
  simp
theorem full_may3 {n : Nat} (h : n < 1024) : mayG typesC (goOp ((n : Int) + 1)) (fullN 1024) = 0 := by
  unfold mayG
  rw [if_neg (show ¬ (goOp ((n : Int) + 1)).kind = 1 from show ¬ (2 : Int) = 1 by decide), if_pos (show (goOp ((n : Int) + 1)).kind = 2 from rfl)]
  have h1 : hasN (fullN 1024) (goOp ((n : Int) + 1)).id = true := full_has h
  rw [h1, if_neg (by simp), if_neg]
  rintro ⟨-, h⟩
  have : (fullN 1024).edges = [] := rfl
  rw [this] at h
  simp at h
def goneN (n : Nat) : PGraph := stepG typesC (goOp ((n : Int) + 1)) (fullN 1024)
theorem gone_inv (n : Nat) : GInv (goneN n) := (fullN_inv 1024 (Nat.le_refl _)).stepG
theorem gone_eq {n : Nat} (h : n < 1024) : goneN n = dropNodeG (goOp ((n : Int) + 1)) (fullN 1024) := by
  unfold goneN stepG
  rw [if_pos (full_may3 h)]
  rfl
theorem gone_next {n : Nat} (h : n < 1024) : (goneN n).next = 1025 := by rw [gone_eq h]; rfl
theorem drop_len {n m : Nat} (h : n < m) : (dropNodeG (goOp ((n : Int) + 1)) (fullN m)).nodes.length < m := by
  have hm : (⟨(n : Int) + 1, sMan, []⟩ : PNode) ∈ (fullN m).nodes := full_mem h
  have hl := fullN_len m
  have := List.length_filter_lt_length_iff_exists (p := fun x : PNode => !decide (x.id = (n : Int) + 1)) (l := (fullN m).nodes) |>.2 ⟨_, hm, by simp⟩
  rw [hl] at this
  exact this
theorem gone_len {n : Nat} (h : n < 1024) : (goneN n).nodes.length < 1024 ∧ (goneN n).edges.length = 0 := by
  rw [gone_eq h]
  exact ⟨drop_len h, rfl⟩
theorem gone_may {n : Nat} (h : n < 1024) : mayG typesC zooOp (goneN n) = 0 := by
  unfold mayG
  rw [if_pos (show zooOp.kind = 1 from rfl), if_neg (show ¬ memS zooOp.typ typesC.nodes = false by decide), if_neg ?_]
  have h1 := gone_len h
  have h2 := gone_next h
  unfold fullG
  rw [decide_eq_false (by omega), decide_eq_false (by omega)]
  simp
theorem gone_id {n : Nat} (h : n < 1024) : idG zooOp (goneN n) = 1025 := by
  show (goneN n).next = 1025
  exact gone_next h
def lastG : PGraph := ⟨[], [], 4611686018427387903⟩
def lastG2 : PGraph := ⟨[⟨4611686018427387903, sMan, []⟩], [], 4611686018427387904⟩
theorem last_good : goodG lastG = true := by decide
theorem last_may : mayG typesC manOp lastG = 0 := by decide
theorem last_step : stepG typesC manOp lastG = lastG2 := by decide
theorem last_id : idG manOp lastG = 4611686018427387903 := rfl
theorem last_may2 : mayG typesC manOp lastG2 = 50 := by decide
end Go.Hg
