/- A trail of 64 changes: the plain words of UndoMost; hedgerowlaw19.UndoMost: true; A law's row: arguments of other types, opened. Conditions: those that each theorem names. -/
import Derived.WalkKit
import Derived.WalkSpells
import Derived.WalkLawsBesides
import Derived.Lib.Hide
import Derived.BigQuiet
import Derived.Deep.LoopGhost
import Derived.Maps.OwnOps
import Derived.Maps.OwnSet
import Derived.Carry
import Derived.Test.YtfachjfohhhgeaaGreatRows
import Derived.Lib.SlKeysI
import Derived.Lib.SliceRun
import Derived.WideMake
import Derived.Deep.RegionLaw
import Derived.Lib.Overlaps
import Derived.Deep.RegionHeld3
import Derived.Laws.ResultCell
import Derived.Shelf.SlSortCmp.WholeK
import Derived.Laws.EntriesVeiled
import Derived.Deep.DeepCutAuto
import Derived.Laws.IdiomStrings
import Derived.RowKit
import Derived.ReadAgain
import Derived.ChangeOld
import Derived.Deep.Slices
import Derived.OpenShut
import Derived.Test.YtfachjfohhhgeaaGreatUdL
import Derived.Test.YtfachjfohhhgeaaGreatUdM
namespace Go.Hg

def nmK : ByteArray := ⟨#[107]⟩
theorem may_wa {G : PGraph} (h : fullG G = false) : mayG typesC wa G = 0 := by
  unfold mayG
  rw [if_pos (show wa.kind = 1 from rfl), if_neg (by decide), if_neg (by rw [h]; simp)]
def mostM (k : Nat) (T : PTrail) (j : Nat) : PTrail := if j = k then (markT T nmK).2 else T
structure MostI (k j : Nat) (T : PTrail) : Prop where
  inv : TInv T
  nodes : T.g.nodes.length = j
  edges : T.g.edges = []
  next : T.g.next = j + 1
  len : T.l.length = j
  marks : T.marks = if k < j then [(nmK, k)] else []
theorem mark_first {T : PTrail} (h : T.marks = []) (name : ByteArray) (hn : NameOk name) : markT T name = (0, ⟨T.g, T.l, [(name, T.l.length)]⟩) := by
  unfold markT
  rw [if_neg (by simpa using hn), h, if_neg (by simp)]
  rfl
theorem MostI.mid {k j : Nat} {T : PTrail} (h : MostI k j T) : (mostM k T j).g = T.g ∧ (mostM k T j).l = T.l ∧ (mostM k T j).marks = (if k < j + 1 then [(nmK, k)] else []) ∧ TInv (mostM k T j) ∧ (j = k → (markT T nmK).1 = 0) := by
  unfold mostM
  by_cases hj : j = k
  · rw [if_pos hj]
    have hm : T.marks = [] := by rw [h.marks, if_neg (by omega)]
    refine ⟨?_, ?_, ?_, h.inv.mark _, fun _ => ?_⟩
    · rw [mark_first hm nmK (by decide)]
    · rw [mark_first hm nmK (by decide)]
    · rw [mark_first hm nmK (by decide), if_pos (by omega)]
      show [(nmK, T.l.length)] = _
      rw [h.len, hj]
    · rw [mark_first hm nmK (by decide)]
  · rw [if_neg hj]
    refine ⟨rfl, rfl, ?_, h.inv, fun e => absurd e hj⟩
    rw [h.marks]
    by_cases hk : k < j
    · rw [if_pos hk, if_pos (by omega)]
    · rw [if_neg hk, if_neg (by omega)]
theorem MostI.full {k j : Nat} {T : PTrail} (h : MostI k j T) (hj : j ≤ 64) : fullG T.g = false := by
  unfold fullG
  rw [h.nodes, h.edges, h.next]
  simp
  omega
theorem MostI.step {k j : Nat} {T : PTrail} (h : MostI k j T) (hj : j < 64) : MostI k (j + 1) (doT (mostM k T j) wa).2 ∧ (doT (mostM k T j) wa).1.2 = 0 := by
  obtain ⟨m1, m2, m3, m4, -⟩ := h.mid
  have hf := h.full (by omega)
  have e : doT (mostM k T j) wa = ((idG wa T.g, 0), ⟨addNodeG wa T.g, T.l ++ [(opId wa T.g, T.g)], (mostM k T j).marks⟩) := by
    unfold doT
    rw [m1, m2, may_wa hf, if_neg (by simp), if_neg (by rw [h.len]; omega)]
    rfl
  refine ⟨⟨m4.do wa, ?_, ?_, ?_, ?_, ?_⟩, by rw [e]⟩
  · rw [e]
    show (T.g.nodes ++ [_]).length = _
    rw [List.length_append, h.nodes]
    rfl
  · rw [e]; exact h.edges
  · rw [e]
    show T.g.next + 1 = _
    rw [h.next]
    omega
  · rw [e]
    show (T.l ++ [_]).length = _
    rw [List.length_append, h.len]
    rfl
  · rw [e]; exact m3
def nmI (i : Nat) : ByteArray := ⟨#[UInt8.ofNat (97 + i)]⟩
def nmMore : ByteArray := ⟨#[109, 111, 114, 101]⟩
theorem nm_ok : ∀ i < 7, NameOk (nmI i) ∧ nmI i ≠ nmK ∧ nmI i ≠ nmMore := by decide
theorem nm_ne : ∀ i < 7, ∀ j < i, nmI j ≠ nmI i := by decide
structure MkI (k i : Nat) (T : PTrail) : Prop where
  inv : TInv T
  len : T.l.length = k
  marks : ∃ rest : List (ByteArray × Nat), T.marks = (nmK, k) :: rest ∧ rest.length = i ∧ ∀ m ∈ rest, ∃ j < i, m.1 = nmI j
theorem MkI.step {k i : Nat} {T : PTrail} (h : MkI k i T) (hi : i < 7) : (markT T (nmI i)).1 = 0 ∧ MkI k (i + 1) (markT T (nmI i)).2 := by
  obtain ⟨rest, h1, h2, h3⟩ := h.marks
  have hf : (T.marks.filter fun x => !decide (x.1 = nmI i)) = T.marks := by
    refine List.filter_eq_self.2 fun x hx => ?_
    rw [h1] at hx
    rcases List.mem_cons.1 hx with rfl | hx
    · simpa using (nm_ok i hi).2.1.symm
    · obtain ⟨j, hj, e⟩ := h3 x hx
      rw [e]
      simpa using nm_ne i hi j hj
  have e : markT T (nmI i) = (0, ⟨T.g, T.l, T.marks ++ [(nmI i, T.l.length)]⟩) := by
    unfold markT
    rw [if_neg (by simpa using (nm_ok i hi).1), hf, if_neg (by rw [h1]; simp; omega)]
  refine ⟨by rw [e], h.inv.mark _, by rw [e]; exact h.len, ?_⟩
  rw [e]
  refine ⟨rest ++ [(nmI i, T.l.length)], by rw [h1]; rfl, by rw [List.length_append, h2]; rfl, fun m hm => ?_⟩
  rcases List.mem_append.1 hm with hm | hm
  · obtain ⟨j, hj, e⟩ := h3 m hm
    exact ⟨j, by omega, e⟩
  · simp at hm
    subst hm
    exact ⟨i, by omega, rfl⟩
theorem MkI.again {k : Nat} {T : PTrail} (h : MkI k 7 T) : (markT T nmK).1 = 0 ∧ (markT T nmK).2.marks.length = 8 := by
  obtain ⟨rest, h1, h2, h3⟩ := h.marks
  have hf : (T.marks.filter fun x => !decide (x.1 = nmK)) = rest := by
    rw [h1, List.filter_cons, if_neg (by simp)]
    refine List.filter_eq_self.2 fun x hx => ?_
    obtain ⟨j, hj, e⟩ := h3 x hx
    rw [e]
    simpa using (nm_ok j hj).2.1
  have e : markT T nmK = (0, ⟨T.g, T.l, rest ++ [(nmK, T.l.length)]⟩) := by
    unfold markT
    rw [if_neg (by decide), hf, if_neg (by omega)]
  rw [e]
  exact ⟨rfl, by show (rest ++ [_]).length = 8; rw [List.length_append, h2]; rfl⟩
end Go.Hg

namespace Go.Hg
open Go.RowKit Go.Proofs

theorem nmConv (i : Nat) (hi : i < 7) (w : World) : (convert 54 9 (.slice (some ⟨w.heap.size, 0, none⟩) 1 1)).run Tryz.prog (w.alloc (.cells #[.int .u8 (97 + (i : Int))] 5)) = .ok (.string (nmI i)) (w.alloc (.cells #[.int .u8 (97 + (i : Int))] 5)) := by
  refine run_convert_bytes_back _ 54 9 5 ⟨w.heap.size, 0, none⟩ 1 [UInt8.ofNat (97 + i)] Tryz.underlying54 Tryz.underlying5 Tryz.underlying9 ?_
  intro j hj
  have hj0 : j = 0 := by simpa using hj
  subst hj0
  rw [Addr.add_lit, blk_cell (heap_alloc_new w _)]
  have e : (UInt8.ofNat (97 + i)).toNat = 97 + i := by
    rw [UInt8.toNat_ofNat']
    omega
  show some (Value.int .u8 (97 + (i : Int))) = some (.int .u8 ((UInt8.ofNat (97 + i)).toNat : Int))
  rw [e]
  push_cast
  rfl
theorem catCut {S : Nat → Prop} {w : World} {nv ev rv iv : Value} {c : PCat} (h : CatR S w nv ev rv iv c) : CatR (fun b => S b ∧ b < w.heap.size) w nv ev rv iv c := ⟨slCut h.1, slCut h.2.1, slCut h.2.2.1, slCut h.2.2.2⟩
end Go.Hg

namespace Go.Hg
open Go.RowKit Go.ChangeShapes Go.WideShapes Go.Deep Go.Proofs

section
variable {H : Type} {enc : TypeId × Value → H} {W : World} {base : Nat} {sp : Nat → Bool} {held : Bool}
set_option maxRecDepth 100000 in
theorem openU8 {v : Value} {d : DataW H} {ps : List MemPlace} {r : Reach} {b0 : Nat} (hval : Value.okWide Tryz.prog W r b0 5 v) (h : DataW.Trod enc Tryz.prog W base sp held 5 v d ps) : ∃ k : Nat, k < 256 ∧ v = .int .u8 k := by
  obtain ⟨m, rfl⟩ := okWide_int Tryz.underlying5 hval
  obtain ⟨n, hn⟩ := h
  obtain ⟨k, e, -, hw⟩ := DataW.trod_int Tryz.underlying5 hn
  have hb := bounds_u8 hw
  have e2 : m = k := by
    have e' : [Value.int .u8 m] = [Value.int .u8 k] := e
    simpa using e'
  subst e2
  exact ⟨m.toNat, by omega, by rw [Int.toNat_of_nonneg hb.1]⟩
end
end Go.Hg
