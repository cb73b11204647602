/- A law's row: nodes, edges, catalogs, opened; Arguments: lists of int64, calls of a job; the laid rule. Conditions: those that each theorem names. -/
import Derived.WalkKit
import Derived.WalkSpells
import Derived.WalkLawsBesides
import Derived.Lib.Hide
import Derived.BigQuiet
import Derived.Deep.LoopGhost
import Derived.Test.YtfachjfohhhgeaaGreatDoorRows
import Derived.Lib.SliceRun
import Derived.WideMake
import Derived.Deep.RegionLaw
import Derived.Lib.Overlaps
import Derived.Deep.RegionHeld3
import Derived.Laws.ResultCell
import Derived.Shelf.SortM.Plain
import Derived.Shelf.SortM.SortNone
import Derived.Shelf.SlicesE.DeleteFunc
import Derived.Maps.OwnOps
import Derived.Maps.OwnSet
import Derived.Carry
import Derived.Lib.SlKeysI
import Derived.Shelf.SlIterI.Nil
import Derived.Conc.LoneCalls
import Derived.Conc.SmallLaws
import Derived.Deep.CutBlock
import Derived.Deep.DeepCutAuto
import Derived.Laws.EntriesVeiled
import Derived.Maps.RangeWalk
import Derived.Lib.SlMapFilter
import Derived.RowKit
import Derived.ReadAgain
import Derived.ChangeOld
import Derived.Deep.Slices
import Derived.OpenShut
import Derived.MakeChecks
import Derived.LaidMore
import Derived.Test.YtfachjfohhhgeaaGreatDoorBdL
import Derived.Test.YtfachjfohhhgeaaGreatDoorBdN
namespace Go.Hg
open Go.RowKit Go.ChangeShapes Go.WideShapes Go.Deep Go.Proofs

section
variable {H : Type} {enc : TypeId × Value → H} {W : World} {base : Nat} {sp : Nat → Bool} {held : Bool}
theorem openListC {α : Type} {tS tE : TypeId} {sz : Nat} (R : α → List Value → Prop) (ht : Tryz.prog.underlying tS = some (.slice tE)) (hcz : Tryz.prog.cellsOf tE = sz) (hsz : 0 < sz)
    (open1 : ∀ (n : Nat) (cs : List Value) x, DataW.trod enc Tryz.prog W base sp held n tE cs = some x → ∃ o, R o cs) {n : Nat} {cs : List Value} {x : DataW H × List MemPlace} (h : DataW.trod enc Tryz.prog W base sp held n tS cs = some x) :
    ∃ v, ∃ l : List α, cs = [v] ∧ SlR (fun _ => True) W sz R v l := by
  rcases open_slice ht h with ⟨hc, -⟩ | ⟨a, len, cap, m, n, D, Pl, hc, -, hlc, hcm, hm, -, hel⟩
  · exact ⟨_, [], hc, (OwnL.nil W tE sz R).toSl (by simp)⟩
  · rw [hcz] at hel
    have hlm : len ≤ m := by rw [hm]; split <;> omega
    have key : ∀ i, i < len → ∃ (o : α) (r : List Value), R o r ∧ r.length = sz ∧ ∀ (j : Nat) c, r[j]? = some c → W.cell? ((a.add (i * sz)).add j) = some c := by
      intro i hi
      obtain ⟨cs', h1, h2⟩ := hel i (by omega)
      obtain ⟨o, ho⟩ := open1 _ _ _ h2
      exact ⟨o, cs', ho, (cells?_at h1).1, (cells?_at h1).2⟩
    obtain ⟨l, hl, hcells⟩ : ∃ l : List (α × List Value), l.length = len ∧ ∀ i p, l[i]? = some p → R p.1 p.2 ∧ p.2.length = sz ∧ ∀ (j : Nat) c, p.2[j]? = some c → W.cell? ((a.add (i * sz)).add j) = some c := by
      have build : ∀ n, n ≤ len → ∃ l : List (α × List Value), l.length = n ∧ ∀ i p, l[i]? = some p → R p.1 p.2 ∧ p.2.length = sz ∧ ∀ (j : Nat) c, p.2[j]? = some c → W.cell? ((a.add (i * sz)).add j) = some c := by
        intro n
        induction n with
        | zero => intro _; exact ⟨[], rfl, by simp⟩
        | succ n ih =>
          intro hn
          obtain ⟨l, hl, hc⟩ := ih (by omega)
          obtain ⟨o, r, ho⟩ := key n (by omega)
          refine ⟨l ++ [(o, r)], by simp [hl], fun i o' hi => ?_⟩
          by_cases hin : i < n
          · rw [List.getElem?_append_left (by omega)] at hi
            exact hc i o' hi
          · rw [List.getElem?_append_right (by omega), hl] at hi
            have e : i - n = 0 := by have := (List.getElem?_eq_some_iff.1 hi).1; simp at this; omega
            rw [e] at hi
            simp at hi
            subst hi
            obtain rfl : i = n := by omega
            exact ho
      exact build len (Nat.le_refl _)
    subst hl
    refine ⟨_, l.map (·.1), hc, some a, cap, l.map (·.2), by simp, by simpa using hlc, hcm, by simp, fun k x r hx hr => ?_, fun h0 => ?_⟩
    · rw [List.getElem?_map] at hx hr
      cases hk : l[k]? with
      | none => rw [hk] at hx; simp at hx
      | some p =>
        rw [hk] at hx hr
        simp only [Option.map_some, Option.some.injEq] at hx hr
        subst hx; subst hr
        exact (hcells k p hk).1
    · have h0' : 0 < l.length := by simpa using h0
      obtain ⟨-, hz, hc0⟩ := hcells 0 l[0] (List.getElem?_eq_getElem h0')
      have hc0 := hc0 0 _ (List.getElem?_eq_getElem (by omega))
      rw [Nat.zero_mul] at hc0
      have ha : a = ⟨a.block, a.off, none⟩ := by
        obtain ⟨b, o, s⟩ := a
        cases s with
        | none => rfl
        | some s =>
          exfalso
          simp only [Addr.add, if_pos] at hc0
          unfold World.cell? at hc0
          simp at hc0
          split at hc0 <;> cases hc0
      have hblt : a.block < W.heap.size := by
        have := World.block_lt_of_cell? W _ hc0
        simpa [Addr.add] using this
      refine ⟨a.block, a.off, by rw [← ha], trivial, hblt, fun k r j c hr hj => ?_⟩
      rw [List.getElem?_map] at hr
      obtain ⟨p, hp, rfl⟩ := Option.map_eq_some_iff.1 hr
      have := (hcells k p hp).2.2 j c hj
      rw [ha, Addr.add_lit, Addr.add_lit] at this
      exact this
end
end Go.Hg

namespace Go.Hg
open Go.RowKit Go.ChangeShapes Go.WideShapes Go.Deep Go.Proofs

section
variable {H : Type} {enc : TypeId × Value → H} {W : World} {base : Nat} {sp : Nat → Bool} {held : Bool}
theorem openIdsW {n : Nat} {cs : List Value} {x : DataW H × List MemPlace} (h : DataW.trod enc Tryz.prog W base sp held n 25 cs = some x) : ∃ v, ∃ l : List Int, cs = [v] ∧ IdsR (fun _ => True) W v l ∧ ∀ y ∈ l, (Lit.int .i64 y).wf = true := by
  obtain ⟨v, l, h1, h2⟩ := openListC (fun (y : Int) c => c = [Value.int .i64 y] ∧ (Lit.int .i64 y).wf = true) Tryz.underlying25 cellsI64 (by omega) (fun _ _ _ h => by
    obtain ⟨k, e, -, hw⟩ := DataW.trod_int Tryz.underlying2 h
    exact ⟨k, e, hw⟩) h
  refine ⟨v, l, h1, SlR.sub h2 (fun _ h => h) (fun _ _ _ h => h.1), fun y hy => ?_⟩
  obtain ⟨_, _, _, _, _, hA⟩ := SlR.open h2
  obtain ⟨k, hk, e⟩ := List.getElem_of_mem hy
  obtain ⟨_, _, _, _, _, _, hR, _⟩ := hA k y (by rw [List.getElem?_eq_getElem hk, e])
  exact hR.2
end
end Go.Hg
