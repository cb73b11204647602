/- law20.wakes: true. Conditions: those that each theorem names. -/
import Derived.WalkKit
import Derived.WalkSpells
import Derived.WalkLawsBesides
import Derived.Lib.Hide
import Derived.BigQuiet
import Derived.Deep.LoopGhost
import Derived.Test.YtanijffgogpmdaaGreatRows
import Derived.Lib.SliceRun
import Derived.WideMake
import Derived.Deep.RegionLaw
import Derived.Lib.Overlaps
import Derived.Deep.RegionHeld3
import Derived.Laws.ResultCell
import Derived.Laws.EntriesVeiled
import Derived.Maps.OwnOps
import Derived.Maps.OwnSet
import Derived.Carry
import Derived.Lib.SlKeysI
import Derived.Maps.RangeWalk
import Derived.Lib.SlMapFilter
import Derived.Deep.DeepCutAuto
import Derived.Shelf.SlIterI.Nil
import Derived.Shelf.SortM.Plain
import Derived.Shelf.SortM.SortNone
import Derived.Shelf.SlMaps.DeleteFunc
import Derived.Shelf.SlSortCmp.WholeK
import Derived.Shelf.SlIterI.Collect
import Derived.RangeFuncBox
import Derived.RangeFuncLeaves
import Derived.RangeFuncWrites
import Derived.Maps.AppendAt
import Derived.Deep.CutBlock
import Derived.BigRegion
import Derived.Test.YtanijffgogpmdaaGreatDirN
namespace Go.Hg
open Go.RowKit Go.Proofs

theorem opsLit (W : World) (l : List POp) (hm : l.length ≤ maxLen) {nb : Nat} (h : W.heap.size = nb) : OpsR (fun _ => True) (W.alloc (.cells (l.map POp.cells).flatten.toArray 44)) (.slice (some ⟨nb, 0, none⟩) l.length l.length) l := by
  subst h
  have hf : (l.map POp.cells).flatten.length = l.length * 10 := by
    clear hm
    induction l with
    | nil => rfl
    | cons a t ih => simp only [List.map_cons, List.flatten_cons, List.length_append, ih, List.length_cons, POp.cells]; simp; omega
  refine opsOwn (ob := some W.heap.size) ?_
  have h1 := OwnS.lit W (l.map POp.cells).flatten.toArray 44 10 l.length hm (by simpa using hf)
  simpa using h1

def sNam : ByteArray := ⟨#[110, 97, 109, 101]⟩
def w20o : POp := ⟨5, 1, ByteArray.empty, 0, 0, sNam, ⟨2, 1, ByteArray.empty⟩, false⟩
def w20a : POp := ⟨1, 0, sMan, 0, 0, ByteArray.empty, ⟨0, 0, ByteArray.empty⟩, false⟩
def w20l : List PSpot := [⟨1, sCity, sNam⟩, ⟨1, sMan, ByteArray.empty⟩]
def w20r : PRule := ⟨4, 1, sCity, sNam, ByteArray.empty, ByteArray.empty, 0, 2⟩
theorem w20_spots : spotsG wG1 [w20o, w20a] = w20l := by decide
theorem w20_set : SpSet w20l (spotsG wG1 [w20o, w20a]) := by
  rw [w20_spots]
  exact ⟨by
    have h : ltSp ⟨1, sCity, sNam⟩ ⟨1, sMan, ByteArray.empty⟩ = true := by kernel_rfl
    unfold w20l
    simp [h], fun _ => Iff.rfl⟩
theorem w20_told : toldR w20l [w20r] = [4] := by decide

set_option maxRecDepth 100000 in
set_option maxHeartbeats 4000000 in
theorem law20Wakes (w : World) : Calls Tryz.prog 37 #[] w fun e w' => e = .returned (.bool true) ∧ Grow w w' := by
  have HO1 := Lib.hid (opsLit1 w wo1 rfl)
  have HW := Lib.hid (show ∀ o1, Grow w (w.alloc o1) from fun o1 => (Grow.rfl' w).allocd o1)
  go_enter Tryz.func37, Tryz.ntmps37
  go_wp2_with fail
  refine (lawMade _ _ [wo1] _ HO1.out).mono ?_
  rintro e w2 h2
  obtain ⟨-, B1, B2, rfl, hpr⟩ : fairOps [wo1] = true ∧ ∃ (B1 B2 : Nat), e = .returned (.tuple #[.pointer (some ⟨B1, 0, none⟩), .pointer (some ⟨B2, 0, none⟩), .bool true]) ∧ Pair 120 55 _ w2 B1 B2 (madeG [wo1]) (madeG [wo1]) := by
    rcases h2 with ⟨h, _⟩ | h
    · rw [w21_fair] at h; cases h
    · exact h
  rw [w21_made] at hpr
  have HG2 := Lib.hid ((HW.out _).step hpr.grown)
  obtain ⟨S1, hok⟩ := hpr.left
  have HOK := Lib.hid hok
  have HL2 := Lib.hid (opsLit w2 [w20o, w20a] (by simp [maxLen]) rfl)
  have HW2 := Lib.hid (show ∀ o1, Grow w2 (w2.alloc o1) from fun o1 => (Grow.rfl' w2).allocd o1)
  clear hpr hok h2
  go_wp2_with fail
  refine (dirtySpots S1 _ B1 wG1 _ [w20o, w20a] _ (HOK.out.grow (HW2.out _)) wi1 HL2.out (by decide) (by decide)).mono ?_
  rintro e w3 ⟨v3, L, rfl, hL, hv3, g3⟩
  obtain rfl : L = w20l := hL.uniq w20_set
  obtain ⟨a3, c3, rfl, h3l, h3c, hA3⟩ := SlR.open hv3
  obtain ⟨b3, o3, r3, rfl, -, hb3, hR3, hc3⟩ := hA3 0 _ rfl
  obtain ⟨b3', o3', r3', e3, -, -, hR3', hc3'⟩ := hA3 1 _ rfl
  simp only [Option.some.injEq, Addr.mk.injEq, and_true] at e3
  obtain ⟨rfl, rfl⟩ := e3
  have HG3 := Lib.hid (HG2.out.step ((HW2.out _).step g3))
  have HV3 := Lib.hid hv3
  have HX := Lib.hid (show ∀ w', Grow w3 w' → b3 < w'.heap.size ∧ w'.cell? ⟨b3, o3 + 1, none⟩ = some (.string ⟨#[99, 105, 116, 121]⟩) ∧ w'.cell? ⟨b3, o3 + 2, none⟩ = some (.string ⟨#[110, 97, 109, 101]⟩) ∧ w'.cell? ⟨b3, o3 + 3 + 1, none⟩ = some (.string ⟨#[109, 97, 110]⟩) from fun w' g => by
    obtain ⟨q0, -, q2, q3⟩ := spotAt hR3 hb3 g hc3
    obtain ⟨-, -, p2, -⟩ := spotAt hR3' hb3 g hc3'
    simp only [Nat.zero_mul, Nat.one_mul, Nat.add_zero] at q2 q3 p2
    exact ⟨q0, q2, q3, p2⟩)
  have HRL := Lib.hid (rulesLit w3 [w20r] (by simp [maxLen]) rfl)
  have HW3 := Lib.hid (show ∀ o1 o2, Grow w3 ((w3.alloc o1).alloc o2) from fun o1 o2 => ((Grow.rfl' w3).allocd o1).allocd o2)
  unfold maxLen at h3c
  clear g3 hL hv3 hA3 hb3 hR3 hc3 hR3' hc3'
  go_wp2_with fail
  refine (dirtyConcerned _ _ _ _ _ _ _ _ [w20r] w20l _ (HRL.out.growS ((Grow.rfl' _).allocd _)) (HV3.out.grow (HW3.out _ _)) (by decide) (by decide) ⟨⟨_, _, _, rfl⟩, ⟨_, _, _, rfl⟩, ⟨_, _, _, rfl⟩, ⟨_, rfl⟩⟩).mono ?_
  rintro e w4 ⟨v4, L4, rfl, hL4, hv4, g4⟩
  obtain rfl : L4 = [4] := hL4.uniq (p' := (· ∈ ([4] : List Int))) ⟨by simp, fun _ => Iff.rfl⟩ (fun y => by rw [w20_told])
  obtain ⟨a4, c4, rfl, h4l, h4c, hA4⟩ := SlR.open hv4
  obtain ⟨b4, o4, r4, rfl, -, hb4, rfl, hc4⟩ := hA4 0 4 rfl
  have k0 : w4.cell? ⟨b4, o4, none⟩ = some (.int .i64 4) := by simpa using hc4 0 _ rfl
  obtain ⟨q0, q1, q2, q3⟩ := HX.out w4 ((HW3.out _ _).step g4)
  have HG4 := Lib.hid (HG3.out.step ((HW3.out _ _).step g4))
  unfold maxLen at h4c
  clear hL4 hv4 g4 hA4 hc4
  go_wp2
  go_ret
  exact ⟨rfl, HG4.out⟩
end Go.Hg
