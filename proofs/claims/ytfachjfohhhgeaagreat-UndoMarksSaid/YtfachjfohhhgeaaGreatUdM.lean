/- hedgerowkeep.LargeRule, LargeCat, CopyCat; (undo.Trail).Done, Marks. Conditions: those that each theorem names. -/
import Derived.WalkKit
import Derived.WalkSpells
import Derived.WalkLawsBesides
import Derived.Lib.Hide
import Derived.BigQuiet
import Derived.Deep.LoopGhost
import Derived.Maps.OwnOps
import Derived.Maps.OwnSet
import Derived.Carry
import Derived.Test.YtfachjfohhhgeaaGreatRows
import Derived.Lib.SlKeysI
import Derived.Lib.SliceRun
import Derived.WideMake
import Derived.Deep.RegionLaw
import Derived.Lib.Overlaps
import Derived.Deep.RegionHeld3
import Derived.Laws.ResultCell
import Derived.Shelf.SlSortCmp.WholeK
import Derived.Laws.EntriesVeiled
import Derived.Test.YtfachjfohhhgeaaGreatUdL
namespace Go.Hg
open Go.RowKit Go.Proofs

theorem infoStr : (Tryz.prog.info? 9).map (fun i => (i.zero, i.size, i.bytes)) = some (some (.string ByteArray.empty), 1, 16) := by kernel_rfl
end Go.Hg

namespace Go.Hg
open Go.RowKit Go.Proofs

set_option maxRecDepth 100000 in
set_option maxHeartbeats 2000000 in
theorem undoMarks (P : Nat → Prop) (A B : Nat) (T : PTrail) (w : World) (h : TrailOk P w A B T) (hT : TInv T) :
    Calls Tryz.prog 21 #[capU A] w fun e w' => ∃ v ob, e = .returned v ∧ OwnS w' 9 1 v T.marks.length (T.marks.map fun x => .string x.1) ob ∧ (∀ g, ob = some g → w.heap.size ≤ g) ∧ Grow w w' := by
  obtain ⟨S, K, ol, om, hat, -⟩ := h
  obtain ⟨la, lc, ma, mc, hA, hAl, c0, c1, c2, -, q2⟩ := hat.read
  have hsl : SlR (fun _ => True) w 2 RMark (.slice ma T.marks.length mc) T.marks := q2.toSl (S := fun _ => True) (fun _ _ => trivial)
  obtain ⟨aa, ca, hv, hal, hac, hSA⟩ := SlR.open hsl
  simp only [Value.slice.injEq, true_and] at hv
  obtain ⟨rfl, rfl⟩ := hv
  unfold maxLen at hac
  have HA := Lib.hid hSA
  have hln := hT.mlen
  obtain ⟨iO, hiO, hzO0, hzO1, hzO2⟩ := info_parts infoStr
  clear hat q2 hsl hSA hA hT
  go_enter Tryz.func21, Tryz.ntmps21
  go_wp2_with fail
  refine (undoNone2 A B w c0).mono ?_
  rintro e w2 ⟨rfl, hw2⟩
  subst hw2
  go_wp2
  go_loopg [3, 13] T.marks.length (fun g lv i wr => ∃ (k : Nat) (ob : Option Nat), k ≤ T.marks.length ∧ g = T.marks.length - k ∧ i = .int .i64 k ∧ OwnS wr 9 1 lv k ((T.marks.take k).map fun x => .string x.1) ob ∧ (∀ g, ob = some g → w.heap.size ≤ g) ∧ Grow w wr)
  case atStart => exact ⟨0, none, by omega, by omega, rfl, OwnS.nil _ _ _, by simp, Grow.rfl' w⟩
  case round =>
    obtain ⟨k, ob, hk, rfl, rfl, hown, hob, hgr⟩ := hrel
    have HOWN := Lib.hid hown; have HOB := Lib.hid hob; have HGR := Lib.hid hgr
    obtain ⟨oa, oc, rfl, -, -⟩ := hown.isSlice
    clear hown hob
    by_cases hkl : k < T.marks.length
    · obtain ⟨ba, off, ra, rfl, -, hba, hRa, hca⟩ := HA.out k T.marks[k] (List.getElem?_eq_getElem hkl)
      have HTK := Lib.hid (show T.marks.take (k + 1) = T.marks.take k ++ [T.marks[k]] from List.take_succ_eq_append_getElem hkl)
      generalize T.marks[k] = x at *
      obtain ⟨nm, n⟩ := x
      unfold RMark at hRa
      subst hRa
      have hbr : ba < wr.heap.size := Nat.lt_of_lt_of_le hba hgr.size
      have a0 : wr.cell? ⟨ba, off + k * 2, none⟩ = some (.string nm) := by
        rw [World.cell?_of_block (w := w) (hgr.heapEq hba)]; exact hca 0 _ rfl
      have a1 : wr.cell? ⟨ba, off + k * 2 + 1, none⟩ = some (.int .i64 n) := by
        rw [World.cell?_of_block (w := w) (hgr.heapEq hba)]; exact hca 1 _ rfl
      have HGA := Lib.hid (show ∀ o1 o2, Grow wr ((wr.alloc o1).alloc o2) from fun o1 o2 => ((Grow.rfl' wr).allocd o1).allocd o2)
      have HRD := Lib.hid (show ∀ o1, Rd ((wr.alloc o1).alloc (.cells #[.string nm] 9)) 1 (.slice (some ⟨wr.heap.size + 1, 0, none⟩) 1 1) 1 [.string nm] from fun o1 => by
        have h := Rd.lit (wr.alloc o1) #[.string nm] 9 1 1 rfl
        rw [World.size_alloc] at h
        exact h)
      clear hca hba hgr
      go_wp2_with (at_builtin; go_must (refine wpList_append_S _ rfl (.tmp 17) (.tmp 20) 41 rfl 9 iO _ 1 16 Tryz.underlying41 hiO hzO0 hzO1 hzO2 rfl (by decide) (.slice oa k oc) k _ ob rfl (HOWN.out.grow (HGA.out _ _)) (.slice (some ⟨wr.heap.size + 1, 0, none⟩) 1 1) rfl 1 _ (HRD.out _) (by intro u hu; rw [List.mem_singleton] at hu; subst hu; rfl) (by unfold maxLen; omega) (by omega) ?_))
      intro v8 w8 ob8 k1 k2 k3
      try (intro _)
      have g8 : Grow w w8 := (HGR.out.step (HGA.out _ _)).modd k2 (fun b hb => HOB.out b hb)
      have hsr := HGR.out.size
      have ho8 : ∀ g, ob8 = some g → w.heap.size ≤ g := fun g hg => by
        rcases k3 with h | ⟨g', h, hge⟩
        · exact HOB.out g (h ▸ hg)
        · rw [h] at hg; cases hg; (try simp at hge); omega
      have K1 := Lib.hid k1; have G8 := Lib.hid g8; have HO8 := Lib.hid ho8
      obtain ⟨oa8, oc8, rfl, -, -⟩ := k1.isSlice
      clear k1 k2 k3 g8 ho8
      go_wp2
      go_roundg (T.marks.length - (k + 1))
      case measure => omega
      case rel =>
        refine ⟨k + 1, ob8, by omega, rfl, by first | go_num | (unfold wrap64; refine congrArg _ ?_; omega), ?_, HO8.out, G8.out⟩
        rw [HTK.out, List.map_append]
        simpa using K1.out
    · have hke : k = T.marks.length := by omega
      subst hke
      go_wp2
      go_ret
      have h := HOWN.out
      rw [List.take_length] at h
      exact ⟨_, ob, rfl, h, HOB.out, HGR.out⟩

end Go.Hg
