/- Who is near whom: the plain words of the reference's way; A trail of 64 changes: the plain words of UndoMost; hedgerowlaw19.UndoMost: true. Conditions: those that each theorem names. -/
import Derived.WalkKit
import Derived.WalkSpells
import Derived.WalkLawsBesides
import Derived.Lib.Hide
import Derived.BigQuiet
import Derived.Deep.LoopGhost
import Derived.Maps.OwnOps
import Derived.Maps.OwnSet
import Derived.Carry
import Derived.Test.YtfachjfohhhgeaaGreatRows
import Derived.Lib.SlKeysI
import Derived.Lib.SliceRun
import Derived.WideMake
import Derived.Deep.RegionLaw
import Derived.Lib.Overlaps
import Derived.Deep.RegionHeld3
import Derived.Laws.ResultCell
import Derived.Shelf.SlSortCmp.WholeK
import Derived.Laws.EntriesVeiled
import Derived.Deep.DeepCutAuto
import Derived.Laws.IdiomStrings
import Derived.Test.YtfachjfohhhgeaaGreatUdL
import Derived.Test.YtfachjfohhhgeaaGreatUdM
import Derived.Test.YtfachjfohhhgeaaGreatUdP
namespace Go.Hg
section
variable {E : List PEdge} {typ : ByteArray}

theorem RSet.more {l l' : List Int} {p p' : Int → Prop} (h : RSet l p) (h' : RSet l' p') (hp : ∀ y, p y → p' y) {x : Int} (hx : p' x) (hn : ¬ p x) : l.length + 1 ≤ l'.length := by
  have := nodup_le (id : Int → Int) l' (x :: l) (List.nodup_cons.2 ⟨fun hm => hn ((h.2 x).1 hm), rises_nodup h.1⟩) (fun z hz => by
    rcases List.mem_cons.1 hz with rfl | hz
    · exact ⟨z, (h'.2 z).2 hx, rfl⟩
    · exact ⟨z, (h'.2 z).2 (hp z ((h.2 z).1 hz)), rfl⟩)
  simpa using this

end
end Go.Hg

namespace Go.Hg

def mostS (k : Nat) : Nat → PTrail
  | 0 => t0
  | j + 1 => (doT (mostM k (mostS k j) j) wa).2
theorem mostI (k : Nat) : ∀ j, j ≤ 64 → MostI k j (mostS k j)
  | 0, _ => ⟨inv0, rfl, rfl, rfl, rfl, by simp [mostS, t0]⟩
  | j + 1, h => ((mostI k j (by omega)).step (by omega)).1
def wn : POp := ⟨2, 999, ByteArray.empty, 0, 0, ByteArray.empty, ⟨0, 0, ByteArray.empty⟩, false⟩
theorem most_more {k : Nat} {T : PTrail} (h : MostI k 64 T) : doT T wa = ((0, 3), T) := by
  unfold doT
  rw [may_wa (h.full (by omega)), if_neg (by simp), if_pos h.len]
theorem most_none {k : Nat} {T : PTrail} (h : MostI k 64 T) : doT T wn = ((0, 60), T) := by
  have hN : hasN T.g 999 = false := hasN_false (fun x hx e => by
    have := ((goodG_inv h.inv.good).nodesB x hx).2.1
    rw [h.next] at this
    omega)
  have hm : mayG typesC wn T.g = 60 := by
    unfold mayG
    rw [if_neg (by decide), if_pos (show wn.kind = 2 from rfl), if_pos (show hasN T.g wn.id = false from hN)]
  unfold doT
  rw [hm, if_pos (by simp)]
theorem most_back {k : Nat} {T : PTrail} (h : MostI k 64 T) (hk : k < 64) : (backT T nmK).1 = 0 ∧ (backT T nmK).2.l.length = k ∧ (backT T nmK).2.marks = [(nmK, k)] := by
  have hm : T.marks = [(nmK, k)] := by rw [h.marks, if_pos hk]
  have hf : T.marks.findIdx? (fun x => decide (x.1 = nmK)) = some 0 := by rw [hm]; rfl
  have e : backT T nmK = (0, ⟨(cutT T k).g, (cutT T k).l, [(nmK, k)]⟩) := by
    unfold backT
    simp only [hf]
    rw [hm]
    rfl
  rw [e]
  refine ⟨rfl, ?_, rfl⟩
  show (T.l.take k).length = k
  rw [List.length_take, h.len]
  omega
theorem MkI.more {k : Nat} {T : PTrail} (h : MkI k 7 T) : (markT T nmMore).1 = 3 ∧ (markT T nmMore).2 = T := by
  obtain ⟨rest, h1, h2, h3⟩ := h.marks
  have hf : (T.marks.filter fun x => !decide (x.1 = nmMore)) = T.marks := by
    refine List.filter_eq_self.2 fun x hx => ?_
    rw [h1] at hx
    rcases List.mem_cons.1 hx with rfl | hx
    · show (!decide (nmK = nmMore)) = true
      decide
    · obtain ⟨j, hj, e⟩ := h3 x hx
      rw [e]
      simpa using (nm_ok j hj).2.2
  have e : markT T nmMore = (3, T) := by
    unfold markT
    rw [if_neg (by decide), hf, if_pos (by rw [h1]; simp [h2])]
  rw [e]
  exact ⟨rfl, rfl⟩
end Go.Hg

namespace Go.Hg
open Go.RowKit Go.Proofs

set_option maxRecDepth 100000 in
set_option maxHeartbeats 8000000 in
theorem law19Most (n : Nat) (hn : n < 256) (w : World) : Calls Tryz.prog 4 #[.int .u8 n] w fun e w' => e = .returned (.bool true) ∧ Grow w w' := by
  obtain ⟨k, hk⟩ : ∃ k, k = n % 64 := ⟨_, rfl⟩
  have hk64 : k < 64 := by omega
  have hq1 : ((n : Int)).tmod 64 = (k : Int) := by rw [Int.tmod_eq_emod_of_nonneg (by omega)]; omega
  have hq2 : IntKind.i64.wrap (n : Int) = (n : Int) := by rw [IntKind.wrap_i64]; omega
  have hq3 : IntKind.i64.wrap (k : Int) = (k : Int) := by rw [IntKind.wrap_i64]; omega
  go_enter Tryz.func4, Tryz.ntmps4
  go_wp2_with fail
  refine (graphNew w).mono ?_
  rintro e w1 ⟨B, rfl, hok, hg1⟩
  have HOK := Lib.hid hok; have HG1 := Lib.hid hg1
  clear hok hg1
  go_wp2_with fail
  refine (undoNew _ B _ w1 HOK.out).mono ?_
  rintro e w2 ⟨A, rfl, hT, hg2⟩
  have HG2 := Lib.hid (HG1.out.step hg2)
  have hs1 := HG1.out.size
  have hs2 := HG2.out.size
  have HT0 := Lib.hid (show TrailOk (fun b => w.heap.size ≤ b ∧ b < w2.heap.size) w2 A B t0 from hT.cut.sub (fun b hb => by omega))
  clear hT hg2
  go_wp2_with fail
  refine (lawTypes _).mono ?_
  rintro e w3 ⟨nv, ev, rfl, hc, hg3⟩
  have HG3 := Lib.hid (HG2.out.step hg3); have HG23 := Lib.hid hg3
  have hs3 : w2.heap.size ≤ w3.heap.size := hg3.size
  have HC3 := Lib.hid (catCut hc)
  obtain ⟨na, nc, ea, ec, ra, rc, ia, ic, rfl, rfl, hz1, hz2⟩ := hc.slices
  clear hc hg3 hz1 hz2
  go_upto_region 4 with fail
  obtain ⟨w5, hw5⟩ : ∃ w5, w3.alloc (.cells #[.slice na typesC.nodes.length nc, .slice ea typesC.edges.length ec, .slice none 0 0, .slice none 0 0, .int .i64 typesC.nextRule] 45) = w5 := ⟨_, rfl⟩
  have HG5 := Lib.hid (show Grow w w5 by rw [← hw5]; exact HG3.out.allocd _)
  have hs5 : w5.heap.size = w3.heap.size + 1 := by rw [← hw5]; simp
  have h5 : w5.heap[w3.heap.size]? = some (.cells #[.slice na typesC.nodes.length nc, .slice ea typesC.edges.length ec, .slice none 0 0, .slice none 0 0, .int .i64 typesC.nextRule] 45 (0, 0)) := by rw [← hw5]; exact heap_alloc_new w3 _
  obtain ⟨P, hP⟩ : ∃ P : Nat → Prop, P = fun b => (w.heap.size ≤ b ∧ b < w2.heap.size) ∨ w5.heap.size ≤ b := ⟨_, rfl⟩
  have HPN := Lib.hid (show ∀ b, w2.heap.size ≤ b → b < w5.heap.size → ¬ P b from fun b h1 h2 hb => by rw [hP] at hb; rcases hb with hb | hb <;> omega)
  have HPW := Lib.hid (show ∀ b, P b → w.heap.size ≤ b from fun b hb => by rw [hP] at hb; rcases hb with hb | hb <;> omega)
  have HPB := Lib.hid (show ∀ b, w5.heap.size ≤ b → P b from fun b hb => by rw [hP]; exact .inr hb)
  have HB := Lib.hid (show ∀ wr, Mod P w5 wr → (w3.heap.size < wr.heap.size ∧ wr.cell? ⟨w3.heap.size, 0, none⟩ = some (.slice na typesC.nodes.length nc) ∧ wr.cell? ⟨w3.heap.size, 1, none⟩ = some (.slice ea typesC.edges.length ec) ∧ wr.cell? ⟨w3.heap.size, 2, none⟩ = some (.slice none 0 0) ∧ wr.cell? ⟨w3.heap.size, 3, none⟩ = some (.slice none 0 0) ∧ wr.cell? ⟨w3.heap.size, 4, none⟩ = some (.int .i64 typesC.nextRule)) ∧ CatR (fun b => w2.heap.size ≤ b ∧ b < w3.heap.size) wr (.slice na typesC.nodes.length nc) (.slice ea typesC.edges.length ec) (.slice none 0 0) (.slice none 0 0) typesC from fun wr m => by
    have hb := blk_mod h5 m (HPN.out _ hs3 (by omega))
    refine ⟨⟨blk_lt hb, (blk_cell hb 0).trans rfl, (blk_cell hb 1).trans rfl, (blk_cell hb 2).trans rfl, (blk_cell hb 3).trans rfl, (blk_cell hb 4).trans rfl⟩, ?_⟩
    have g35 : Grow w3 w5 := by rw [← hw5]; exact (Grow.rfl' w3).allocd _
    exact (HC3.out.grow g35).mod m (fun b hb => HPN.out b hb.1 (by omega)))
  have HT5 := Lib.hid (show TrailOk P w5 A B t0 from (HT0.out.grow (HG23.out.step (by rw [← hw5]; exact (Grow.rfl' w3).allocd _))).sub (fun b hb => by rw [hP]; exact .inl hb))
  rw [hw5]
  clear hw5 hP h5
  go_wp2
  go_loopg [7] 64 (fun g i wr => ∃ j : Nat, j ≤ 64 ∧ g = 64 - j ∧ i = .int .i64 j ∧ TrailOk P wr A B (mostS k j) ∧ Mod P w5 wr)
  case atStart => exact ⟨0, by omega, by omega, rfl, HT5.out, Mod.rfl' _ _⟩
  case round =>
    obtain ⟨j, hj, rfl, rfl, hT, hm⟩ := hrel
    have HTR := Lib.hid hT; have HMR := Lib.hid hm
    have hsr := hm.size
    have HI := Lib.hid (mostI k j hj)
    obtain ⟨⟨b0, b1, b2, b3, b4, b5⟩, hcr⟩ := HB.out wr hm
    have HCR := Lib.hid hcr
    clear hT hm hcr
    by_cases hj64 : j < 64
    · by_cases hjk : j = k
      · subst hjk
        clear b0 b1 b2 b3 b4 b5
        go_wp2_with fail
        refine (undoMark P A B (mostS j j) nmK wr HTR.out HI.out.inv).mono ?_
        rintro e wm ⟨rfl, hT, hm⟩
        rw [HI.out.mid.2.2.2.2 rfl]
        have HTW := Lib.hid (show TrailOk P wm A B (mostM j (mostS j j) j) from by
          unfold mostM
          rw [if_pos rfl]
          exact hT.sub (fun b hb => hb.elim id (fun h => HPB.out b (by omega))))
        have HMW := Lib.hid (HMR.out.step hm)
        clear hT hm
        obtain ⟨⟨b0, b1, b2, b3, b4, b5⟩, hcr⟩ := HB.out wm HMW.out
        have HD := Lib.hid (undoDo P _ A B (mostM j (mostS j j) j) wa _ _ _ _ wm HTW.out HI.out.mid.2.2.2.1 hcr)
        clear hcr
        go_wp2_with fail
        refine HD.out.mono ?_
        rintro e wd ⟨rfl, hT, hm⟩
        rw [(HI.out.step hj64).2]
        have hsw := HMW.out.size
        have HTD := Lib.hid (show TrailOk P wd A B (mostS j (j + 1)) from hT.sub (fun b hb => hb.elim id (fun h => HPB.out b (by omega))))
        have HMD := Lib.hid (HMW.out.step hm)
        clear hT hm HD
        go_wp2
        go_roundg (64 - (j + 1))
        case measure => omega
        case rel => exact ⟨j + 1, by omega, rfl, by first | go_num | (unfold wrap64; refine congrArg _ ?_; omega), HTD.out, HMD.out⟩
      · have hjb : ((j : Int) == (k : Int)) = false := by simp; omega
        clear b0 b1 b2 b3 b4 b5
        have HTW := Lib.hid (show TrailOk P wr A B (mostM k (mostS k j) j) from by
          unfold mostM
          rw [if_neg hjk]
          exact HTR.out)
        have HMW := Lib.hid HMR.out
        obtain ⟨⟨b0, b1, b2, b3, b4, b5⟩, hcr⟩ := HB.out wr HMW.out
        have HD := Lib.hid (undoDo P _ A B (mostM k (mostS k j) j) wa _ _ _ _ wr HTW.out HI.out.mid.2.2.2.1 hcr)
        clear hcr
        go_wp2_with fail
        refine HD.out.mono ?_
        rintro e wd ⟨rfl, hT, hm⟩
        rw [(HI.out.step hj64).2]
        have hsw := HMW.out.size
        have HTD := Lib.hid (show TrailOk P wd A B (mostS k (j + 1)) from hT.sub (fun b hb => hb.elim id (fun h => HPB.out b (by omega))))
        have HMD := Lib.hid (HMW.out.step hm)
        clear hT hm HD
        go_wp2
        go_roundg (64 - (j + 1))
        case measure => omega
        case rel => exact ⟨j + 1, by omega, rfl, by first | go_num | (unfold wrap64; refine congrArg _ ?_; omega), HTD.out, HMD.out⟩
    · obtain rfl : j = 64 := by omega
      have HSM := Lib.hid (undoDo P _ A B (mostS k 64) wa _ _ _ _ wr HTR.out HI.out.inv HCR.out)
      go_wp2_with fail
      refine HSM.out.mono ?_
      rintro e wa1 ⟨rfl, hT, hm⟩
      rw [most_more HI.out] at hT ⊢
      have HMA := Lib.hid (HMR.out.step hm)
      have HTA := Lib.hid (show TrailOk P wa1 A B (mostS k 64) from hT.sub (fun b hb => hb.elim id (fun h => HPB.out b (by omega))))
      have hsa : w5.heap.size ≤ wa1.heap.size := HMA.out.size
      clear hT hm HSM b0 b1 b2 b3 b4 b5
      obtain ⟨⟨b0, b1, b2, b3, b4, b5⟩, hcr⟩ := HB.out wa1 HMA.out
      have HSN := Lib.hid (undoDo P _ A B (mostS k 64) wn _ _ _ _ wa1 HTA.out HI.out.inv hcr)
      clear hcr
      go_wp2_with fail
      refine HSN.out.mono ?_
      rintro e wb1 ⟨rfl, hT, hm⟩
      rw [most_none HI.out] at hT ⊢
      have HMB := Lib.hid (HMA.out.step hm)
      have HTB := Lib.hid (show TrailOk P wb1 A B (mostS k 64) from hT.sub (fun b hb => hb.elim id (fun h => HPB.out b (by omega))))
      have hsb : w5.heap.size ≤ wb1.heap.size := HMB.out.size
      obtain ⟨y1, y2, y3⟩ := most_back HI.out hk64
      have HY := Lib.hid y3
      clear hT hm HSN b0 b1 b2 b3 b4 b5 y3
      go_wp2_with fail
      refine (undoBackTo P A B (mostS k 64) nmK wb1 HTB.out HI.out.inv).mono ?_
      rintro e wc1 ⟨rfl, hT, hm⟩
      rw [y1]
      have HMC := Lib.hid (HMB.out.step hm)
      have hsc : w5.heap.size ≤ wc1.heap.size := HMC.out.size
      have HIC := Lib.hid (show MkI k 0 (backT (mostS k 64) nmK).2 from ⟨HI.out.inv.back _, y2, [], HY.out, rfl, by simp⟩)
      have HTC := Lib.hid (show TrailOk P wc1 A B (backT (mostS k 64) nmK).2 from hT.sub (fun b hb => hb.elim id (fun h => HPB.out b (by omega))))
      clear hT hm y1 y2 HY
      generalize (backT (mostS k 64) nmK).2 = T4 at *
      go_wp2_with fail
      refine (undoDone P A B T4 wc1 HTC.out HIC.out.inv).mono ?_
      rintro e we1 ⟨v, ob, rfl, hown, -, hg⟩
      obtain ⟨a11, c11, rfl, -, -⟩ := hown.isSlice
      rw [HIC.out.len]
      have HME := Lib.hid (HMC.out.step (Mod.of_grow hg))
      have HTE := Lib.hid (HTC.out.grow hg)
      clear hown hg
      go_wp2
      go_loopg [14] 7 (fun g iv wx => ∃ (i : Nat) (T : PTrail), i ≤ 7 ∧ g = 7 - i ∧ iv = .int .i64 i ∧ TrailOk P wx A B T ∧ MkI k i T ∧ Mod P w5 wx)
      case atStart => exact ⟨0, T4, by omega, by omega, rfl, HTE.out, HIC.out, HME.out⟩
      case round =>
        obtain ⟨i, T, hi, rfl, rfl, hT, hI, hm⟩ := hrel
        have HTX := Lib.hid hT; have HIX := Lib.hid hI; have HMX := Lib.hid hm
        have hsx : w5.heap.size ≤ wr.heap.size := hm.size
        clear hT hI hm
        by_cases hi7 : i < 7
        · have hw1 : IntKind.i64.wrap (97 + (i : Int)) = 97 + (i : Int) := by rw [IntKind.wrap_i64]; omega
          have hcv := nmConv i hi7 wr
          have gA : ∀ o1, Grow wr (wr.alloc o1) := fun o1 => (Grow.rfl' wr).allocd o1
          have HGA := Lib.hid gA
          have HMK := Lib.hid (HIX.out.step hi7)
          clear gA
          go_wp2_with fail
          refine (undoMark P A B T (nmI i) _ (HTX.out.grow (HGA.out _)) HIX.out.inv).mono ?_
          rintro e wy ⟨rfl, hT, hm⟩
          rw [HMK.out.1]
          have HTY := Lib.hid (show TrailOk P wy A B (markT T (nmI i)).2 from hT.sub (fun b hb => hb.elim id (fun h => HPB.out b (by simp at h; omega))))
          have HMY := Lib.hid ((HMX.out.step (Mod.of_grow (HGA.out _))).step hm)
          clear hT hm hcv
          go_wp2
          go_roundg (7 - (i + 1))
          case measure => omega
          case rel => exact ⟨i + 1, _, by omega, rfl, by first | go_num | (unfold wrap64; refine congrArg _ ?_; omega), HTY.out, HMK.out.2, HMY.out⟩
        · obtain rfl : i = 7 := by omega
          have HMO := Lib.hid HIX.out.more
          have HAG := Lib.hid HIX.out.again
          go_wp2_with fail
          refine (undoMark P A B T nmMore wr HTX.out HIX.out.inv).mono ?_
          rintro e wy ⟨rfl, hT, hm⟩
          rw [HMO.out.1]
          rw [HMO.out.2] at hT
          have HTY := Lib.hid (show TrailOk P wy A B T from hT.sub (fun b hb => hb.elim id (fun h => HPB.out b (by omega))))
          have HMY := Lib.hid (HMX.out.step hm)
          have hsy : w5.heap.size ≤ wy.heap.size := HMY.out.size
          clear hT hm
          go_wp2_with fail
          refine (undoMark P A B T nmK wy HTY.out HIX.out.inv).mono ?_
          rintro e wz ⟨rfl, hT, hm⟩
          rw [HAG.out.1]
          have HTZ := Lib.hid hT
          have HMZ := Lib.hid (HMY.out.step hm)
          clear hT hm
          go_wp2_with fail
          refine (undoMarks _ A B (markT T nmK).2 wz HTZ.out (HIX.out.inv.mark _)).mono ?_
          rintro e wu ⟨v, ob, rfl, hown, -, hg⟩
          obtain ⟨a12, c12, rfl, -, -⟩ := hown.isSlice
          rw [HAG.out.2]
          have HMU := Lib.hid (HMZ.out.step (Mod.of_grow hg))
          clear hown hg
          go_wp2_with fail
          refine (law19Wakes wu).mono ?_
          rintro e wv ⟨rfl, hgv⟩
          go_wp2
          go_ret
          exact ⟨rfl, (HG5.out.modd HMU.out HPW.out).step hgv⟩
end Go.Hg
