/- hedgerowlaw19.UndoMarks: true. Conditions: those that each theorem names. -/
import Derived.WalkKit
import Derived.WalkSpells
import Derived.WalkLawsBesides
import Derived.Lib.Hide
import Derived.BigQuiet
import Derived.Deep.LoopGhost
import Derived.Maps.OwnOps
import Derived.Maps.OwnSet
import Derived.Carry
import Derived.Test.YtfachjfohhhgeaaGreatRows
import Derived.Lib.SlKeysI
import Derived.Lib.SliceRun
import Derived.WideMake
import Derived.Deep.RegionLaw
import Derived.Lib.Overlaps
import Derived.Deep.RegionHeld3
import Derived.Laws.ResultCell
import Derived.Shelf.SlSortCmp.WholeK
import Derived.Laws.EntriesVeiled
import Derived.Deep.DeepCutAuto
import Derived.Laws.IdiomStrings
import Derived.RowKit
import Derived.ReadAgain
import Derived.ChangeOld
import Derived.Deep.Slices
import Derived.OpenShut
import Derived.Deep.CutBlock
import Derived.Test.YtfachjfohhhgeaaGreatUdL
import Derived.Test.YtfachjfohhhgeaaGreatUdM
import Derived.Test.YtfachjfohhhgeaaGreatUdN
import Derived.Test.YtfachjfohhhgeaaGreatUdO
import Derived.Test.YtfachjfohhhgeaaGreatUdW
namespace Go.Hg
open Go.RowKit Go.Proofs

theorem rowTxt : RowT Tryz.prog 9 1 16 := RowT.of infoStr rfl (by omega)
theorem infoIntN : (Tryz.prog.info? 3).map (fun i => (i.zero, i.size, i.bytes)) = some (some (.int .i64 0), 1, 8) := by kernel_rfl
theorem rowIntN : RowT Tryz.prog 3 1 8 := RowT.of infoIntN rfl (by omega)
def RNat (n : Nat) (r : List Value) : Prop := r = [.int .i64 (n : Int)]
theorem oneTxt : ∀ x r, RStr x r → r.length = 1 ∧ ∀ u ∈ r, u.oneCell' = true := by
  intro x r h
  unfold RStr at h
  subst h
  exact ⟨rfl, by simp [Value.oneCell']⟩
theorem oneNat : ∀ x r, RNat x r → r.length = 1 ∧ ∀ u ∈ r, u.oneCell' = true := by
  intro x r h
  unfold RNat at h
  subst h
  exact ⟨rfl, by simp [Value.oneCell']⟩
theorem txtOwn {w : World} {v : Value} {l : List ByteArray} {ob : Option Nat} (h : OwnS w 9 1 v l.length (l.map fun x => .string x) ob) : StrsR (fun b => ob = some b) w v l :=
  OwnL.toSl (E := 9) (sz := 1) (R := RStr) (ob := ob) ⟨l.map fun x => [.string x], List.length_map .., fun k x r hk hr => by
    rw [List.getElem?_map, hk] at hr
    exact ⟨(Option.some.inj hr).symm, by rw [← Option.some.inj hr]; rfl⟩, by
    have e : (l.map fun x => [Value.string x]).flatten = l.map fun x => .string x := by
      clear h
      induction l with
      | nil => rfl
      | cons a t ih => rw [List.map_cons, List.flatten_cons, ih]; rfl
    rw [e]
    exact h⟩ (fun g hg => hg)
abbrev TxtD (D : Nat → Prop) (w : World) (v : Value) (l : List ByteArray) : Prop := OwnD 9 1 RStr D w v l
abbrev NatD (D : Nat → Prop) (w : World) (v : Value) (l : List Nat) : Prop := OwnD 3 1 RNat D w v l
abbrev CellS (w : World) (gl gt k : Nat) (m : ByteArray × Nat) : Prop := gl < w.heap.size ∧ gt < w.heap.size ∧ w.cell? ⟨gl, k, none⟩ = some (.string m.1) ∧ w.cell? ⟨gt, k, none⟩ = some (.int .i64 m.2)
def InW (D : Nat → Prop) (w0 wx : World) (M : List (ByteArray × Nat)) (s : ByteArray) (k : Nat) (M' : List (ByteArray × Nat)) (lv av : Value) : Prop :=
  InL M M' s k ∧ TxtD D wx lv (M'.map (·.1)) ∧ NatD D wx av (M'.map (·.2)) ∧ Grow w0 wx

set_option maxRecDepth 100000 in
set_option maxHeartbeats 16000000 in
theorem law19Marks (Sa : Nat → Prop) (va : Value) (ns : List Nat) (kb : Nat) (hkb : kb < 256) (w : World) (h1 : U8R Sa w va ns) : Calls Tryz.prog 5 #[va, .int .u8 kb] w fun e w' => e = .returned (.bool true) ∧ Grow w w' := by
  obtain ⟨aa, ca, rfl, hal, hac, hA⟩ := SlR.open h1
  have HU := Lib.hid hA
  unfold maxLen at hac
  clear h1 hA
  go_enter Tryz.func5, Tryz.ntmps5
  go_wp2_with fail
  refine (graphNew w).mono ?_
  rintro e w1 ⟨B, rfl, hok, hg1⟩
  have HOK := Lib.hid hok; have HG1 := Lib.hid hg1
  clear hok hg1
  go_wp2_with fail
  refine (undoNew _ B _ w1 HOK.out).mono ?_
  rintro e w2 ⟨A, rfl, hT, hg2⟩
  have HG2 := Lib.hid (HG1.out.step hg2)
  have hs1 := HG1.out.size
  have hs2 := HG2.out.size
  have HT0 := Lib.hid (show TrailOk (fun b => w.heap.size ≤ b ∧ b < w2.heap.size) w2 A B t0 from hT.cut.sub (fun b hb => by omega))
  clear hT hg2
  go_wp2_with fail
  refine (lawTypes _).mono ?_
  rintro e w3 ⟨nv, ev, rfl, hc, hg3⟩
  have HG3 := Lib.hid (HG2.out.step hg3); have HG23 := Lib.hid hg3
  have hs3 : w2.heap.size ≤ w3.heap.size := hg3.size
  have HC3 := Lib.hid (catCut hc)
  obtain ⟨na, nc, ea, ec, ra, rc, ia, ic, rfl, rfl, hz1, hz2⟩ := hc.slices
  clear hc hg3 hz1 hz2
  go_upto_region 4 with fail
  obtain ⟨w5, hw5⟩ : ∃ w5, w3.alloc (.cells #[.slice na typesC.nodes.length nc, .slice ea typesC.edges.length ec, .slice none 0 0, .slice none 0 0, .int .i64 typesC.nextRule] 45) = w5 := ⟨_, rfl⟩
  have HG5 := Lib.hid (show Grow w w5 by rw [← hw5]; exact HG3.out.allocd _)
  have hs5 : w5.heap.size = w3.heap.size + 1 := by rw [← hw5]; simp
  have h5 : w5.heap[w3.heap.size]? = some (.cells #[.slice na typesC.nodes.length nc, .slice ea typesC.edges.length ec, .slice none 0 0, .slice none 0 0, .int .i64 typesC.nextRule] 45 (0, 0)) := by rw [← hw5]; exact heap_alloc_new w3 _
  obtain ⟨PP, hPP⟩ : ∃ P : Nat → Prop, P = fun b => (w.heap.size ≤ b ∧ b < w2.heap.size) ∨ w5.heap.size ≤ b := ⟨_, rfl⟩
  have HPN := Lib.hid (show ∀ b, w2.heap.size ≤ b → b < w5.heap.size → ¬ PP b from fun b h1 h2 hb => by rw [hPP] at hb; rcases hb with hb | hb <;> omega)
  have HPW := Lib.hid (show ∀ b, PP b → w.heap.size ≤ b from fun b hb => by rw [hPP] at hb; rcases hb with hb | hb <;> omega)
  have HPB := Lib.hid (show ∀ b, w5.heap.size ≤ b → PP b from fun b hb => by rw [hPP]; exact .inr hb)
  have HP0 := Lib.hid (show ∀ b, (w.heap.size ≤ b ∧ b < w2.heap.size) → PP b from fun b hb => by rw [hPP]; exact .inl hb)
  have HB5 := Lib.hid (show ∀ wr, Mod PP w5 wr → (w3.heap.size < wr.heap.size ∧ wr.cell? ⟨w3.heap.size, 0, none⟩ = some (.slice na typesC.nodes.length nc) ∧ wr.cell? ⟨w3.heap.size, 1, none⟩ = some (.slice ea typesC.edges.length ec) ∧ wr.cell? ⟨w3.heap.size, 2, none⟩ = some (.slice none 0 0) ∧ wr.cell? ⟨w3.heap.size, 3, none⟩ = some (.slice none 0 0) ∧ wr.cell? ⟨w3.heap.size, 4, none⟩ = some (.int .i64 typesC.nextRule)) ∧ CatR (fun b => w2.heap.size ≤ b ∧ b < w3.heap.size) wr (.slice na typesC.nodes.length nc) (.slice ea typesC.edges.length ec) (.slice none 0 0) (.slice none 0 0) typesC from fun wr m => by
    have hb := blk_mod h5 m (HPN.out _ hs3 (by omega))
    refine ⟨⟨blk_lt hb, (blk_cell hb 0).trans rfl, (blk_cell hb 1).trans rfl, (blk_cell hb 2).trans rfl, (blk_cell hb 3).trans rfl, (blk_cell hb 4).trans rfl⟩, ?_⟩
    have g35 : Grow w3 w5 := by rw [← hw5]; exact (Grow.rfl' w3).allocd _
    exact (HC3.out.grow g35).mod m (fun b hb => HPN.out b hb.1 (by omega)))
  have HT5 := Lib.hid (show TrailOk (fun b => w.heap.size ≤ b ∧ b < w2.heap.size) w5 A B t0 from (HT0.out.grow (HG23.out.step (by rw [← hw5]; exact (Grow.rfl' w3).allocd _))))
  rw [hw5]
  clear hw5 hPP h5
  go_wp2
  go_loopg [8, 9, 10] (min ns.length 40) (fun g lv av iv wr => ∃ (i : Nat) (T : PTrail) (P D : Nat → Prop), i ≤ min ns.length 40 ∧ g = min ns.length 40 - i ∧ iv = .int .i64 i ∧ TrailOk P wr A B T ∧ MqI i T ∧ TxtD D wr lv (T.marks.map (·.1)) ∧ NatD D wr av (T.marks.map (·.2)) ∧ (∀ b, P b → PP b ∧ ¬ D b) ∧ (∀ b, D b → w5.heap.size ≤ b) ∧ Mod PP w5 wr)
  case atStart => exact ⟨0, t0, _, fun _ => False, by omega, by omega, rfl, HT5.out, MqI.zero, OwnD.nil _ _, OwnD.nil _ _, fun b hb => ⟨HP0.out b hb, id⟩, fun b hb => hb.elim, Mod.rfl' _ _⟩
  case round =>
    obtain ⟨i, T, P, D, hi, rfl, rfl, hT, hI, hl1, hl2, hpd, hd, hm⟩ := hrel
    have HTR := Lib.hid hT.cut; have HIR := Lib.hid hI; have HL1 := Lib.hid hl1; have HL2 := Lib.hid hl2; have HPD := Lib.hid hpd; have HDB := Lib.hid hd; have HMR := Lib.hid hm
    have h6 := six_le hI.inv.mnd hI.names
    have hsr : w5.heap.size ≤ wr.heap.size := hm.size
    obtain ⟨al, cl, rfl, hl3, hl4⟩ := hl1.isSliceM
    obtain ⟨at_, ct, rfl, ht3, ht4⟩ := hl2.isSliceM
    clear hT hI hl1 hl2 hpd hd hm
    go_upto_region 9 with fail
    go_cut [29] (fun b wx => b = .bool (decide (i < min ns.length 40)) ∧ wx = wr)
    case first =>
      by_cases c1 : i < ns.length
      · by_cases c2 : i < 40
        · have e1 : decide (i < min ns.length 40) = true := by simp; omega
          have c3 : (i : Int) < 40 := by omega
          go_wp2_with fail
          go_meet
          exact ⟨by rw [e1], rfl⟩
        · have e1 : decide (i < min ns.length 40) = false := by simp; omega
          have c3 : ¬ (i : Int) < 40 := by omega
          go_wp2_with fail
          go_meet
          exact ⟨by rw [e1], rfl⟩
      · have e1 : decide (i < min ns.length 40) = false := by simp; omega
        go_wp2_with fail
        go_meet
        exact ⟨by rw [e1], rfl⟩
    obtain ⟨rfl, hwc⟩ := hcut
    have hwc' := hwc.symm
    subst hwc'
    by_cases hin : i < min ns.length 40
    · have hi1 : i < ns.length := by omega
      have hi2 : (i : Int) < 40 := by omega
      obtain ⟨ba, oa, ra, rfl, hSa, hba, ⟨hRa, hn⟩, hca⟩ := HU.out i ns[i] (List.getElem?_eq_getElem hi1)
      subst hRa
      have a0 : wr.cell? ⟨ba, oa + i * 1, none⟩ = some (.int .u8 (ns[i] : Nat)) := (World.cell?_of_block (a := ⟨ba, oa + i * 1, none⟩) ((HMR.out.block ba (by have := HG5.out.size; omega) (fun h => by have := HPW.out ba h; omega)).trans (HG5.out.heapEq hba))).trans (hca 0 _ rfl)
      have hbr : ba < wr.heap.size := by have := HG5.out.size; omega
      clear hca hSa hba
      generalize ns[i] = n at *
      have q1 : ((n : Int)).tmod 6 = (n : Int) % 6 := by rw [Int.tmod_eq_emod_of_nonneg (by omega)]
      have q2 : IntKind.u8.wrap (97 + (n : Int) % 6) = 97 + (n : Int) % 6 := by rw [IntKind.wrap_u8]; omega
      have hcv := nmConv (n % 6) (by omega) wr
      rw [show ((n % 6 : Nat) : Int) = (n : Int) % 6 by omega] at hcv
      rw [Nat.mul_one] at a0
      obtain ⟨W0, hW0⟩ : ∃ W0, wr.alloc (.cells #[.int .u8 (97 + (n : Int) % 6)] 5) = W0 := ⟨_, rfl⟩
      have HGW := Lib.hid (show Grow wr W0 by rw [← hW0]; exact (Grow.rfl' wr).allocd _)
      have hs0 : wr.heap.size ≤ W0.heap.size := HGW.out.size
      have HW0 := Lib.hid hW0
      clear hW0
      go_wp2
      rw [HW0.out]
      clear hcv HW0 a0 q1 q2
      obtain ⟨D1, hD1⟩ : ∃ D1 : Nat → Prop, D1 = fun b => D b ∨ wr.heap.size ≤ b := ⟨_, rfl⟩
      have HD1 := Lib.hid hD1
      obtain ⟨P1, hP1⟩ : ∃ P1 : Nat → Prop, P1 = fun b => P b ∧ b < wr.heap.size := ⟨_, rfl⟩
      have HT1 := Lib.hid (show TrailOk P1 W0 A B T by rw [hP1]; exact HTR.out.grow HGW.out)
      have HPD1 := Lib.hid (show ∀ b, P1 b → PP b ∧ ¬ D1 b from fun b hb => by
        rw [hP1] at hb
        have h := HPD.out b hb.1
        refine ⟨h.1, fun h2 => ?_⟩
        rw [hD1] at h2
        rcases h2 with h2 | h2
        · exact h.2 h2
        · omega)
      have HDW := Lib.hid (show ∀ b, D1 b → w5.heap.size ≤ b from fun b hb => by
        rw [hD1] at hb
        rcases hb with hb | hb
        · exact HDB.out b hb
        · omega)
      have HDN := Lib.hid (show ∀ b, wr.heap.size ≤ b → D1 b from fun b hb => by rw [hD1]; exact .inr hb)
      have HM0 := Lib.hid (HMR.out.step (Mod.of_grow HGW.out))
      have HS1 := Lib.hid ((HL1.out.grow HGW.out).sub (D' := D1) (fun b hb => by rw [hD1]; exact .inl hb))
      have HS2 := Lib.hid ((HL2.out.grow HGW.out).sub (D' := D1) (fun b hb => by rw [hD1]; exact .inl hb))
      clear hD1 hP1 HTR HL1 HL2 HPD HDB HD1
      obtain ⟨s, hs⟩ : ∃ s, s = nm6 n := ⟨_, rfl⟩
      have HSN := Lib.hid hs
      rw [show nmI (n % 6) = s from hs.symm]
      clear hs
      obtain ⟨M, hM⟩ : ∃ M, M = T.marks := ⟨_, rfl⟩
      have HMM := Lib.hid hM
      rw [← hM] at h6 HS1 HS2 ⊢
      have HMN := Lib.hid (show (M.map (·.1)).Nodup from hM ▸ HIR.out.inv.mnd)
      clear hM
      obtain ⟨w9, rfl⟩ : ∃ w9, w9 = wr := ⟨_, rfl⟩
      go_loopg [8, 9, 12] M.length (fun g lv av kv wr => ∃ (k : Nat) (M' : List (ByteArray × Nat)), k ≤ M.length ∧ g = M.length - k ∧ kv = .int .i64 k ∧ InW D1 W0 wr M s k M' lv av)
      case atStart => exact ⟨0, M, by omega, by omega, rfl, InL.zero HMN.out, HS1.out, HS2.out, Grow.rfl' _⟩
      case round =>
        obtain ⟨k, M', hk, rfl, rfl, q1, q2, q3, q4⟩ := hrel
        have Q1 := Lib.hid q1; have Q2 := Lib.hid q2; have Q3 := Lib.hid q3; have Q4 := Lib.hid q4
        have hle := q1.le
        obtain ⟨bl, dl, rfl, hb3, hb4⟩ := q2.isSliceM
        obtain ⟨bt, dt, rfl, hc3, hc4⟩ := q3.isSliceM
        have hsx : w9.heap.size ≤ wr.heap.size := Nat.le_trans hs0 q4.size
        clear q1 q2 q3 q4
        by_cases hkl : k < M'.length
        · obtain ⟨gl, dl2, he, -, -, hgl, -⟩ := Q2.out.at0M (by omega)
          simp only [Value.slice.injEq, true_and] at he
          obtain ⟨rfl, rfl⟩ := he
          obtain ⟨gt, dt2, he, -, -, hgt, -⟩ := Q3.out.at0M (by omega)
          simp only [Value.slice.injEq, true_and] at he
          obtain ⟨rfl, rfl⟩ := he
          have HX := Lib.hid (show M'[k]? = some M'[k] from List.getElem?_eq_getElem hkl)
          have a0 : wr.cell? ⟨gl, k, none⟩ = some (.string M'[k].1) := Q2.out.cell1 (by rw [List.getElem?_map, HX.out]; rfl) (fun r h => h)
          generalize M'[k] = x at *
          obtain ⟨w0, rfl⟩ : ∃ w0, w0 = wr := ⟨_, rfl⟩
          go_upto_block 3 with fail
          go_cut [8, 9] (fun lv av wx => ∃ M2 : List (ByteArray × Nat), InL M M2 s (k + 1) ∧ TxtD D1 wx lv (M2.map (·.1)) ∧ NatD D1 wx av (M2.map (·.2)) ∧ Grow w0 wx)
          case first =>
            cases hbb : decide (x.1 = s)
            · have HIN := Lib.hid (Q1.out.skip HX.out (of_decide_eq_false hbb))
              go_wp2_with fail
              go_meet
              exact ⟨M', HIN.out, Q2.out, Q3.out, Grow.rfl' _⟩
            · have HIN := Lib.hid (Q1.out.cut HX.out (of_decide_eq_true hbb))
              have HTA := Lib.hid (show ∀ w', Grow w0 w' → StrsR D1 w' (.slice (some ⟨gl, 0, none⟩) k dl) ((M'.map (·.1)).take k) from fun w' g => SlR.takeS (Q2.out.grow g).toR k (by rw [List.length_map]; omega))
              have HTB := Lib.hid (show ∀ w', Grow w0 w' → SlR D1 w' 1 RNat (.slice (some ⟨gt, 0, none⟩) k dt) ((M'.map (·.2)).take k) from fun w' g => SlR.takeS (Q3.out.grow g).toR k (by rw [List.length_map]; omega))
              have HDA := Lib.hid (show ∀ w' a m c, Grow w0 w' → m = M'.length - (k + 1) → c = dl - (k + 1) → (dl = k + 1 ∨ a = some ⟨gl, 0 + (k + 1) * 1, none⟩) → StrsR D1 w' (.slice a m c) ((M'.map (·.1)).drop (k + 1)) from fun w' a m c g h1 h2 h3 => SlR.dropG (Q2.out.grow g).toR (k + 1) (by rw [List.length_map]; omega) a m c (by rw [List.length_map]; exact h1) h2 h3)
              have HDB := Lib.hid (show ∀ w' a m c, Grow w0 w' → m = M'.length - (k + 1) → c = dt - (k + 1) → (dt = k + 1 ∨ a = some ⟨gt, 0 + (k + 1) * 1, none⟩) → SlR D1 w' 1 RNat (.slice a m c) ((M'.map (·.2)).drop (k + 1)) from fun w' a m c g h1 h2 h3 => SlR.dropG (Q3.out.grow g).toR (k + 1) (by rw [List.length_map]; omega) a m c (by rw [List.length_map]; exact h1) h2 h3)
              have HLB := Lib.hid (show M'.length ≤ 6 by omega)
              have HFA := Lib.hid (show ∀ w' v, OwnD 9 1 RStr (fun q => w0.heap.size ≤ q) w' v ((M'.map (·.1)).take k ++ (M'.map (·.1)).drop (k + 1)) → TxtD D1 w' v ((M'.take k ++ M'.drop (k + 1)).map (·.1)) from fun w' v h => by rw [List.map_append, List.map_take, List.map_drop]; exact h.sub (fun b hb => HDN.out b (by omega)))
              have HFB := Lib.hid (show ∀ w' v, OwnD 3 1 RNat (fun q => w0.heap.size ≤ q) w' v ((M'.map (·.2)).take k ++ (M'.map (·.2)).drop (k + 1)) → NatD D1 w' v ((M'.take k ++ M'.drop (k + 1)).map (·.2)) from fun w' v h => by rw [List.map_append, List.map_take, List.map_drop]; exact h.sub (fun b hb => HDN.out b (by omega)))
              have HGc := Lib.hid (Grow.rfl' w0)
              have hq1 : (0 : Int) ≤ (k : Int) + 1 := by omega
              have hq2 : (k : Int) ≤ (dl : Int) := by omega
              have hq3 : (k : Int) ≤ (dt : Int) := by omega
              have hq4 : ((k : Int) + 1).toNat = k + 1 := by omega
              have hq5 : (k : Int) + 1 ≤ (M'.length : Int) := by omega
              have hq7 : IntKind.i64.wrap ((k : Int) + 1) = (k : Int) + 1 := by rw [IntKind.wrap_i64]; omega
              have hq8 : (k : Int) ≤ (k : Int) + 1 := by omega
              rcases Decidable.em (dl = k + 1) with hdl | hdl
              · have hnk : M'.length = k + 1 := by omega
                rcases Decidable.em (dt = k + 1) with hdt | hdt
                · subst hdl; subst hdt
                  go_wp2_with fail
                  go_region_law (first | (refine step_append_LD rfl (.tmp 52) (.tmp 55) 41 rfl rowTxt Tryz.underlying41 _ (by first | rfl | simp [Act.eval]) _ (by first | rfl | simp [Act.eval]) ((M'.map (·.1)).take k) (HTA.out _ (by repeat first | exact Grow.rfl' _ | exact HGc.out | apply Grow.drewd | apply Grow.allocd)) oneTxt (by have := HLB.out; simp; unfold maxLen; omega) (by have := HLB.out; simp; omega) ?_; intro v5 w5 k1 k2; have HA := Lib.hid (k1.sub (D' := fun q => w0.heap.size ≤ q) (fun q h => Nat.le_trans (Below.size (show Grow w0 _ from (by repeat first | exact Grow.rfl' _ | exact HGc.out | apply Grow.drewd | apply Grow.allocd))) h)); have HGc' := Lib.hid (show Grow w0 w5 from Grow.step (by repeat first | exact Grow.rfl' _ | exact HGc.out | apply Grow.drewd | apply Grow.allocd) k2); have HGc := HGc'; clear HGc'; (try have HB := Lib.hid (OwnD.grow HB.out (Grow.step (by repeat first | exact Grow.rfl' _ | apply Grow.allocd) k2))); clear k1 k2) | (refine step_append_XD rfl (.tmp 56) (.tmp 60) 41 rfl rowTxt Tryz.underlying41 (fun q => w0.heap.size ≤ q) _ ((M'.map (·.1)).take k) (by first | rfl | simp [Act.eval]) (OwnD.grow HA.out (by repeat first | exact Grow.rfl' _ | apply Grow.allocd)) _ (by first | rfl | (simp [Act.eval]; done)) ((M'.map (·.1)).drop (k + 1)) (HDA.out _ _ _ _ (by repeat first | exact Grow.rfl' _ | exact HGc.out | apply Grow.drewd | apply Grow.allocd) (by first | rfl | omega | (simp; done)) (by first | rfl | omega | (simp; done)) (by first | exact .inl rfl | exact .inl trivial | exact .inr rfl | (left; omega) | (right; simp))) oneTxt (by have := HLB.out; simp; unfold maxLen; omega) (by have := HLB.out; simp; omega) ?_; intro v6 w6 k1 k2 k3; have HGc' := Lib.hid (show Grow w0 w6 from Grow.modd (by repeat first | exact Grow.rfl' _ | exact HGc.out | apply Grow.drewd | apply Grow.allocd) k2 (fun x h => h)); have HA := Lib.hid (k1.sub (D' := fun q => w0.heap.size ≤ q) (fun q h => h.elim id (fun h => Nat.le_trans (Below.size (show Grow w0 _ from (by repeat first | exact Grow.rfl' _ | exact HGc.out | apply Grow.drewd | apply Grow.allocd))) h))); (try have HB := Lib.hid (k3 _ _ _ _ _ _ (by decide) (OwnD.grow HB.out (by repeat first | exact Grow.rfl' _ | apply Grow.allocd)))); have HGc := HGc'; clear k1 k2 k3 HGc') | (refine step_append_LD rfl (.tmp 62) (.tmp 65) 57 rfl rowIntN Tryz.underlying57 _ (by first | rfl | simp [Act.eval]) _ (by first | rfl | simp [Act.eval]) ((M'.map (·.2)).take k) (HTB.out _ (by repeat first | exact Grow.rfl' _ | exact HGc.out | apply Grow.drewd | apply Grow.allocd)) oneNat (by have := HLB.out; simp; unfold maxLen; omega) (by have := HLB.out; simp; omega) ?_; intro v5 w5 k1 k2; have HB := Lib.hid (k1.sub (D' := fun q => w0.heap.size ≤ q) (fun q h => Nat.le_trans (Below.size (show Grow w0 _ from (by repeat first | exact Grow.rfl' _ | exact HGc.out | apply Grow.drewd | apply Grow.allocd))) h)); have HGc' := Lib.hid (show Grow w0 w5 from Grow.step (by repeat first | exact Grow.rfl' _ | exact HGc.out | apply Grow.drewd | apply Grow.allocd) k2); have HGc := HGc'; clear HGc'; (try have HA := Lib.hid (OwnD.grow HA.out (Grow.step (by repeat first | exact Grow.rfl' _ | apply Grow.allocd) k2))); clear k1 k2) | (refine step_append_XD rfl (.tmp 66) (.tmp 70) 57 rfl rowIntN Tryz.underlying57 (fun q => w0.heap.size ≤ q) _ ((M'.map (·.2)).take k) (by first | rfl | simp [Act.eval]) (OwnD.grow HB.out (by repeat first | exact Grow.rfl' _ | apply Grow.allocd)) _ (by first | rfl | (simp [Act.eval]; done)) ((M'.map (·.2)).drop (k + 1)) (HDB.out _ _ _ _ (by repeat first | exact Grow.rfl' _ | exact HGc.out | apply Grow.drewd | apply Grow.allocd) (by first | rfl | omega | (simp; done)) (by first | rfl | omega | (simp; done)) (by first | exact .inl rfl | exact .inl trivial | exact .inr rfl | (left; omega) | (right; simp))) oneNat (by have := HLB.out; simp; unfold maxLen; omega) (by have := HLB.out; simp; omega) ?_; intro v6 w6 k1 k2 k3; have HGc' := Lib.hid (show Grow w0 w6 from Grow.modd (by repeat first | exact Grow.rfl' _ | exact HGc.out | apply Grow.drewd | apply Grow.allocd) k2 (fun x h => h)); have HB := Lib.hid (k1.sub (D' := fun q => w0.heap.size ≤ q) (fun q h => h.elim id (fun h => Nat.le_trans (Below.size (show Grow w0 _ from (by repeat first | exact Grow.rfl' _ | exact HGc.out | apply Grow.drewd | apply Grow.allocd))) h))); (try have HA := Lib.hid (k3 _ _ _ _ _ _ (by decide) (OwnD.grow HA.out (by repeat first | exact Grow.rfl' _ | apply Grow.allocd)))); have HGc := HGc'; clear k1 k2 k3 HGc'))
                  all_goals
                    go_wp2_with fail
                    go_meet
                    exact ⟨_, HIN.out, HFA.out _ _ HA.out, HFB.out _ _ HB.out, HGc.out⟩
                · subst hdl
                  go_wp2_with fail
                  go_region_law (first | (refine step_append_LD rfl (.tmp 52) (.tmp 55) 41 rfl rowTxt Tryz.underlying41 _ (by first | rfl | simp [Act.eval]) _ (by first | rfl | simp [Act.eval]) ((M'.map (·.1)).take k) (HTA.out _ (by repeat first | exact Grow.rfl' _ | exact HGc.out | apply Grow.drewd | apply Grow.allocd)) oneTxt (by have := HLB.out; simp; unfold maxLen; omega) (by have := HLB.out; simp; omega) ?_; intro v5 w5 k1 k2; have HA := Lib.hid (k1.sub (D' := fun q => w0.heap.size ≤ q) (fun q h => Nat.le_trans (Below.size (show Grow w0 _ from (by repeat first | exact Grow.rfl' _ | exact HGc.out | apply Grow.drewd | apply Grow.allocd))) h)); have HGc' := Lib.hid (show Grow w0 w5 from Grow.step (by repeat first | exact Grow.rfl' _ | exact HGc.out | apply Grow.drewd | apply Grow.allocd) k2); have HGc := HGc'; clear HGc'; (try have HB := Lib.hid (OwnD.grow HB.out (Grow.step (by repeat first | exact Grow.rfl' _ | apply Grow.allocd) k2))); clear k1 k2) | (refine step_append_XD rfl (.tmp 56) (.tmp 60) 41 rfl rowTxt Tryz.underlying41 (fun q => w0.heap.size ≤ q) _ ((M'.map (·.1)).take k) (by first | rfl | simp [Act.eval]) (OwnD.grow HA.out (by repeat first | exact Grow.rfl' _ | apply Grow.allocd)) _ (by first | rfl | (simp [Act.eval]; done)) ((M'.map (·.1)).drop (k + 1)) (HDA.out _ _ _ _ (by repeat first | exact Grow.rfl' _ | exact HGc.out | apply Grow.drewd | apply Grow.allocd) (by first | rfl | omega | (simp; done)) (by first | rfl | omega | (simp; done)) (by first | exact .inl rfl | exact .inl trivial | exact .inr rfl | (left; omega) | (right; simp))) oneTxt (by have := HLB.out; simp; unfold maxLen; omega) (by have := HLB.out; simp; omega) ?_; intro v6 w6 k1 k2 k3; have HGc' := Lib.hid (show Grow w0 w6 from Grow.modd (by repeat first | exact Grow.rfl' _ | exact HGc.out | apply Grow.drewd | apply Grow.allocd) k2 (fun x h => h)); have HA := Lib.hid (k1.sub (D' := fun q => w0.heap.size ≤ q) (fun q h => h.elim id (fun h => Nat.le_trans (Below.size (show Grow w0 _ from (by repeat first | exact Grow.rfl' _ | exact HGc.out | apply Grow.drewd | apply Grow.allocd))) h))); (try have HB := Lib.hid (k3 _ _ _ _ _ _ (by decide) (OwnD.grow HB.out (by repeat first | exact Grow.rfl' _ | apply Grow.allocd)))); have HGc := HGc'; clear k1 k2 k3 HGc') | (refine step_append_LD rfl (.tmp 62) (.tmp 65) 57 rfl rowIntN Tryz.underlying57 _ (by first | rfl | simp [Act.eval]) _ (by first | rfl | simp [Act.eval]) ((M'.map (·.2)).take k) (HTB.out _ (by repeat first | exact Grow.rfl' _ | exact HGc.out | apply Grow.drewd | apply Grow.allocd)) oneNat (by have := HLB.out; simp; unfold maxLen; omega) (by have := HLB.out; simp; omega) ?_; intro v5 w5 k1 k2; have HB := Lib.hid (k1.sub (D' := fun q => w0.heap.size ≤ q) (fun q h => Nat.le_trans (Below.size (show Grow w0 _ from (by repeat first | exact Grow.rfl' _ | exact HGc.out | apply Grow.drewd | apply Grow.allocd))) h)); have HGc' := Lib.hid (show Grow w0 w5 from Grow.step (by repeat first | exact Grow.rfl' _ | exact HGc.out | apply Grow.drewd | apply Grow.allocd) k2); have HGc := HGc'; clear HGc'; (try have HA := Lib.hid (OwnD.grow HA.out (Grow.step (by repeat first | exact Grow.rfl' _ | apply Grow.allocd) k2))); clear k1 k2) | (refine step_append_XD rfl (.tmp 66) (.tmp 70) 57 rfl rowIntN Tryz.underlying57 (fun q => w0.heap.size ≤ q) _ ((M'.map (·.2)).take k) (by first | rfl | simp [Act.eval]) (OwnD.grow HB.out (by repeat first | exact Grow.rfl' _ | apply Grow.allocd)) _ (by first | rfl | (simp [Act.eval]; done)) ((M'.map (·.2)).drop (k + 1)) (HDB.out _ _ _ _ (by repeat first | exact Grow.rfl' _ | exact HGc.out | apply Grow.drewd | apply Grow.allocd) (by first | rfl | omega | (simp; done)) (by first | rfl | omega | (simp; done)) (by first | exact .inl rfl | exact .inl trivial | exact .inr rfl | (left; omega) | (right; simp))) oneNat (by have := HLB.out; simp; unfold maxLen; omega) (by have := HLB.out; simp; omega) ?_; intro v6 w6 k1 k2 k3; have HGc' := Lib.hid (show Grow w0 w6 from Grow.modd (by repeat first | exact Grow.rfl' _ | exact HGc.out | apply Grow.drewd | apply Grow.allocd) k2 (fun x h => h)); have HB := Lib.hid (k1.sub (D' := fun q => w0.heap.size ≤ q) (fun q h => h.elim id (fun h => Nat.le_trans (Below.size (show Grow w0 _ from (by repeat first | exact Grow.rfl' _ | exact HGc.out | apply Grow.drewd | apply Grow.allocd))) h))); (try have HA := Lib.hid (k3 _ _ _ _ _ _ (by decide) (OwnD.grow HA.out (by repeat first | exact Grow.rfl' _ | apply Grow.allocd)))); have HGc := HGc'; clear k1 k2 k3 HGc'))
                  all_goals
                    go_wp2_with fail
                    go_meet
                    exact ⟨_, HIN.out, HFA.out _ _ HA.out, HFB.out _ _ HB.out, HGc.out⟩
              · rcases Decidable.em (dt = k + 1) with hdt | hdt
                · have hnk : M'.length = k + 1 := by omega
                  subst hdt
                  go_wp2_with fail
                  go_region_law (first | (refine step_append_LD rfl (.tmp 52) (.tmp 55) 41 rfl rowTxt Tryz.underlying41 _ (by first | rfl | simp [Act.eval]) _ (by first | rfl | simp [Act.eval]) ((M'.map (·.1)).take k) (HTA.out _ (by repeat first | exact Grow.rfl' _ | exact HGc.out | apply Grow.drewd | apply Grow.allocd)) oneTxt (by have := HLB.out; simp; unfold maxLen; omega) (by have := HLB.out; simp; omega) ?_; intro v5 w5 k1 k2; have HA := Lib.hid (k1.sub (D' := fun q => w0.heap.size ≤ q) (fun q h => Nat.le_trans (Below.size (show Grow w0 _ from (by repeat first | exact Grow.rfl' _ | exact HGc.out | apply Grow.drewd | apply Grow.allocd))) h)); have HGc' := Lib.hid (show Grow w0 w5 from Grow.step (by repeat first | exact Grow.rfl' _ | exact HGc.out | apply Grow.drewd | apply Grow.allocd) k2); have HGc := HGc'; clear HGc'; (try have HB := Lib.hid (OwnD.grow HB.out (Grow.step (by repeat first | exact Grow.rfl' _ | apply Grow.allocd) k2))); clear k1 k2) | (refine step_append_XD rfl (.tmp 56) (.tmp 60) 41 rfl rowTxt Tryz.underlying41 (fun q => w0.heap.size ≤ q) _ ((M'.map (·.1)).take k) (by first | rfl | simp [Act.eval]) (OwnD.grow HA.out (by repeat first | exact Grow.rfl' _ | apply Grow.allocd)) _ (by first | rfl | (simp [Act.eval]; done)) ((M'.map (·.1)).drop (k + 1)) (HDA.out _ _ _ _ (by repeat first | exact Grow.rfl' _ | exact HGc.out | apply Grow.drewd | apply Grow.allocd) (by first | rfl | omega | (simp; done)) (by first | rfl | omega | (simp; done)) (by first | exact .inl rfl | exact .inl trivial | exact .inr rfl | (left; omega) | (right; simp))) oneTxt (by have := HLB.out; simp; unfold maxLen; omega) (by have := HLB.out; simp; omega) ?_; intro v6 w6 k1 k2 k3; have HGc' := Lib.hid (show Grow w0 w6 from Grow.modd (by repeat first | exact Grow.rfl' _ | exact HGc.out | apply Grow.drewd | apply Grow.allocd) k2 (fun x h => h)); have HA := Lib.hid (k1.sub (D' := fun q => w0.heap.size ≤ q) (fun q h => h.elim id (fun h => Nat.le_trans (Below.size (show Grow w0 _ from (by repeat first | exact Grow.rfl' _ | exact HGc.out | apply Grow.drewd | apply Grow.allocd))) h))); (try have HB := Lib.hid (k3 _ _ _ _ _ _ (by decide) (OwnD.grow HB.out (by repeat first | exact Grow.rfl' _ | apply Grow.allocd)))); have HGc := HGc'; clear k1 k2 k3 HGc') | (refine step_append_LD rfl (.tmp 62) (.tmp 65) 57 rfl rowIntN Tryz.underlying57 _ (by first | rfl | simp [Act.eval]) _ (by first | rfl | simp [Act.eval]) ((M'.map (·.2)).take k) (HTB.out _ (by repeat first | exact Grow.rfl' _ | exact HGc.out | apply Grow.drewd | apply Grow.allocd)) oneNat (by have := HLB.out; simp; unfold maxLen; omega) (by have := HLB.out; simp; omega) ?_; intro v5 w5 k1 k2; have HB := Lib.hid (k1.sub (D' := fun q => w0.heap.size ≤ q) (fun q h => Nat.le_trans (Below.size (show Grow w0 _ from (by repeat first | exact Grow.rfl' _ | exact HGc.out | apply Grow.drewd | apply Grow.allocd))) h)); have HGc' := Lib.hid (show Grow w0 w5 from Grow.step (by repeat first | exact Grow.rfl' _ | exact HGc.out | apply Grow.drewd | apply Grow.allocd) k2); have HGc := HGc'; clear HGc'; (try have HA := Lib.hid (OwnD.grow HA.out (Grow.step (by repeat first | exact Grow.rfl' _ | apply Grow.allocd) k2))); clear k1 k2) | (refine step_append_XD rfl (.tmp 66) (.tmp 70) 57 rfl rowIntN Tryz.underlying57 (fun q => w0.heap.size ≤ q) _ ((M'.map (·.2)).take k) (by first | rfl | simp [Act.eval]) (OwnD.grow HB.out (by repeat first | exact Grow.rfl' _ | apply Grow.allocd)) _ (by first | rfl | (simp [Act.eval]; done)) ((M'.map (·.2)).drop (k + 1)) (HDB.out _ _ _ _ (by repeat first | exact Grow.rfl' _ | exact HGc.out | apply Grow.drewd | apply Grow.allocd) (by first | rfl | omega | (simp; done)) (by first | rfl | omega | (simp; done)) (by first | exact .inl rfl | exact .inl trivial | exact .inr rfl | (left; omega) | (right; simp))) oneNat (by have := HLB.out; simp; unfold maxLen; omega) (by have := HLB.out; simp; omega) ?_; intro v6 w6 k1 k2 k3; have HGc' := Lib.hid (show Grow w0 w6 from Grow.modd (by repeat first | exact Grow.rfl' _ | exact HGc.out | apply Grow.drewd | apply Grow.allocd) k2 (fun x h => h)); have HB := Lib.hid (k1.sub (D' := fun q => w0.heap.size ≤ q) (fun q h => h.elim id (fun h => Nat.le_trans (Below.size (show Grow w0 _ from (by repeat first | exact Grow.rfl' _ | exact HGc.out | apply Grow.drewd | apply Grow.allocd))) h))); (try have HA := Lib.hid (k3 _ _ _ _ _ _ (by decide) (OwnD.grow HA.out (by repeat first | exact Grow.rfl' _ | apply Grow.allocd)))); have HGc := HGc'; clear k1 k2 k3 HGc'))
                  all_goals
                    go_wp2_with fail
                    go_meet
                    exact ⟨_, HIN.out, HFA.out _ _ HA.out, HFB.out _ _ HB.out, HGc.out⟩
                · go_wp2_with fail
                  go_region_law (first | (refine step_append_LD rfl (.tmp 52) (.tmp 55) 41 rfl rowTxt Tryz.underlying41 _ (by first | rfl | simp [Act.eval]) _ (by first | rfl | simp [Act.eval]) ((M'.map (·.1)).take k) (HTA.out _ (by repeat first | exact Grow.rfl' _ | exact HGc.out | apply Grow.drewd | apply Grow.allocd)) oneTxt (by have := HLB.out; simp; unfold maxLen; omega) (by have := HLB.out; simp; omega) ?_; intro v5 w5 k1 k2; have HA := Lib.hid (k1.sub (D' := fun q => w0.heap.size ≤ q) (fun q h => Nat.le_trans (Below.size (show Grow w0 _ from (by repeat first | exact Grow.rfl' _ | exact HGc.out | apply Grow.drewd | apply Grow.allocd))) h)); have HGc' := Lib.hid (show Grow w0 w5 from Grow.step (by repeat first | exact Grow.rfl' _ | exact HGc.out | apply Grow.drewd | apply Grow.allocd) k2); have HGc := HGc'; clear HGc'; (try have HB := Lib.hid (OwnD.grow HB.out (Grow.step (by repeat first | exact Grow.rfl' _ | apply Grow.allocd) k2))); clear k1 k2) | (refine step_append_XD rfl (.tmp 56) (.tmp 60) 41 rfl rowTxt Tryz.underlying41 (fun q => w0.heap.size ≤ q) _ ((M'.map (·.1)).take k) (by first | rfl | simp [Act.eval]) (OwnD.grow HA.out (by repeat first | exact Grow.rfl' _ | apply Grow.allocd)) _ (by first | rfl | (simp [Act.eval]; done)) ((M'.map (·.1)).drop (k + 1)) (HDA.out _ _ _ _ (by repeat first | exact Grow.rfl' _ | exact HGc.out | apply Grow.drewd | apply Grow.allocd) (by first | rfl | omega | (simp; done)) (by first | rfl | omega | (simp; done)) (by first | exact .inl rfl | exact .inl trivial | exact .inr rfl | (left; omega) | (right; simp))) oneTxt (by have := HLB.out; simp; unfold maxLen; omega) (by have := HLB.out; simp; omega) ?_; intro v6 w6 k1 k2 k3; have HGc' := Lib.hid (show Grow w0 w6 from Grow.modd (by repeat first | exact Grow.rfl' _ | exact HGc.out | apply Grow.drewd | apply Grow.allocd) k2 (fun x h => h)); have HA := Lib.hid (k1.sub (D' := fun q => w0.heap.size ≤ q) (fun q h => h.elim id (fun h => Nat.le_trans (Below.size (show Grow w0 _ from (by repeat first | exact Grow.rfl' _ | exact HGc.out | apply Grow.drewd | apply Grow.allocd))) h))); (try have HB := Lib.hid (k3 _ _ _ _ _ _ (by decide) (OwnD.grow HB.out (by repeat first | exact Grow.rfl' _ | apply Grow.allocd)))); have HGc := HGc'; clear k1 k2 k3 HGc') | (refine step_append_LD rfl (.tmp 62) (.tmp 65) 57 rfl rowIntN Tryz.underlying57 _ (by first | rfl | simp [Act.eval]) _ (by first | rfl | simp [Act.eval]) ((M'.map (·.2)).take k) (HTB.out _ (by repeat first | exact Grow.rfl' _ | exact HGc.out | apply Grow.drewd | apply Grow.allocd)) oneNat (by have := HLB.out; simp; unfold maxLen; omega) (by have := HLB.out; simp; omega) ?_; intro v5 w5 k1 k2; have HB := Lib.hid (k1.sub (D' := fun q => w0.heap.size ≤ q) (fun q h => Nat.le_trans (Below.size (show Grow w0 _ from (by repeat first | exact Grow.rfl' _ | exact HGc.out | apply Grow.drewd | apply Grow.allocd))) h)); have HGc' := Lib.hid (show Grow w0 w5 from Grow.step (by repeat first | exact Grow.rfl' _ | exact HGc.out | apply Grow.drewd | apply Grow.allocd) k2); have HGc := HGc'; clear HGc'; (try have HA := Lib.hid (OwnD.grow HA.out (Grow.step (by repeat first | exact Grow.rfl' _ | apply Grow.allocd) k2))); clear k1 k2) | (refine step_append_XD rfl (.tmp 66) (.tmp 70) 57 rfl rowIntN Tryz.underlying57 (fun q => w0.heap.size ≤ q) _ ((M'.map (·.2)).take k) (by first | rfl | simp [Act.eval]) (OwnD.grow HB.out (by repeat first | exact Grow.rfl' _ | apply Grow.allocd)) _ (by first | rfl | (simp [Act.eval]; done)) ((M'.map (·.2)).drop (k + 1)) (HDB.out _ _ _ _ (by repeat first | exact Grow.rfl' _ | exact HGc.out | apply Grow.drewd | apply Grow.allocd) (by first | rfl | omega | (simp; done)) (by first | rfl | omega | (simp; done)) (by first | exact .inl rfl | exact .inl trivial | exact .inr rfl | (left; omega) | (right; simp))) oneNat (by have := HLB.out; simp; unfold maxLen; omega) (by have := HLB.out; simp; omega) ?_; intro v6 w6 k1 k2 k3; have HGc' := Lib.hid (show Grow w0 w6 from Grow.modd (by repeat first | exact Grow.rfl' _ | exact HGc.out | apply Grow.drewd | apply Grow.allocd) k2 (fun x h => h)); have HB := Lib.hid (k1.sub (D' := fun q => w0.heap.size ≤ q) (fun q h => h.elim id (fun h => Nat.le_trans (Below.size (show Grow w0 _ from (by repeat first | exact Grow.rfl' _ | exact HGc.out | apply Grow.drewd | apply Grow.allocd))) h))); (try have HA := Lib.hid (k3 _ _ _ _ _ _ (by decide) (OwnD.grow HA.out (by repeat first | exact Grow.rfl' _ | apply Grow.allocd)))); have HGc := HGc'; clear k1 k2 k3 HGc'))
                  all_goals
                    go_wp2_with fail
                    go_meet
                    exact ⟨_, HIN.out, HFA.out _ _ HA.out, HFB.out _ _ HB.out, HGc.out⟩
          case rest =>
            obtain ⟨M2, e1, e2, e3, e4⟩ := hcut
            obtain ⟨wx, rfl⟩ : ∃ wx, wx = wc := ⟨_, rfl⟩
            have E1 := Lib.hid e1; have E2 := Lib.hid e2; have E3 := Lib.hid e3; have E4 := Lib.hid (Q4.out.step e4)
            clear e1 e2 e3 e4 a0
            go_wp2_with fail
            go_roundg (M.length - (k + 1))
            case measure => omega
            case rel => exact ⟨k + 1, M2, by omega, rfl, by go_num, E1.out, E2.out, E3.out, E4.out⟩
        · have HFE := Lib.hid (Q1.out.done (by omega))
          have hl7 : M'.length ≤ 6 := by omega
          have HT9 := Lib.hid (HT1.out.grow Q4.out)
          have HM9 := Lib.hid (HM0.out.step (Mod.of_grow Q4.out))
          have HMK := Lib.hid (HIR.out.mark n)
          obtain ⟨ws, hss, HDO⟩ := HIR.out.step n (by omega)
          have HSS := Lib.hid hss; have HDO1 := Lib.hid HDO
          have HWS := Lib.hid ws
          clear ws hss HDO
          have HRD1 := Lib.hid (show ∀ W x, Rd (W.alloc (.cells #[.string x] 9)) 1 (.slice (some ⟨W.heap.size, 0, none⟩) 1 1) 1 [.string x] from fun W x => rdK W #[.string x] 9 1 rfl rfl)
          have HRD2 := Lib.hid (show ∀ W (x : Nat), Rd (W.alloc (.cells #[.int .i64 x] 3)) 1 (.slice (some ⟨W.heap.size, 0, none⟩) 1 1) 1 [.int .i64 x] from fun W x => rdK W #[.int .i64 x] 3 1 rfl rfl)
          have HAL := Lib.hid (show ∀ o1, Grow wr (wr.alloc o1) from fun o1 => (Grow.rfl' wr).allocd o1)
          go_wp2_with (at_builtin; go_must (refine wpList_append_XD rfl (.tmp 72) (.tmp 74) 41 rfl rowTxt Tryz.underlying41 D1 _ (M'.map (·.1)) rfl (Q2.out.grow (HAL.out _)) s [.string s] rfl rfl (by simp [Value.oneCell']) wr.heap.size rfl (HRD1.out _ _) (by simp; unfold maxLen; omega) (by simp; omega) ?_))
          intro va wq k1 k2 k3
          have HA1 := Lib.hid (k1.sub (D' := D1) (fun q h => h.elim id (fun h => HDN.out q (by have := (HAL.out (.cells #[.string s] 9)).size; omega))))
          have HB1 := Lib.hid (k3 _ _ _ _ _ _ (by decide) (Q3.out.grow (HAL.out (.cells #[.string s] 9))))
          have HMA := Lib.hid ((Mod.of_grow (F := D1) (HAL.out _)).step k2)
          have HAL2 := Lib.hid (show ∀ o1, Grow wq (wq.alloc o1) from fun o1 => (Grow.rfl' wq).allocd o1)
          obtain ⟨aA, cA, rfl, -, -⟩ := HA1.out.isSlice
          clear k1 k2 k3
          go_wp2_with (at_builtin; go_must (refine wpList_append_XD rfl (.tmp 76) (.tmp 78) 57 rfl rowIntN Tryz.underlying57 D1 _ (M'.map (·.2)) rfl (HB1.out.grow (HAL2.out _)) i [.int .i64 i] rfl rfl (by simp [Value.oneCell']) wq.heap.size rfl (HRD2.out _ _) (by simp; unfold maxLen; omega) (by simp; omega) ?_))
          intro vb wp k1 k2 k3
          have HB2 := Lib.hid (k1.sub (D' := D1) (fun q h => h.elim id (fun h => HDN.out q (by have := (HAL2.out (.cells #[.int .i64 (i : Int)] 3)).size; have := HMA.out.size; omega)))).cut
          have HA2 := Lib.hid (k3 _ _ _ _ _ _ (by decide) (HA1.out.grow (HAL2.out (.cells #[.int .i64 (i : Int)] 3)))).cut
          have HMB := Lib.hid ((HMA.out.step (Mod.of_grow (HAL2.out _))).step k2)
          obtain ⟨aB, cB, rfl, -, -⟩ := HB2.out.isSlice
          clear k1 k2 k3 HA1 HB1 HMA HAL2 HAL
          have hsp : wr.heap.size ≤ wp.heap.size := HMB.out.size
          have HTP := Lib.hid (HT9.out.keep HMB.out (fun b hb => (HPD1.out b hb).2))
          have HMP := Lib.hid (HM9.out.step (HMB.out.mono (fun b hb => HPB.out b (HDW.out b hb))))
          obtain ⟨T1, hT1⟩ : ∃ T1, T1 = (markT T s).2 := ⟨_, rfl⟩
          have HT1E := Lib.hid hT1
          have HME := Lib.hid (show T1.marks = M' ++ [(s, i)] by rw [hT1, HSN.out, HMK.out, HFE.out, HMM.out, ← HSN.out]; rfl)
          have HI1 := Lib.hid (show TInv T1 from hT1 ▸ HIR.out.inv.mark s)
          have h1e : (markT T s).1 = 0 := by rw [HSN.out, HMK.out]
          have HNM := Lib.hid (show T1.marks.map (·.1) = M'.map (·.1) ++ [s] by rw [HME.out]; simp)
          have HNT := Lib.hid (show T1.marks.map (·.2) = M'.map (·.2) ++ [i] by rw [HME.out]; simp)
          rw [← HNM.out] at HA2
          rw [← HNT.out] at HB2
          have hle1 : (M'.map (·.1) ++ [s]).length = T1.marks.length := by rw [← HNM.out, List.length_map]
          have hle2 : (M'.map (·.2) ++ [i]).length = T1.marks.length := by rw [← HNT.out, List.length_map]
          have hlm : T1.marks.length = M'.length + 1 := by rw [HME.out]; simp
          rw [List.length_map, hlm] at HA2
          rw [List.length_map, hlm] at HB2
          have HLM := Lib.hid hlm
          clear hT1 HFE HMM hle1 hle2 hlm
          go_wp2_with fail
          refine (undoMark P1 A B T s wp HTP.out HIR.out.inv).mono ?_
          rintro e wc ⟨rfl, hT, hm⟩
          rw [h1e]
          rw [← HT1E.out] at hT
          have HTC := Lib.hid hT; have HMC := Lib.hid (HMP.out.step (hm.mono (fun b hb => (HPD1.out b hb).1)))
          have HAC := Lib.hid (HA2.out.mod hm (fun b hb h => (HPD1.out b h).2 hb.1)); have HBC := Lib.hid (HB2.out.mod hm (fun b hb h => (HPD1.out b h).2 hb.1))
          have hsc : wp.heap.size ≤ wc.heap.size := hm.size
          clear hT hm h1e
          go_wp2_with fail
          refine (undoMarks _ A B T1 wc HTC.out HI1.out).mono ?_
          rintro e wd ⟨v, ob, rfl, hown, -, hg⟩
          obtain ⟨a12, c12, rfl, -, -⟩ := hown.isSlice
          have HOW := Lib.hid (show StrsR (fun b => ob = some b) wd (.slice a12 T1.marks.length c12) (T1.marks.map (·.1)) from txtOwn (by rw [List.length_map, List.map_map]; exact hown))
          have HTD := Lib.hid (HTC.out.grow hg); have HMD := Lib.hid (HMC.out.step (Mod.of_grow hg)); have HAD := Lib.hid (HAC.out.grow hg); have HBD := Lib.hid (HBC.out.grow hg)
          have hsd : wc.heap.size ≤ wd.heap.size := hg.size
          clear hown hg
          go_wp2_with fail
          refine (keepTextsEq _ _ _ _ (T1.marks.map (·.1)) wd HOW.out HAD.out.toR).mono ?_
          rintro e we ⟨rfl, hg⟩
          have HTE := Lib.hid (HTD.out.grow hg); have HME5 := Lib.hid (HMD.out.step (Mod.of_grow hg)); have HAE := Lib.hid (HAD.out.grow hg); have HBE := Lib.hid (HBD.out.grow hg)
          have hse : wd.heap.size ≤ we.heap.size := hg.size
          clear hg
          obtain ⟨⟨b0, b1, b2, b3, b4, b5⟩, hcr⟩ := HB5.out we HME5.out
          have HDD := Lib.hid (undoDo _ _ A B T1 wa _ _ _ _ we HTE.out HI1.out hcr)
          clear hcr
          go_wp2_with fail
          refine HDD.out.mono ?_
          rintro e wf ⟨rfl, hT, hm⟩
          have HPE := Lib.hid (show ∀ b, (P1 b ∨ wp.heap.size ≤ b) → PP b ∧ ¬ (D1 b ∧ b < wp.heap.size) from fun b hb => hb.elim (fun h => ⟨(HPD1.out b h).1, fun h2 => (HPD1.out b h).2 h2.1⟩) (fun h => ⟨HPB.out b (by omega), fun h2 => by omega⟩))
          have HTF := Lib.hid hT; have HMF := Lib.hid (HME5.out.step (hm.mono (fun b hb => (HPE.out b hb).1)))
          have HAF := Lib.hid (HAE.out.mod hm (fun b hb h => (HPE.out b h).2 hb)); have HBF := Lib.hid (HBE.out.mod hm (fun b hb h => (HPE.out b h).2 hb))
          have h2e : (doT T1 wa).1.2 = 0 := by rw [HT1E.out, HSN.out]; exact HWS.out
          have HI2 := Lib.hid (show MqI (i + 1) (doT T1 wa).2 by rw [HT1E.out, HSN.out]; exact HSS.out)
          have HM2 := Lib.hid (show (doT T1 wa).2.marks = T1.marks by rw [HT1E.out, HSN.out]; exact HDO1.out.trans (by rw [HMK.out]))
          rw [h2e]
          clear hT hm HDD h2e
          go_wp2
          go_roundg (min ns.length 40 - (i + 1))
          case measure => omega
          case rel => exact ⟨i + 1, _, _, _, by omega, rfl, by first | go_num | (unfold wrap64; refine congrArg _ ?_; omega), HTF.out, HI2.out, by rw [HM2.out]; exact HAF.out, by rw [HM2.out]; exact HBF.out, fun b hb => hb.elim (HPE.out b) (fun h => ⟨HPB.out b (by omega), fun h2 => by omega⟩), fun b hb => HDW.out b hb.1, HMF.out⟩
    · have HMM := Lib.hid HMR.out
      by_cases hm0 : T.marks.length = 0
      · have hb0 : (backT T nmA).1 = 60 := by
          have : T.marks = [] := List.eq_nil_of_length_eq_zero hm0
          unfold backT
          rw [this]
          rfl
        go_wp2_with fail
        refine (undoBackTo _ A B T nmA wr HTR.out HIR.out.inv).mono ?_
        rintro e wc ⟨rfl, hT, hm⟩
        rw [hb0]
        have HMC := Lib.hid (HMR.out.step (hm.mono (fun b hb => (HPD.out b hb.1).1)))
        clear hT hm
        go_wp2_with fail
        refine (law19Wakes wc).mono ?_
        rintro e wv ⟨rfl, hgv⟩
        go_wp2
        go_ret
        exact ⟨rfl, (HG5.out.modd HMC.out HPW.out).step hgv⟩
      · obtain ⟨k, hk⟩ : ∃ k, k = kb % T.marks.length := ⟨_, rfl⟩
        have hkl : k < T.marks.length := by rw [hk]; exact Nat.mod_lt _ (by omega)
        have hq0 : ¬ (T.marks.length : Int) = 0 := by omega
        have hq1 : ((kb : Int)).tmod (T.marks.length : Int) = (k : Int) := by rw [Int.tmod_eq_emod_of_nonneg (by omega), hk]; exact (Int.natCast_emod _ _).symm
        have hq2 : IntKind.i64.wrap (kb : Int) = (kb : Int) := by rw [IntKind.wrap_i64]; omega
        have hq3 : IntKind.i64.wrap (k : Int) = (k : Int) := by rw [IntKind.wrap_i64]; omega
        obtain ⟨m, hm⟩ : ∃ m, T.marks[k]? = some m := ⟨_, List.getElem?_eq_getElem hkl⟩
        obtain ⟨y1, y2, y3, y4, y5, y6, y7⟩ := HIR.out.back hm
        have HLc1 := Lib.hid HL1.out.cut; have HLc2 := Lib.hid HL2.out.cut
        obtain ⟨D2, hD2⟩ : ∃ D2 : Nat → Prop, D2 = fun b => D b ∧ b < wr.heap.size := ⟨_, rfl⟩
        obtain ⟨P2, hP2⟩ : ∃ P2 : Nat → Prop, P2 = fun b => (P b ∧ b < wr.heap.size) ∨ wr.heap.size ≤ b := ⟨_, rfl⟩
        have HP2D := Lib.hid (show ∀ b, P2 b → PP b ∧ ¬ D2 b from fun b hb => by
          rw [hP2] at hb
          rw [hD2]
          rcases hb with hb | hb
          · exact ⟨(HPD.out b hb.1).1, fun h => (HPD.out b hb.1).2 h.1⟩
          · exact ⟨HPB.out b (by omega), fun h => by omega⟩)
        have HP12 := Lib.hid (show ∀ b, (P b ∧ b < wr.heap.size) → P2 b from fun b hb => by rw [hP2]; exact .inl hb)
        have HP2E := Lib.hid (show P2 = fun b => (P b ∧ b < wr.heap.size) ∨ wr.heap.size ≤ b from hP2)
        rw [← hD2] at HLc1 HLc2
        clear hD2 hP2 HL1 HL2
        obtain ⟨gl, cl2, he, -, -, hgl, -⟩ := HLc1.out.at0M (by omega)
        simp only [Value.slice.injEq, true_and] at he
        obtain ⟨rfl, rfl⟩ := he
        obtain ⟨gt, ct2, he, -, -, hgt, -⟩ := HLc2.out.at0M (by omega)
        simp only [Value.slice.injEq, true_and] at he
        obtain ⟨rfl, rfl⟩ := he
        have HCN := Lib.hid (show ∀ w', TxtD D2 w' (.slice (some ⟨gl, 0, none⟩) T.marks.length cl) (T.marks.map (·.1)) → w'.cell? ⟨gl, k, none⟩ = some (.string m.1) from fun w' h => h.cell1 (by rw [List.getElem?_map, hm]; rfl) (fun r h => h))
        have HCT := Lib.hid (show ∀ w', NatD D2 w' (.slice (some ⟨gt, 0, none⟩) T.marks.length ct) (T.marks.map (·.2)) → w'.cell? ⟨gt, k, none⟩ = some (.int .i64 m.2) from fun w' h => h.cell1 (by rw [List.getElem?_map, hm]; rfl) (fun r h => h))
        have HA0 := Lib.hid (show ∀ w', TxtD D2 w' (.slice (some ⟨gl, 0, none⟩) T.marks.length cl) (T.marks.map (·.1)) → gl < w'.heap.size from fun w' h => cell_lt (HCN.out w' h))
        have HB0 := Lib.hid (show ∀ w', NatD D2 w' (.slice (some ⟨gt, 0, none⟩) T.marks.length ct) (T.marks.map (·.2)) → gt < w'.heap.size from fun w' h => cell_lt (HCT.out w' h))
        have hml := HIR.out.mlt m (List.mem_of_getElem? hm)
        have a0 := HCN.out wr HLc1.out
        have Y1 := Lib.hid y1
        obtain ⟨T1, hT1⟩ : ∃ T1, T1 = (backT T m.1).2 := ⟨_, rfl⟩
        have HT1E := Lib.hid hT1
        rw [← hT1] at y2 y3 y4 y5 y6 y7
        have HNc := Lib.hid y2; have HNX := Lib.hid y3; have HLX := Lib.hid y4; have HY6 := Lib.hid y6; have HY7 := Lib.hid y7
        have HTK := Lib.hid (show ∀ w', TxtD D2 w' (.slice (some ⟨gl, 0, none⟩) T.marks.length cl) (T.marks.map (·.1)) → StrsR D2 w' (.slice (some ⟨gl, 0, none⟩) (k + 1) cl) (T1.marks.map (·.1)) from fun w' h => by
          rw [y5, List.map_take]
          exact h.toR.takeS (k + 1) (by rw [List.length_map]; omega))
        have HI1 := Lib.hid (show TInv T1 from hT1 ▸ HIR.out.inv.back m.1)
        have HGIc := Lib.hid (goodG_inv HI1.out.good)
        clear hT1 hm y1 y2 y3 y4 y5 y6 y7 hk
        go_wp2_with fail
        refine (undoBackTo _ A B T m.1 wr HTR.out HIR.out.inv).mono ?_
        rintro e wx ⟨rfl, hT, hm⟩
        rw [Y1.out]
        rw [← HT1E.out, ← HP2E.out] at hT
        have HTc := Lib.hid hT; have HMc := Lib.hid (HMR.out.step (hm.mono (fun b hb => (HPD.out b hb.1).1)))
        have HAc := Lib.hid (HLc1.out.mod hm (fun b hb h => (HP2D.out b (HP12.out b h)).2 hb)); have HBc := Lib.hid (HLc2.out.mod hm (fun b hb h => (HP2D.out b (HP12.out b h)).2 hb))
        have HSc := Lib.hid (show ∀ w', Grow wx w' → CellS w' gl gt k m from fun w' g => ⟨Nat.lt_of_lt_of_le (HA0.out wx HAc.out) g.size, Nat.lt_of_lt_of_le (HB0.out wx HBc.out) g.size, HCN.out w' (HAc.out.grow g), HCT.out w' (HBc.out.grow g)⟩)
        clear hT hm a0
        have hr1 : (0 : Int) ≤ (k : Int) + 1 := by omega
        have hr2 : (k : Int) + 1 ≤ (cl : Int) := by omega
        have hr4 : ((k : Int) + 1).toNat = k + 1 := by omega
        have hr5 : IntKind.i64.wrap ((k : Int) + 1) = (k : Int) + 1 := by rw [IntKind.wrap_i64]; omega
        have hr6 : IntKind.i64.wrap ((m.2 : Int) + 1) = (m.2 : Int) + 1 := by rw [IntKind.wrap_i64]; omega
        go_wp2_with fail
        go_region_held3 (fun w' => CellS w' gl gt k m) (exact HSc.out _ (by repeat first | exact Grow.rfl' _ | apply Grow.drewd)) (first | (go_at_call 23; refine (graphNodes _ B _ _ (HTc.out.grow (by repeat first | exact Grow.rfl' _ | apply Grow.drewd)).graph.rd (by have := HGIc.out.items; omega) (fun x hx => by have := (HGIc.out.nodesB x hx).2.2; omega)).mono ?_; rintro e wx ⟨v, ob, rfl, hown, -, hg⟩; obtain ⟨a9, c9, rfl⟩ : ∃ a c, v = .slice a m.2 c := (by (obtain ⟨_, _, _, h⟩ := hown); (obtain ⟨oa, cap, h, _⟩ := h.isSlice); exact ⟨oa, cap, by rw [← HNc.out]; exact h⟩); clear hown; have HTc := Lib.hid (HTc.out.grow (Grow.step (by repeat first | exact Grow.rfl' _ | apply Grow.drewd) hg)); have HAc := Lib.hid (HAc.out.grow (Grow.step (by repeat first | exact Grow.rfl' _ | apply Grow.drewd) hg)); have HBc := Lib.hid (HBc.out.grow (Grow.step (by repeat first | exact Grow.rfl' _ | apply Grow.drewd) hg)); have HMc := Lib.hid (HMc.out.step (Mod.of_grow (Grow.step (by repeat first | exact Grow.rfl' _ | apply Grow.drewd) hg))); have HSc := Lib.hid (show ∀ w', Grow wx w' → CellS w' gl gt k m from fun w' g => ⟨Nat.lt_of_lt_of_le (HA0.out wx HAc.out) g.size, Nat.lt_of_lt_of_le (HB0.out wx HBc.out) g.size, HCN.out w' (HAc.out.grow g), HCT.out w' (HBc.out.grow g)⟩); clear hg) | (go_at_call 24; refine (graphNext _ B T1.g _ (HTc.out.grow (by repeat first | exact Grow.rfl' _ | apply Grow.drewd)).graph).mono ?_; rintro e wx ⟨rfl, rfl⟩; rw [HNX.out]) | (go_at_call 17; refine (undoDone _ A B T1 _ (HTc.out.grow (by repeat first | exact Grow.rfl' _ | apply Grow.drewd)) HI1.out).mono ?_; rintro e wx ⟨v, ob, rfl, hown, -, hg⟩; obtain ⟨a11, c11, rfl, -, -⟩ := hown.isSlice; rw [HLX.out]; clear hown; have HTc := Lib.hid (HTc.out.grow (Grow.step (by repeat first | exact Grow.rfl' _ | apply Grow.drewd) hg)); have HAc := Lib.hid (HAc.out.grow (Grow.step (by repeat first | exact Grow.rfl' _ | apply Grow.drewd) hg)); have HBc := Lib.hid (HBc.out.grow (Grow.step (by repeat first | exact Grow.rfl' _ | apply Grow.drewd) hg)); have HMc := Lib.hid (HMc.out.step (Mod.of_grow (Grow.step (by repeat first | exact Grow.rfl' _ | apply Grow.drewd) hg))); have HSc := Lib.hid (show ∀ w', Grow wx w' → CellS w' gl gt k m from fun w' g => ⟨Nat.lt_of_lt_of_le (HA0.out wx HAc.out) g.size, Nat.lt_of_lt_of_le (HB0.out wx HBc.out) g.size, HCN.out w' (HAc.out.grow g), HCT.out w' (HBc.out.grow g)⟩); clear hg) | (go_at_call 21; refine (undoMarks _ A B T1 _ (HTc.out.grow (by repeat first | exact Grow.rfl' _ | apply Grow.drewd)) HI1.out).mono ?_; rintro e wx ⟨v, ob, rfl, hown, -, hg⟩; obtain ⟨a12, c12, rfl, -, -⟩ := hown.isSlice; have HOW := Lib.hid (show StrsR (fun b => ob = some b) wx (.slice a12 T1.marks.length c12) (T1.marks.map (·.1)) from txtOwn (by rw [List.length_map, List.map_map]; exact hown)); clear hown; have HTc := Lib.hid (HTc.out.grow (Grow.step (by repeat first | exact Grow.rfl' _ | apply Grow.drewd) hg)); have HAc := Lib.hid (HAc.out.grow (Grow.step (by repeat first | exact Grow.rfl' _ | apply Grow.drewd) hg)); have HBc := Lib.hid (HBc.out.grow (Grow.step (by repeat first | exact Grow.rfl' _ | apply Grow.drewd) hg)); have HMc := Lib.hid (HMc.out.step (Mod.of_grow (Grow.step (by repeat first | exact Grow.rfl' _ | apply Grow.drewd) hg))); have HSc := Lib.hid (show ∀ w', Grow wx w' → CellS w' gl gt k m from fun w' g => ⟨Nat.lt_of_lt_of_le (HA0.out wx HAc.out) g.size, Nat.lt_of_lt_of_le (HB0.out wx HBc.out) g.size, HCN.out w' (HAc.out.grow g), HCT.out w' (HBc.out.grow g)⟩); clear hg) | (go_at_call 22; refine (keepTextsEq _ _ _ _ (T1.marks.map (·.1)) _ (HOW.out.growS (by repeat first | exact Grow.rfl' _ | apply Grow.drewd)) (HTK.out _ (HAc.out.grow (by repeat first | exact Grow.rfl' _ | apply Grow.drewd)))).mono ?_; rintro e wx ⟨rfl, hg⟩; have HTc := Lib.hid (HTc.out.grow (Grow.step (by repeat first | exact Grow.rfl' _ | apply Grow.drewd) hg)); have HAc := Lib.hid (HAc.out.grow (Grow.step (by repeat first | exact Grow.rfl' _ | apply Grow.drewd) hg)); have HBc := Lib.hid (HBc.out.grow (Grow.step (by repeat first | exact Grow.rfl' _ | apply Grow.drewd) hg)); have HMc := Lib.hid (HMc.out.step (Mod.of_grow (Grow.step (by repeat first | exact Grow.rfl' _ | apply Grow.drewd) hg))); have HSc := Lib.hid (show ∀ w', Grow wx w' → CellS w' gl gt k m from fun w' g => ⟨Nat.lt_of_lt_of_le (HA0.out wx HAc.out) g.size, Nat.lt_of_lt_of_le (HB0.out wx HBc.out) g.size, HCN.out w' (HAc.out.grow g), HCT.out w' (HBc.out.grow g)⟩); clear hg) | (go_at_call 16; refine (undoBackTo _ A B T1 m.1 _ (HTc.out.grow (by repeat first | exact Grow.rfl' _ | apply Grow.drewd)) HI1.out).mono ?_; rintro e wx ⟨rfl, hT, hm⟩; rw [HY6.out]; have HTc := Lib.hid hT; have HAc := Lib.hid (HAc.out.mod (Mod.step (Mod.of_grow (by repeat first | exact Grow.rfl' _ | apply Grow.drewd)) hm) (fun b hb h => (HP2D.out b h).2 hb)); have HBc := Lib.hid (HBc.out.mod (Mod.step (Mod.of_grow (by repeat first | exact Grow.rfl' _ | apply Grow.drewd)) hm) (fun b hb h => (HP2D.out b h).2 hb)); have HMc := Lib.hid (HMc.out.step (Mod.mono (Mod.step (Mod.of_grow (by repeat first | exact Grow.rfl' _ | apply Grow.drewd)) hm) (fun b hb => (HP2D.out b hb).1))); have HNc := Lib.hid HY7.out; have HGIc := Lib.hid (goodG_inv (HI1.out.back m.1).good); have HSc := Lib.hid (show ∀ w', Grow wx w' → CellS w' gl gt k m from fun w' g => ⟨Nat.lt_of_lt_of_le (HA0.out wx HAc.out) g.size, Nat.lt_of_lt_of_le (HB0.out wx HBc.out) g.size, HCN.out w' (HAc.out.grow g), HCT.out w' (HBc.out.grow g)⟩); clear hT hm) | (go_at_call 11; refine (law19Wakes _).mono ?_; rintro e wx ⟨rfl, hg⟩; have HTc := Lib.hid (HTc.out.grow (Grow.step (by repeat first | exact Grow.rfl' _ | apply Grow.drewd) hg)); have HAc := Lib.hid (HAc.out.grow (Grow.step (by repeat first | exact Grow.rfl' _ | apply Grow.drewd) hg)); have HBc := Lib.hid (HBc.out.grow (Grow.step (by repeat first | exact Grow.rfl' _ | apply Grow.drewd) hg)); have HMc := Lib.hid (HMc.out.step (Mod.of_grow (Grow.step (by repeat first | exact Grow.rfl' _ | apply Grow.drewd) hg))); have HSc := Lib.hid (show ∀ w', Grow wx w' → CellS w' gl gt k m from fun w' g => ⟨Nat.lt_of_lt_of_le (HA0.out wx HAc.out) g.size, Nat.lt_of_lt_of_le (HB0.out wx HBc.out) g.size, HCN.out w' (HAc.out.grow g), HCT.out w' (HBc.out.grow g)⟩); clear hg))
        all_goals
          go_wp2_with fail
          go_ret
          exact ⟨rfl, HG5.out.modd HMc.out HPW.out⟩
end Go.Hg
