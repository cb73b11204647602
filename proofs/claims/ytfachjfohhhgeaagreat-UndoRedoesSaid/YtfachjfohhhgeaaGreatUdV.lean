/- What UndoAll and UndoRedoes share: a step's cells, the tail of a round, the Ids of what was done; hedgerowlaw19.UndoRedoes: true. Conditions: those that each theorem names. -/
import Derived.WalkKit
import Derived.WalkSpells
import Derived.WalkLawsBesides
import Derived.Lib.Hide
import Derived.BigQuiet
import Derived.Deep.LoopGhost
import Derived.Maps.OwnOps
import Derived.Maps.OwnSet
import Derived.Carry
import Derived.Test.YtfachjfohhhgeaaGreatRows
import Derived.Lib.SlKeysI
import Derived.Lib.SliceRun
import Derived.WideMake
import Derived.Deep.RegionLaw
import Derived.Lib.Overlaps
import Derived.Deep.RegionHeld3
import Derived.Laws.ResultCell
import Derived.Shelf.SlSortCmp.WholeK
import Derived.Laws.EntriesVeiled
import Derived.Deep.DeepCutAuto
import Derived.Deep.CutBlock
import Derived.Test.YtfachjfohhhgeaaGreatUdL
import Derived.Test.YtfachjfohhhgeaaGreatUdN
import Derived.Test.YtfachjfohhhgeaaGreatUdS
namespace Go.Hg
open Go.RowKit Go.Proofs

abbrev OpD (w : World) (b off : Nat) (o : POp) : Prop := b < w.heap.size ∧ w.cell? ⟨b, off, none⟩ = some (.int .i64 o.kind) ∧ w.cell? ⟨b, off + 1, none⟩ = some (.int .i64 o.id) ∧ w.cell? ⟨b, off + 2, none⟩ = some (.string o.typ) ∧
    w.cell? ⟨b, off + 3, none⟩ = some (.int .i64 o.from_) ∧ w.cell? ⟨b, off + 4, none⟩ = some (.int .i64 o.to_) ∧ w.cell? ⟨b, off + 5, none⟩ = some (.string o.name) ∧ w.cell? ⟨b, off + 6, none⟩ = some (.int .i64 o.v.kind) ∧ w.cell? ⟨b, off + 7, none⟩ = some (.int .i64 o.v.n) ∧ w.cell? ⟨b, off + 8, none⟩ = some (.string o.v.s) ∧ w.cell? ⟨b, off + 9, none⟩ = some (.bool o.cascade)
theorem opD_of {w w' : World} {x : POp} {b o : Nat} {r : List Value} (h : r = POp.cells x) (he : w'.heap[b]? = w.heap[b]?) (hc : ∀ (j : Nat) c, r[j]? = some c → w.cell? ⟨b, o + j, none⟩ = some c) : OpD w' b o x := by
  subst h
  have e := cells_at he hc
  exact ⟨cell_lt (e 0 _ rfl), e 0 _ rfl, e 1 _ rfl, e 2 _ rfl, e 3 _ rfl, e 4 _ rfl, e 5 _ rfl, e 6 _ rfl, e 7 _ rfl, e 8 _ rfl, e 9 _ rfl⟩
theorem opsOwnS {w : World} {v : Value} {l : List POp} {ob : Option Nat} (h : OwnS w 35 10 v l.length (l.map POp.cells).flatten ob) : OpsR (fun b => ob = some b) w v l :=
  OwnL.toSl (E := 35) (sz := 10) (R := fun x r => r = POp.cells x) (ob := ob) ⟨l.map POp.cells, List.length_map .., fun k x r hk hr => by
    rw [List.getElem?_map, hk] at hr
    exact ⟨(Option.some.inj hr).symm, by rw [← Option.some.inj hr]; rfl⟩, h⟩ (fun g hg => hg)
def gAt (T : PTrail) (j : Nat) : PGraph := ((T.l[j]?).map (·.2)).getD T.g
def IdT (T : PTrail) : Prop := ∀ x ∈ T.l, (x.1.kind = 1 ∨ x.1.kind = 3) → x.1.id = x.2.next
theorem idT_nil (G : PGraph) : IdT ⟨G, [], []⟩ := fun x h => by simp at h
theorem idT_cut {T : PTrail} (h : IdT T) (n : Nat) : IdT (cutT T n) := fun x hx => h x (List.mem_of_mem_take hx)
theorem idT_do {T : PTrail} (h : IdT T) (o : POp) : IdT (doT T o).2 := by
  unfold doT
  split
  · exact h
  split
  · exact h
  intro x hx hk
  rcases List.mem_append.1 hx with hx | hx
  · exact h x hx hk
  · rw [List.mem_singleton.1 hx] at hk ⊢
    dsimp only at hk ⊢
    rw [opId_kind] at hk
    unfold opId
    rw [if_pos hk]
theorem idT_mark {T : PTrail} (h : IdT T) (n : ByteArray) : IdT (markT T n).2 := by
  unfold markT
  split
  · exact h
  split
  · exact h
  exact h
theorem idT_back {T : PTrail} (h : IdT T) (n : ByteArray) : IdT (backT T n).2 := by
  unfold backT
  split
  · exact h
  · exact idT_cut h _
theorem idT_step {T : PTrail} (h : IdT T) (x : PStep) : IdT (stepT T x) := by
  unfold stepT
  split
  · exact idT_do h x.o
  split
  · exact idT_mark h x.name
  split
  · exact idT_back h x.name
  · exact h
theorem id_run : ∀ (l : List PStep) {T : PTrail}, IdT T → IdT (runT T l)
  | [], _, h => h
  | x :: l, _, h => id_run l (idT_step h x)
end Go.Hg

namespace Go.Hg
open Go.RowKit Go.Proofs

set_option maxRecDepth 100000 in
set_option maxHeartbeats 16000000 in
theorem law19Redoes (Sa : Nat → Prop) (va : Value) (l1 : List POp) (Sb : Nat → Prop) (vb : Value) (l2 : List PStep) (w : World) (h1 : OpsR Sa w va l1) (h2 : StepsU Sb w vb l2) : Calls Tryz.prog 3 #[va, vb] w fun e w' => e = .returned (.bool true) ∧ Grow w w' := by
  have H1 := Lib.hid h1; have H2 := Lib.hid h2
  obtain ⟨aa, ca, rfl, hal, hac, hA⟩ := SlR.open h2
  obtain ⟨a1, c1, rfl, _⟩ := SlR.open h1
  have HA := Lib.hid hA
  unfold maxLen at hac
  clear h1 h2 hA
  go_enter Tryz.func3, Tryz.ntmps3
  go_wp2_with fail
  refine (lawMade Sa _ l1 w H1.out).mono ?_
  rintro e w1 (⟨-, rfl, hg1⟩ | ⟨-, B1, B2, rfl, hp⟩)
  · have HG1 := Lib.hid hg1
    clear hg1
    go_wp2_with fail
    refine (law19Wakes w1).mono ?_
    rintro e w2 ⟨rfl, hg2⟩
    go_wp2
    go_ret
    exact ⟨rfl, HG1.out.step hg2⟩
  have hgd0 : goodG (madeG l1) = true := madeK_good _ _
  generalize madeG l1 = G at *
  have HGD := Lib.hid hgd0
  obtain ⟨S1, S2, q1, q2, q3, q4, q5, q6⟩ := hp
  have Q1 := Lib.hid q1; have Q2 := Lib.hid q2; have Q3 := Lib.hid q3; have Q4 := Lib.hid q4; have Q5 := Lib.hid q5; have HG1 := Lib.hid q6
  clear q1 q2 q3 q4 q5 q6 hgd0
  go_wp2_with fail
  refine (law19Fair Sb _ l2 w1 (H2.out.growS HG1.out)).mono ?_
  rintro e w2 ⟨rfl, hg2⟩
  have HG2 := Lib.hid (HG1.out.step hg2); have HG12 := Lib.hid hg2
  have hs12 := hg2.size
  clear hg2
  cases hf : fairS l2
  · clear hf
    go_wp2_with fail
    refine (law19Wakes w2).mono ?_
    rintro e w3 ⟨rfl, hg3⟩
    go_wp2
    go_ret
    exact ⟨rfl, HG2.out.step hg3⟩
  clear hf
  go_wp2_with fail
  refine (undoNew S1 B1 G w2 (Q1.out.grow HG12.out)).mono ?_
  rintro e w3 ⟨A, rfl, hT, hg3⟩
  obtain ⟨P, hP⟩ : ∃ P : Nat → Prop, P = fun b => S1 b ∨ w2.heap.size ≤ b := ⟨_, rfl⟩
  have HT0 := Lib.hid (show TrailOk P w3 A B1 ⟨G, [], []⟩ by rw [hP]; exact hT)
  have HPW := Lib.hid (show ∀ b, P b → w.heap.size ≤ b from fun b hb => by
    rw [hP] at hb
    have h1 := HG1.out.size
    rcases hb with hb | hb
    · exact (Q4.out b hb).1
    · omega)
  have HPB := Lib.hid (show ∀ b, w2.heap.size ≤ b → P b from fun b hb => by rw [hP]; exact .inr hb)
  have HP2 := Lib.hid (show ∀ b, S2 b → ¬ P b from fun b hb h => by
    rw [hP] at h
    rcases h with h | h
    · exact Q3.out b h hb
    · have := (Q5.out b hb).2; omega)
  have HG03 := Lib.hid (HG2.out.step hg3)
  have HQ3 := Lib.hid (Q2.out.grow (HG12.out.step hg3))
  have hs23 := hg3.size
  have HI0 := Lib.hid (TInv.new HGD.out)
  clear hT hg3 hP
  go_wp2
  go_loopg [9] l2.length (fun g iv wr => ∃ (i : Nat) (T : PTrail), i ≤ l2.length ∧ g = l2.length - i ∧ iv = .int .i64 i ∧ TrailOk P wr A B1 T ∧ T = runT ⟨G, [], []⟩ (l2.take i) ∧ Mod P w3 wr)
  case atStart => exact ⟨0, ⟨G, [], []⟩, by omega, by omega, rfl, HT0.out, rfl, Mod.rfl' _ _⟩
  case round =>
    obtain ⟨i, T, hi, rfl, rfl, hT, hr, hm⟩ := hrel
    have HTR := Lib.hid hT; have HMR := Lib.hid hm; have HR := Lib.hid hr
    have HIR := Lib.hid (show TInv T from hr ▸ inv_run _ HI0.out)
    have hsr := hm.size
    clear hT hm hr
    by_cases hil : i < l2.length
    · obtain ⟨ba, oa, ra, rfl, hSa, hba, hRa, hca⟩ := HA.out i l2[i] (List.getElem?_eq_getElem hil)
      have HTK := Lib.hid (show l2.take (i + 1) = l2.take i ++ [l2[i]] from List.take_succ_eq_append_getElem hil)
      have HCS := Lib.hid (show ∀ w', Mod P w3 w' → StpD w' ba (oa + i * 12) l2[i] from fun w' m => stpD_of hRa ((m.block ba (Nat.lt_of_lt_of_le hba HG03.out.size) (fun h => by have := HPW.out ba h; omega)).trans (HG03.out.heapEq hba)) hca)
      clear hca hRa hSa hba
      generalize l2[i] = x at *
      obtain ⟨b0, k0, k1, k2, k3, k4, k5, k6, k7, k8, k9, k10, k11⟩ := HCS.out wr HMR.out
      go_upto_block 1 with fail
      go_cut [] (fun wx => TailU P w3 wx A B1 (stepT T x))
      case first =>
        by_cases hk0 : x.kind = 0
        · have e0 : (x.kind == 0) = true := by simpa using hk0
          have HST := Lib.hid (show (doT T x.o).2 = stepT T x by unfold stepT; rw [if_pos hk0])
          have HD := Lib.hid (show Grow wr wr.drew from (Grow.rfl' wr).drewd)
          have HS := Lib.hid (show ∀ w', Grow wr w' → StpD w' ba (oa + i * 12) x from fun w' g => HCS.out w' (HMR.out.step (Mod.of_grow g)))
          clear hk0
          go_wp2_with fail
          go_region_held3 (fun w' => StpD w' ba (oa + i * 12) x) (first | exact HS.out _ HD.out | exact HS.out _ HT3.out | exact HKD4.out) (first | (go_at_call 14; refine (lawTypes _).mono ?_; rintro e wt3 ⟨nv, ev, rfl, hc, hg3⟩; have HC := Lib.hid hc; have HT3 := Lib.hid (HD.out.step hg3); obtain ⟨na, nc, ea, ec, ra, rc, ia, ic, rfl, rfl, -, -⟩ := hc.slices; clear hc hg3) | (go_at_call 13; refine (undoDo P _ A B1 T x.o _ _ _ _ _ (HTR.out.grow HT3.out) HIR.out HC.out).mono ?_; rintro e wd4 ⟨rfl, hT4, m4⟩; have HM4 := Lib.hid ((HMR.out.step (Mod.of_grow HT3.out)).step m4); have HKD4 := Lib.hid (HCS.out wd4 HM4.out); have HT4 := Lib.hid (show TrailOk P wd4 A B1 (stepT T x) from HST.out ▸ hT4.sub (fun b hb => hb.elim id (fun h => HPB.out b (by have := HT3.out.size; omega)))); clear hT4 m4))
          go_wp2_with fail
          go_meet
          exact ⟨HT4.out, HM4.out⟩
        have e0 : (x.kind == 0) = false := by simpa using hk0
        by_cases hk1 : x.kind = 1
        · have e1 : (x.kind == 1) = true := by simpa using hk1
          have HST := Lib.hid (show (markT T x.name).2 = stepT T x by unfold stepT; rw [if_neg hk0, if_pos hk1])
          clear hk0 hk1
          go_wp2_with fail
          refine (undoMark P A B1 T x.name wr HTR.out HIR.out).mono ?_
          rintro e wd4 ⟨rfl, hT4, m4⟩
          have HM4 := Lib.hid (HMR.out.step m4)
          have HT4 := Lib.hid (show TrailOk P wd4 A B1 (stepT T x) from HST.out ▸ hT4.sub (fun b hb => hb.elim id (fun h => HPB.out b (by omega))))
          clear hT4 m4
          go_wp2_with fail
          go_meet
          exact ⟨HT4.out, HM4.out⟩
        have e1 : (x.kind == 1) = false := by simpa using hk1
        by_cases hk2 : x.kind = 2
        · have e2 : (x.kind == 2) = true := by simpa using hk2
          have HST := Lib.hid (show (backT T x.name).2 = stepT T x by unfold stepT; rw [if_neg hk0, if_neg hk1, if_pos hk2])
          clear hk0 hk1 hk2
          go_wp2_with fail
          refine (undoBackTo P A B1 T x.name wr HTR.out HIR.out).mono ?_
          rintro e wd4 ⟨rfl, hT4, m4⟩
          have HM4 := Lib.hid (HMR.out.step m4)
          have HT4 := Lib.hid (show TrailOk P wd4 A B1 (stepT T x) from HST.out ▸ hT4.sub (fun b hb => hb.elim id (fun h => HPB.out b (by omega))))
          clear hT4 m4
          go_wp2_with fail
          go_meet
          exact ⟨HT4.out, HM4.out⟩
        · have e2 : (x.kind == 2) = false := by simpa using hk2
          have HST := Lib.hid (show T = stepT T x by unfold stepT; rw [if_neg hk0, if_neg hk1, if_neg hk2])
          clear hk0 hk1 hk2
          go_wp2_with fail
          go_meet
          exact ⟨HST.out ▸ HTR.out, HMR.out⟩
      case rest =>
        obtain ⟨w9, rfl⟩ : ∃ w9, w9 = wc := ⟨_, rfl⟩
        obtain ⟨ht9, hm9⟩ := hcut
        have HT9 := Lib.hid ht9; have HM9 := Lib.hid hm9
        have HRR := Lib.hid (show stepT T x = runT ⟨G, [], []⟩ (l2.take (i + 1)) by rw [HTK.out, runT_snoc, ← HR.out])
        clear ht9 hm9 b0 k0 k1 k2 k3 k4 k5 k6 k7 k8 k9 k10 k11
        go_wp2_with fail
        go_roundg (l2.length - (i + 1))
        case measure => omega
        case rel => exact ⟨i + 1, _, by omega, rfl, by first | go_num | (unfold wrap64; refine congrArg _ ?_; omega), HT9.out, HRR.out, HM9.out⟩
    · have HFT := Lib.hid (show firstT T = G by rw [HR.out, first_run]; rfl)
      have HID := Lib.hid (show IdT T from by rw [HR.out]; exact id_run _ (idT_nil G))
      go_wp2_with fail
      refine (undoDone P A B1 T wr HTR.out HIR.out).mono ?_
      rintro e w4 ⟨v, ob, rfl, hown, hob, g4⟩
      obtain ⟨ad, cd, rfl, -, hcd⟩ := hown.isSlice
      have HOB := Lib.hid hob
      have HT4 := Lib.hid (HTR.out.grow g4); have HM4 := Lib.hid (HMR.out.step (Mod.of_grow g4))
      have HOP := Lib.hid (show OpsR (fun b => ob = some b) w4 (.slice ad T.l.length cd) (T.l.map (·.1)) from by
        have h := opsOwnS (l := T.l.map (·.1)) (ob := ob) (by rw [List.length_map]; exact hown)
        exact h)
      have HOL := Lib.hid (show ∀ b, ob = some b → b < w4.heap.size from hown.lt)
      have hs4 : wr.heap.size ≤ w4.heap.size := g4.size
      have hdl : T.l.length ≤ 64 := HIR.out.len
      obtain ⟨ad2, cd2, he, -, -, hB⟩ := SlR.open HOP.out
      simp only [Value.slice.injEq, List.length_map, true_and] at he
      obtain ⟨rfl, rfl⟩ := he
      have HB := Lib.hid hB
      obtain ⟨Q, hQ⟩ : ∃ Q : Nat → Prop, Q = fun b => S2 b ∨ w4.heap.size ≤ b := ⟨_, rfl⟩
      have HQB := Lib.hid (show ∀ b, w4.heap.size ≤ b → Q b from fun b hb => by rw [hQ]; exact .inr hb)
      have HQ4 := Lib.hid (show GraphOk 86 Q w4 B2 (gAt T 0) from by
        have h := HQ3.out.keep HM4.out HP2.out
        rw [show gAt T 0 = G from HFT.out]
        exact h.sub (fun b hb => by rw [hQ]; exact .inl hb))
      have HQN := Lib.hid (show ∀ b, ob = some b → ¬ Q b from fun b hb h => by
        rw [hQ] at h
        have h1 := HOL.out b hb
        have h2 := HOB.out b hb
        rcases h with h | h
        · have := (Q5.out b h).2; omega
        · omega)
      have HQW := Lib.hid (show ∀ b, Q b → w.heap.size ≤ b from fun b h => by
        rw [hQ] at h
        have h1 := HG03.out.size
        rcases h with h | h
        · exact (Q5.out b h).1
        · omega)
      have HTC := Lib.hid (show ∀ b, (P b ∧ b < w4.heap.size) → ¬ Q b from fun b hb h => by
        rw [hQ] at h
        rcases h with h | h
        · exact HP2.out b h hb.1
        · omega)
      have HT4c := Lib.hid HT4.out.cut
      clear hown hob g4 hQ hB
      obtain ⟨w3b, rfl⟩ : ∃ w3b, w3b = wr := ⟨_, rfl⟩
      obtain ⟨i1, rfl⟩ : ∃ i1, i1 = i := ⟨_, rfl⟩
      go_wp2
      go_loopg [11] T.l.length (fun g iv wr => ∃ j : Nat, j ≤ T.l.length ∧ g = T.l.length - j ∧ iv = .int .i64 j ∧ GraphOk 86 Q wr B2 (gAt T j) ∧ Mod Q w4 wr)
      case atStart => exact ⟨0, by omega, by omega, rfl, HQ4.out, Mod.rfl' _ _⟩
      case round =>
        obtain ⟨j, hj, rfl, rfl, hok, hm⟩ := hrel
        have HOK := Lib.hid hok; have HMJ := Lib.hid hm
        have hsj := hm.size
        clear hok hm
        by_cases hjl : j < T.l.length
        · obtain ⟨bd, od, rd, rfl, hSd, hbd, hRd, hcd⟩ := HB.out j T.l[j].1 (by rw [List.getElem?_map, List.getElem?_eq_getElem hjl]; rfl)
          have HXJ := Lib.hid (show T.l[j]? = some T.l[j] from List.getElem?_eq_getElem hjl)
          have HCS := Lib.hid (show ∀ w', Mod Q w4 w' → OpD w' bd (od + j * 10) T.l[j].1 from fun w' m => opD_of hRd (m.block bd hbd (HQN.out bd hSd)) hcd)
          have HGJ := Lib.hid (show gAt T j = T.l[j].2 by unfold gAt; rw [HXJ.out]; rfl)
          obtain ⟨c1, c2, c3⟩ := HIR.out.chain j T.l[j].1 T.l[j].2 HXJ.out
          have C1 := Lib.hid c1; have C2 := Lib.hid c2; have C3 := Lib.hid (show doG T.l[j].1 T.l[j].2 = gAt T (j + 1) from c3)
          have HIX := Lib.hid (HID.out T.l[j] (List.getElem_mem hjl))
          clear hcd hRd hSd hbd c1 c2 c3 HXJ
          generalize T.l[j] = y at *
          obtain ⟨o, g0⟩ := y
          dsimp only at *
          have HGI := Lib.hid (goodG_inv C1.out)
          have HOK' := Lib.hid (show GraphOk 86 Q wr B2 g0 from HGJ.out ▸ HOK.out)
          have HNX := Lib.hid (show GraphOk 86 Q wr B2 (gAt T j) from HOK.out)
          clear HOK HGJ
          obtain ⟨rid, hrid⟩ : ∃ r, idG o g0 = r := ⟨_, rfl⟩
          have HRID := Lib.hid hrid
          clear hrid
          have HD := Lib.hid (show Grow wr wr.drew from (Grow.rfl' wr).drewd)
          have HS := Lib.hid (show ∀ w', Grow wr w' → OpD w' bd (od + j * 10) o from fun w' g => HCS.out w' (HMJ.out.step (Mod.of_grow g)))
          obtain ⟨bb0, k0, k1, k2, k3, k4, k5, k6, k7, k8, k9⟩ := HCS.out wr HMJ.out
          go_upto_region 19 with fail
          clear bb0 k0 k1 k2 k3 k4 k5 k6 k7 k8 k9
          go_cut [12, 13] (fun iv ev wx => iv = .int .i64 rid ∧ ev = .int .i64 0 ∧ GraphOk 86 Q wx B2 (gAt T (j + 1)) ∧ Mod Q w4 wx)
          case first =>
            go_wp2_with fail
            go_region_held3 (fun w' => OpD w' bd (od + j * 10) o) (first | exact HS.out _ HD.out | exact HS.out _ HT3.out | exact HKD4.out) (first | (go_at_call 14; refine (lawTypes _).mono ?_; rintro e wt3 ⟨nv, ev, rfl, hc, hg3⟩; have HC := Lib.hid hc; have HT3 := Lib.hid (HD.out.step hg3); obtain ⟨na, nc, ea, ec, ra, rc, ia, ic, rfl, rfl, -, -⟩ := hc.slices; clear hc hg3) | (go_at_call 18; refine (refDo Q _ B2 g0 _ _ _ _ typesC o _ (HOK'.out.grow HT3.out) HGI.out HC.out).mono ?_; rintro e wd4 ⟨rfl, hq4, m4⟩; rw [if_pos C2.out, C2.out, HRID.out]; have HM5 := Lib.hid ((HMJ.out.step (Mod.of_grow HT3.out)).step m4); have HKD4 := Lib.hid (HCS.out wd4 HM5.out); have HQ5 := Lib.hid (show GraphOk 86 Q wd4 B2 (gAt T (j + 1)) from by (have e : stepG typesC o g0 = gAt T (j + 1) := by (unfold Hg.stepG; rw [if_pos C2.out]; exact C3.out)); rw [← e]; exact hq4.sub (fun b hb => hb.elim id (fun h => HQB.out b (by have := HT3.out.size; omega)))); clear hq4 m4))
            go_wp2_with fail
            go_meet
            exact ⟨rfl, rfl, HQ5.out, HM5.out⟩
          case rest =>
            obtain ⟨rfl, rfl, hq5, hm5⟩ := hcut
            obtain ⟨w9, rfl⟩ : ∃ w9, w9 = wc := ⟨_, rfl⟩
            have HQ5 := Lib.hid hq5; have HM5 := Lib.hid hm5
            clear hq5 hm5
            obtain ⟨bb0, k0, k1, k2, k3, k4, k5, k6, k7, k8, k9⟩ := HCS.out w9 HM5.out
            by_cases hr0 : rid = 0
            · have e0 : (rid != 0) = false := by simpa using hr0
              clear hr0
              go_wp2_with fail
              go_roundg (T.l.length - (j + 1))
              case measure => omega
              case rel => exact ⟨j + 1, by omega, rfl, by first | go_num | (unfold wrap64; refine congrArg _ ?_; omega), HQ5.out, HM5.out⟩
            · have e0 : (rid != 0) = true := by simpa using hr0
              have e1 : (rid != o.id) = false := by
                have h := HIX.out
                rw [← HRID.out] at hr0 ⊢
                unfold idG at hr0 ⊢
                split at hr0
                · rename_i hk
                  rw [if_pos hk]
                  simpa using (h hk).symm
                · exact absurd rfl hr0
              clear hr0
              go_wp2_with fail
              go_roundg (T.l.length - (j + 1))
              case measure => omega
              case rel => exact ⟨j + 1, by omega, rfl, by first | go_num | (unfold wrap64; refine congrArg _ ?_; omega), HQ5.out, HM5.out⟩
        · have HGE := Lib.hid (show gAt T j = T.g by unfold gAt; rw [List.getElem?_eq_none (by omega)]; rfl)
          go_wp2_with fail
          refine (lawSame _ Q B1 B2 T.g wr (HT4c.out.graph.keep HMJ.out HTC.out) (HGE.out ▸ HOK.out) (goodG_inv HIR.out.good)).mono ?_
          rintro e w5 ⟨rfl, g5⟩
          have HG5 := Lib.hid (((HG03.out.modd HM4.out HPW.out).modd HMJ.out HQW.out).step g5)
          clear g5
          go_wp2_with fail
          refine (law19Wakes w5).mono ?_
          rintro e w8 ⟨rfl, g8⟩
          go_wp2
          go_ret
          exact ⟨rfl, HG5.out.step g8⟩
end Go.Hg
