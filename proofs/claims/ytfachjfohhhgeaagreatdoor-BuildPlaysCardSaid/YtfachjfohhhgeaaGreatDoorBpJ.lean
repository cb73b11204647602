/- append of a readable list of structs at a row of structs, as a step of a drawn region; (*build.Job).Step; hedgerowref23.ids; check.doubles: the nodes whose value another one has; check.Broken: without a form, Unique, Exists; What changes touch: the plain words; a rule that no spot concerns stays kept; graph.good: whether nodes and edges are a graph's; A good graph stays good under each change; Spots in order: the plain words; hedgerowref02.Compare; hedgerowref15.Broken: without a form, Ends; hedgerowref15.Broken: Most. Conditions: those that each theorem names. -/
import Derived.WalkKit
import Derived.WalkSpells
import Derived.WalkLawsBesides
import Derived.Lib.Hide
import Derived.BigQuiet
import Derived.Deep.LoopGhost
import Derived.Test.YtfachjfohhhgeaaGreatDoorRows
import Derived.Lib.SliceRun
import Derived.WideMake
import Derived.Deep.RegionLaw
import Derived.Lib.Overlaps
import Derived.Deep.RegionHeld3
import Derived.Laws.ResultCell
import Derived.Shelf.SortM.Plain
import Derived.Shelf.SortM.SortNone
import Derived.Shelf.SlicesE.DeleteFunc
import Derived.Maps.OwnOps
import Derived.Maps.OwnSet
import Derived.Carry
import Derived.Lib.SlKeysI
import Derived.Shelf.SlIterI.Nil
import Derived.Conc.LoneCalls
import Derived.Conc.SmallLaws
import Derived.Deep.CutBlock
import Derived.Deep.DeepCutAuto
import Derived.Laws.EntriesVeiled
import Derived.Maps.RangeWalk
import Derived.Lib.SlMapFilter
import Derived.Test.YtfachjfohhhgeaaGreatDoorBpI
namespace Go.Hg
open Go.RowKit Go.Proofs

theorem step_append_M {P : Program} {α : Type} {R : α → List Value → Prop} {S : Nat → Prop} {w : World} {ops : Array Oper} {o : Oper} {a : Act} {K : Act → World → Prop} {Q : Exit → Act → World → Prop} {E : Prop} (hgd : o.guard = none) (s x : Operand) (t : TypeId)
    (ho : o.op = .call { callee := .builtin .append, args := #[s, x], argTypes := #[t, t] }) {e : TypeId} {sz bytes : Nat} (T : RowT P e sz bytes) (ht : P.underlying t = some (.slice e)) (n : Nat) (v : Value) (l : List α) (hs : a.eval s = v) (h : OwnN e sz R n w v l)
    (xv : Value) (hx : a.eval x = xv) (m : List α) (hm : SlR S w sz R xv m) (hR : ∀ x r, R x r → r.length = sz ∧ ∀ u ∈ r, u.oneCell' = true) (hn : n ≤ w.heap.size) (hl : l.length + m.length ≤ maxLen) (hby : (l.length + m.length) * bytes ≤ 140737488355328)
    (hK : ∀ v' w', OwnN e sz R n w' v' (l ++ m) → Since n w w' → w.heap.size ≤ w'.heap.size → K (a.put o.dst v') w') : if Region.wanted o (yielded ops a.tmps) = true then Oper.wp P o a w K Q else E := by
  obtain ⟨rows2, g1, g2, g3⟩ := SlR.rdN hm T.pos (fun x r h => (hR x r h).1)
  obtain ⟨⟨iP, z, hiP, hzP0, hzP1, hzP2, hzz⟩, hpos⟩ := T
  obtain ⟨ob, hL, h2⟩ := h
  obtain ⟨rows, hlen, hrow, hS⟩ := hL
  have hone : ∀ u ∈ rows2.flatten, u.oneCell' = true := by
    intro u hu
    obtain ⟨r, hr, hur⟩ := List.mem_flatten.1 hu
    obtain ⟨k, hk, e⟩ := List.getElem_of_mem hr
    exact (hR _ r (g2 k (m[k]'(by omega)) r (List.getElem?_eq_getElem (by omega)) (by rw [List.getElem?_eq_getElem hk, e])).1).2 u hur
  refine step_append_S hgd s x t ho e iP z sz bytes ht hiP hzP0 hzP1 hzP2 hzz hpos v l.length _ ob hs hS _ hx m.length _ g3 hone hl hby ?_
  intro v' w' ob' k1 k2 k3 _
  refine hK v' w' ⟨ob', ?_, ?_⟩ (k2.mono fun q hq => h2 q hq) k2.size
  · refine ⟨rows ++ rows2, by simp [hlen, g1], fun k x1 r1 hx1 hr1 => ?_, ?_⟩
    · by_cases hk : k < l.length
      · rw [List.getElem?_append_left hk] at hx1
        rw [List.getElem?_append_left (by omega)] at hr1
        exact hrow k x1 r1 hx1 hr1
      · rw [List.getElem?_append_right (by omega)] at hx1
        rw [List.getElem?_append_right (by omega), hlen] at hr1
        exact g2 _ x1 r1 hx1 hr1
    · rw [List.length_append, List.flatten_append]
      exact k1
  · intro q hq
    rcases k3 with k3 | ⟨g, k3, hg⟩
    · exact h2 q (k3 ▸ hq)
    · rw [k3] at hq; cases hq; omega
theorem SlR.takeS {α : Type} {S : Nat → Prop} {w : World} {sz : Nat} {R : α → List Value → Prop} {a : Option Addr} {n cap : Nat} {l : List α} (h : SlR S w sz R (.slice a n cap) l) (k : Nat) (hk : k ≤ l.length) : SlR S w sz R (.slice a k cap) (l.take k) := by
  obtain ⟨a', cap', rows, hv, h1, h2, h3, h4, h5⟩ := h
  simp only [Value.slice.injEq] at hv
  obtain ⟨rfl, rfl, rfl⟩ := hv
  refine ⟨a, cap, rows.take k, by rw [List.length_take, Nat.min_eq_left hk], by rw [List.length_take]; omega, h2, by simp [h3], fun i x r hx hr => ?_, fun h0 => ?_⟩
  · rw [List.getElem?_take] at hx hr
    split at hx
    · rw [if_pos (by assumption)] at hr; exact h4 i x r hx hr
    · cases hx
  · rw [List.length_take] at h0
    obtain ⟨b, off, e, hS, hb, hc⟩ := h5 (by omega)
    refine ⟨b, off, e, hS, hb, fun i r j c hr hj => ?_⟩
    rw [List.getElem?_take] at hr
    split at hr
    · exact hc i r j c hr hj
    · cases hr
theorem SlR.dropS {α : Type} {S : Nat → Prop} {w : World} {sz : Nat} {R : α → List Value → Prop} {b off n cap : Nat} {l : List α} (h : SlR S w sz R (.slice (some ⟨b, off, none⟩) n cap) l) (k : Nat) (hk : k ≤ l.length) : SlR S w sz R (.slice (some ⟨b, off + k * sz, none⟩) (l.length - k) (cap - k)) (l.drop k) := by
  obtain ⟨a', cap', rows, hv, h1, h2, h3, h4, h5⟩ := h
  simp only [Value.slice.injEq] at hv
  obtain ⟨rfl, rfl, rfl⟩ := hv
  refine ⟨some ⟨b, off + k * sz, none⟩, cap - k, rows.drop k, by simp, by rw [List.length_drop]; omega, by omega, by simp [h3], fun i x r hx hr => ?_, fun h0 => ?_⟩
  · rw [List.getElem?_drop] at hx hr
    exact h4 _ x r hx hr
  · rw [List.length_drop] at h0
    obtain ⟨b', off', e, hS, hb, hc⟩ := h5 (by omega)
    simp only [Option.some.injEq, Addr.mk.injEq, and_true] at e
    obtain ⟨rfl, rfl⟩ := e
    refine ⟨b, off + k * sz, rfl, hS, hb, fun i r j c hr hj => ?_⟩
    rw [List.getElem?_drop] at hr
    have := hc _ r j c hr hj
    rw [Nat.add_mul] at this
    rw [Nat.add_assoc off]
    exact this
end Go.Hg

namespace Go.Hg
open Go.RowKit Go.Proofs

theorem tchF_fdel {l : List Int} (hl : l.Nodup) {k : Nat} (hk : k < l.length) : fdel (tchF (l.drop k)) l[k] = tchF (l.drop (k + 1)) := by
  funext y
  unfold fdel tchF
  have hd : l.drop k = l[k] :: l.drop (k + 1) := List.drop_eq_getElem_cons hk
  have hn : (l[k] :: l.drop (k + 1)).Nodup := hd ▸ hl.sublist (List.drop_sublist k l)
  rw [hd]
  by_cases h : y = l[k]
  · subst h
    rw [if_pos rfl, if_neg (List.nodup_cons.1 hn).1]
  · rw [if_neg h]
    simp only [List.mem_cons, h, false_or]
theorem SlR.at1 {S : Nat → Prop} {w : World} {v : Value} {l : List Int} (h : IdsR S w v l) : ∃ a cap, v = .slice a l.length cap ∧ l.length ≤ cap ∧ cap ≤ maxLen ∧ ∀ k x, l[k]? = some x → ∃ b o, a = some (⟨b, o, none⟩ : Addr) ∧ S b ∧ b < w.heap.size ∧ w.cell? ⟨b, o + k, none⟩ = some (.int .i64 x) := by
  obtain ⟨a, cap, h1, h2, h3, h4⟩ := SlR.open h
  refine ⟨a, cap, h1, h2, h3, fun k x hx => ?_⟩
  obtain ⟨b, o, r, e1, hS, hb, hR, hc⟩ := h4 k x hx
  have h0 := hc 0 (.int .i64 x) (by rw [show r = [.int .i64 x] from hR]; rfl)
  rw [Nat.mul_one, Nat.add_zero] at h0
  exact ⟨b, o, e1, hS, hb, h0⟩

theorem JobOk.setPos {S : Nat → Prop} {w : World} {B : Nat} {J : PJob} (h : JobOk S w B J) (z : Int) : JobOk S (w.setCell ⟨B, 9, none⟩ (.int .i64 z)) B { J with pos := z } ∧ Mod S w (w.setCell ⟨B, 9, none⟩ (.int .i64 z)) := by
  obtain ⟨cb, mb, s, r, tm, h1, h2, h3, h4, h5, h6, h7, h8, h9⟩ := h
  obtain ⟨a, m⟩ := jobSetPos h7 z
  exact ⟨⟨cb, mb, s, r, tm, h1, h2, h3, h4, h5, h6, a, (m.block cb (blk_lt h8) (fun e => h4 e.symm)).trans h8, h9.mod m (fun e => h5 e.symm)⟩, m.mono fun b hb => hb ▸ h1⟩

set_option maxRecDepth 100000 in
set_option maxHeartbeats 8000000 in
theorem jobStep (S SG : Nat → Prop) (B BG : Nat) (J : PJob) (G : PGraph) (w : World) (h : JobOk S w B J) (hi : JobInv J) (hg : GraphOk 106 SG w BG G) (hG : GInv G) (hsep : ∀ b, SG b → ¬ S b) :
    Calls Tryz.prog 14 #[.pointer (some ⟨B, 0, none⟩), .pointer (some ⟨BG, 0, none⟩)] w fun e w' => e = .returned (.bool (endedJ (stepJ G J) G.next)) ∧ JobOk S w' B (stepJ G J) ∧ Mod S w w' := by
  obtain ⟨cb, mb, s, r, tm, hS1, hS2, hS3, hn1, hn2, hn3, hB, hcb, hm⟩ := h
  have HI := Lib.hid hi; have HG := Lib.hid hg; have HGI := Lib.hid hG; have HSEP := Lib.hid hsep
  have HINV := Lib.hid (stepJ_inv hG hi)
  have HND := Lib.hid (show J.tch.Nodup from hi.2.2.2.2.1.imp (fun {a b} hab => by omega))
  have HTL := Lib.hid (show J.tch.length ≤ 4096 from hi.2.2.2.2.2.1)
  obtain ⟨hc1, hc2, -⟩ := hi
  have HB := Lib.hid hB; have HCB := Lib.hid hcb; have HM := Lib.hid hm
  obtain ⟨-, c8, c9, c10, c11⟩ := jobB_of hB
  have hbl := blk_lt hB
  clear hg hG hsep hB hcb hm
  go_enter Tryz.func14, Tryz.ntmps14
  go_wp2_with fail
  refine (mapsKeys mb w).mono ?_
  rintro e w1 ⟨rfl, rfl⟩
  go_wp2_with fail
  refine (slicesSorted mb 4096 _ w HM.out (by omega) (fun x hx => HI.out.2.2.2.2.2.2 x (by by_cases h : x ∈ J.tch; exact h; exact absurd (by simp [tchF, h]) hx))).mono ?_
  rintro e w1 ⟨v, L, rfl, hL, hids, g1⟩
  obtain rfl : L = J.tch := hL.uniq (p' := fun y => y ∈ J.tch) ⟨HI.out.2.2.2.2.1, fun y => Iff.rfl⟩ (fun y => by by_cases h : y ∈ J.tch <;> simp [tchF, h])
  clear hL
  have HB1 := Lib.hid ((g1.heapEq hbl).trans HB.out); have HCB1 := Lib.hid ((g1.heapEq (blk_lt HCB.out)).trans HCB.out); have HM1 := Lib.hid (HM.out.grow g1)
  have HG1 := Lib.hid g1
  obtain ⟨c, hcN⟩ : ∃ c : Nat, J.chunk = (c : Int) := ⟨J.chunk.toNat, by omega⟩
  have hcl : 1 ≤ c ∧ c ≤ 1024 := by omega
  obtain ⟨m, hmN⟩ : ∃ m : Nat, m = min c J.tch.length := ⟨_, rfl⟩
  have hmc : m ≤ c ∧ m ≤ J.tch.length ∧ (m < c → J.tch.length = m) := by omega
  have HSA := Lib.hid (show m = c → stepJ G J = { J with tch := J.tch.drop m } from fun h => by
    unfold stepJ
    simp only [hcN, Int.toNat_natCast]
    rw [← hmN, if_neg (by omega)])
  have HSB := Lib.hid (show m < c → c - m < (idsG G J.pos).length → ∀ x, (idsG G J.pos)[c - m - 1]? = some x → stepJ G J = { J with tch := J.tch.drop m, pos := x + 1 } from fun h hx x he => by
    unfold stepJ
    simp only [hcN, Int.toNat_natCast]
    rw [← hmN, if_pos h, if_pos hx, List.getD_eq_getElem?_getD, he]
    rfl)
  have HSC := Lib.hid (show m < c → (idsG G J.pos).length ≤ c - m → stepJ G J = { J with tch := J.tch.drop m, pos := G.next } from fun h hx => by
    unfold stepJ
    simp only [hcN, Int.toNat_natCast]
    rw [← hmN, if_pos h, if_neg (by omega)])
  obtain ⟨av, cv, rfl, hlv, hcv, hA⟩ := hids.at1
  unfold maxLen at hcv
  have HA := Lib.hid hA
  rw [hcN] at c8 hc1 hc2
  have HCN := Lib.hid hcN
  have HB1C := Lib.hid (show ∀ w', Grow w w' → w'.cell? ⟨B, 8, none⟩ = some (.int .i64 (c : Int)) ∧ w'.cell? ⟨B, 9, none⟩ = some (.int .i64 J.pos) ∧ w'.cell? ⟨B, 11, none⟩ = some (.map (some mb)) from fun w' g => ⟨(g.cell (p := ⟨B, 8, none⟩) hbl).trans c8, (g.cell (p := ⟨B, 9, none⟩) hbl).trans c9, (g.cell (p := ⟨B, 11, none⟩) hbl).trans c11⟩)
  clear hids g1 hA hcN c8 c9 c10 c11
  obtain ⟨d8, d9, d11⟩ := HB1C.out w1 HG1.out
  have hbl1 := blk_lt HB1.out
  go_upto_region 4 with fail
  go_cut [5] (fun v wx => v = .slice av m cv ∧ wx = w1)
  case first =>
    by_cases hlt : c < J.tch.length
    · obtain rfl : m = c := by omega
      clear hmN
      go_wp2_with fail
      go_meet
      exact ⟨by congr 1; omega, rfl⟩
    · obtain rfl : m = J.tch.length := by omega
      clear hmN
      go_wp2_with fail
      go_meet
      exact ⟨by congr 1; omega, rfl⟩
  case rest =>
    clear hmN
    obtain ⟨rfl, rfl⟩ := hcut
    obtain ⟨wq, rfl⟩ : ∃ wq, wq = wc := ⟨_, rfl⟩
    have hmb : mb < w.heap.size := HM.out.lt
    have HW1 := Lib.hid HG1.out.size
    have HAM := Lib.hid (show ∀ wr, Mod (fun b => b = mb) wq wr → ∀ k x, J.tch[k]? = some x → ∃ b o, av = some (⟨b, o, none⟩ : Addr) ∧ b < wr.heap.size ∧ wr.cell? ⟨b, o + k, none⟩ = some (.int .i64 x) from fun wr g k x hx => by
      obtain ⟨b, o, e1, hS, hb, h0⟩ := HA.out k x hx
      exact ⟨b, o, e1, Nat.lt_of_lt_of_le hb g.size, (World.cell?_of_block (a := ⟨b, o + k, none⟩) (g.block b hb (by show ¬ b = mb; omega))).trans h0⟩)
    clear HA
    go_wp2_with fail
    go_loopg [33] m (fun g iv wr => ∃ k : Nat, k ≤ m ∧ g = m - k ∧ iv = .int .i64 k ∧ MapI wr mb (tchF (J.tch.drop k)) 4096 ∧ Mod (fun b => b = mb) wq wr)
    case atStart => exact ⟨0, by omega, by omega, rfl, by simpa using HM1.out, Mod.rfl' _ _⟩
    case round =>
      obtain ⟨k, hk, rfl, rfl, hmr, hgr⟩ := hrel
      have HMR := Lib.hid hmr; have HGR := Lib.hid hgr
      have hBr := (hgr.block B hbl1 hn2).trans HB1.out
      have HBR := Lib.hid hBr
      obtain ⟨-, e8, e9, -, e11⟩ := jobB_of hBr
      rw [HCN.out] at e8
      clear hmr hBr
      by_cases hkl : k < m
      · have hkT : k < J.tch.length := by omega
        obtain ⟨ba, oa, rfl, hba, hx0⟩ := HAM.out wr hgr k J.tch[k] (List.getElem?_eq_getElem hkT)
        have HFD := Lib.hid (tchF_fdel HND.out hkT)
        clear hgr
        generalize J.tch[k] = x at *
        go_wp2_with (at_delete; go_must (refine wpList_dropI _ rfl (.tmp 40) (.tmp 41) 86 2 rfl 3 Tryz.underlying86 Tryz.underlying2 mb 4096 _ rfl HMR.out x rfl ?_))
        intro w5 h1 h2 h3
        have HM5 := Lib.hid (show MapI w5 mb (tchF (J.tch.drop (k + 1))) 4096 by rw [← HFD.out]; exact h1)
        have HG5 := Lib.hid (show Mod (fun b => b = mb) wq w5 from HGR.out.step h2)
        clear h1 h2 h3
        go_wp2_with fail
        go_roundg (m - (k + 1))
        case measure => omega
        case rel => exact ⟨k + 1, by omega, rfl, by go_num, HM5.out, HG5.out⟩
      · obtain rfl : k = m := by omega
        have HGK := Lib.hid (show GraphOk 106 SG wr BG G from (HG.out.grow HG1.out).keep hgr (fun b hb e => HSEP.out b hb (by show S b; have e2 : b = mb := e; rw [e2]; exact hS3)))
        have HMW := Lib.hid (show Mod S w wr from (Mod.of_grow HG1.out).step (hgr.mono (fun b hb => by have e2 : b = mb := hb; rw [e2]; exact hS3)))
        have HCBR := Lib.hid ((hgr.block cb (blk_lt HCB1.out) hn3).trans HCB1.out)
        have HJR := Lib.hid (show JobOk S wr B { J with tch := J.tch.drop k } from ⟨cb, mb, s, r, tm, hS1, hS2, hS3, hn1, hn2, hn3, HBR.out, HCBR.out, HMR.out⟩)
        have hblr := blk_lt HBR.out
        clear hgr HAM
        obtain ⟨wR, hwR⟩ : ∃ wR : World, wR = wr := ⟨_, rfl⟩
        subst hwR
        by_cases hlt : k < c
        · obtain ⟨q, rfl⟩ : ∃ q : Nat, c = k + q := ⟨c - k, by omega⟩
          have hq : 0 < q ∧ q ≤ 1024 := by omega
          go_wp2_with fail
          refine (buildIds (.pointer (some ⟨BG, 0, none⟩)) G J.pos wR (gAt_of HGK.out.rd HGI.out) (by have := HGI.out.items; omega)).mono ?_
          rintro e w5 ⟨v5, rfl, hl5, g5⟩
          obtain ⟨al, cl, rfl, hll, hlc, hAL⟩ := hl5.at1
          unfold maxLen at hlc
          have HAL := Lib.hid hAL; have HLB := Lib.hid (show ∀ x ∈ idsG G J.pos, 1 ≤ x ∧ x < G.next from fun x hx => idsG_bounds HGI.out hx)
          have HLL := Lib.hid (show (idsG G J.pos).length ≤ 1024 by have := idsG_len G J.pos; have := HGI.out.items; omega)
          have HLR := Lib.hid (show w.heap.size ≤ wR.heap.size from HMW.out.size)
          have HB5 := Lib.hid ((g5.heapEq hblr).trans HBR.out)
          have HJ5 := Lib.hid (HJR.out.grow g5); have HG5 := Lib.hid (HGK.out.grow g5); have HMW5 := Lib.hid (HMW.out.step (Mod.of_grow g5))
          have HNX := Lib.hid HGI.out.next1
          clear hl5 g5 hAL HJR HGK HMW e8 e9 e11
          generalize idsG G J.pos = l at *
          obtain ⟨-, e8, e9, -, e11⟩ := jobB_of HB5.out
          rw [HCN.out] at e8
          by_cases hlen : q < l.length
          · have hlx : l[q - 1]? = some l[q - 1] := List.getElem?_eq_getElem (by omega)
            obtain ⟨bl, ol, rfl, hSl, hbl5, hcx⟩ := HAL.out (q - 1) _ hlx
            have HX := Lib.hid (HLB.out _ (List.getElem_mem (show q - 1 < l.length by omega)))
            have HSE := Lib.hid (HSB.out (by omega) (by omega) l[q - 1] (by rw [show k + q - k - 1 = q - 1 by omega]; exact hlx))
            generalize l[q - 1] = x at *
            have hx1 : 1 ≤ x ∧ x + 1 ≤ 4611686018427387904 := by have := HX.out; have := HNX.out; omega
            have f9 := jobFroz HB5.out 9
            have hq1 : (0 : Int) < (q : Int) := by omega
            have hq2 : (q : Int) < (l.length : Int) := by omega
            clear hlx
            have HJ5 := HJ5
            obtain ⟨w6, hw6⟩ : ∃ w6, w5.setCell ⟨B, 9, none⟩ (.int .i64 (x + 1)) = w6 := ⟨_, rfl⟩
            have HS6 := Lib.hid (HJ5.out.setPos (x + 1))
            rw [hw6] at HS6
            go_wp2_with fail
            try rw [hw6]
            clear hw6
            have HJ6 := Lib.hid (show JobOk S w6 B (stepJ G J) by rw [HSE.out]; exact HS6.out.1)
            have HG6 := Lib.hid (HG5.out.keep HS6.out.2 HSEP.out)
            have HM6 := Lib.hid (HMW5.out.step HS6.out.2)
            refine (jobEnded S SG B BG (stepJ G J) G w6 HJ6.out HINV.out HG6.out).mono ?_
            rintro e w7 ⟨rfl, g7⟩
            have HJ7 := Lib.hid (HJ6.out.grow g7); have HM7 := Lib.hid (HM6.out.step (Mod.of_grow g7))
            clear g7
            go_wp2
            go_ret
            exact ⟨rfl, HJ7.out, HM7.out⟩
          · have HSE := Lib.hid (HSC.out (by omega) (by omega))
            have f9 := jobFroz HB5.out 9
            have hq1 : (0 : Int) < (q : Int) := by omega
            have hq2 : (l.length : Int) ≤ (q : Int) := by omega
            go_wp2_with fail
            refine (graphNext SG BG G w5 HG5.out).mono ?_
            rintro e w5' ⟨rfl, rfl⟩
            obtain ⟨w6, hw6⟩ : ∃ w6, w5.setCell ⟨B, 9, none⟩ (.int .i64 (G.next)) = w6 := ⟨_, rfl⟩
            have HS6 := Lib.hid (HJ5.out.setPos (G.next))
            rw [hw6] at HS6
            go_wp2_with fail
            try rw [hw6]
            clear hw6
            have HJ6 := Lib.hid (show JobOk S w6 B (stepJ G J) by rw [HSE.out]; exact HS6.out.1)
            have HG6 := Lib.hid (HG5.out.keep HS6.out.2 HSEP.out)
            have HM6 := Lib.hid (HMW5.out.step HS6.out.2)
            refine (jobEnded S SG B BG (stepJ G J) G w6 HJ6.out HINV.out HG6.out).mono ?_
            rintro e w7 ⟨rfl, g7⟩
            have HJ7 := Lib.hid (HJ6.out.grow g7); have HM7 := Lib.hid (HM6.out.step (Mod.of_grow g7))
            clear g7
            go_wp2
            go_ret
            exact ⟨rfl, HJ7.out, HM7.out⟩
        · obtain rfl : k = c := by omega
          have HSE := Lib.hid (HSA.out rfl)
          have HJ6 := Lib.hid (show JobOk S wR B (stepJ G J) by rw [HSE.out]; exact HJR.out)
          go_wp2_with fail
          refine (jobEnded S SG B BG (stepJ G J) G wR HJ6.out HINV.out HGK.out).mono ?_
          rintro e w7 ⟨rfl, g7⟩
          have HJ7 := Lib.hid (HJ6.out.grow g7); have HM7 := Lib.hid (HMW.out.step (Mod.of_grow g7))
          clear g7
          go_wp2
          go_ret
          exact ⟨rfl, HJ7.out, HM7.out⟩
end Go.Hg

namespace Go.Hg
open Go.RowKit Go.Proofs

def MZ (f : Int) (N : List PNode) (E : List PEdge) (i k : Nat) (X L : List Int) : Prop := X ++ (mergeZ ((N.map (·.id)).drop i) ((E.map (·.id)).drop k)).filter (fun x => decide (f ≤ x)) = L
theorem step_node {f : Int} {N : List PNode} {E : List PEdge} {i k : Nat} {X L : List Int} (h : MZ f N E i k X L) (hi : i < N.length) (hk : k = E.length ∨ ∃ hk : k < E.length, N[i].id < E[k].id) :
    (f ≤ N[i].id → MZ f N E (i + 1) k (X ++ [N[i].id]) L) ∧ (¬ f ≤ N[i].id → MZ f N E (i + 1) k X L) := by
  unfold MZ at *
  have hi2 : i < (N.map (·.id)).length := by simpa using hi
  have e := mergeZ_node (N := N.map (·.id)) (E := E.map (·.id)) (k := k) hi2 (by
    rcases hk with rfl | ⟨hk, h⟩
    · exact .inl (by simp)
    · exact .inr ⟨by simpa using hk, by simpa using h⟩)
  rw [e, List.getElem_map] at h
  refine ⟨fun hf => ?_, fun hf => ?_⟩
  · rw [List.filter_cons_of_pos (by simpa using hf)] at h
    rw [← h]; simp
  · rw [List.filter_cons_of_neg (by simpa using hf)] at h
    exact h
theorem step_edge {f : Int} {N : List PNode} {E : List PEdge} {i k : Nat} {X L : List Int} (h : MZ f N E i k X L) (hk : k < E.length) (hi : N.length ≤ i ∨ ∃ hi : i < N.length, ¬ N[i].id < E[k].id) :
    (f ≤ E[k].id → MZ f N E i (k + 1) (X ++ [E[k].id]) L) ∧ (¬ f ≤ E[k].id → MZ f N E i (k + 1) X L) := by
  unfold MZ at *
  have hk2 : k < (E.map (·.id)).length := by simpa using hk
  have e := mergeZ_edge (N := N.map (·.id)) (E := E.map (·.id)) (i := i) hk2 (by
    rcases hi with hi | ⟨hi, h⟩
    · exact .inl (by simpa using hi)
    · exact .inr ⟨by simpa using hi, by simpa using h⟩)
  rw [e, List.getElem_map] at h
  refine ⟨fun hf => ?_, fun hf => ?_⟩
  · rw [List.filter_cons_of_pos (by simpa using hf)] at h
    rw [← h]; simp
  · rw [List.filter_cons_of_neg (by simpa using hf)] at h
    exact h
theorem mz_len {f : Int} {N : List PNode} {E : List PEdge} {i k : Nat} {X L : List Int} (h : MZ f N E i k X L) : X.length ≤ L.length := by
  unfold MZ at h
  rw [← h]; simp
theorem mz_end {f : Int} {N : List PNode} {E : List PEdge} {X L : List Int} (h : MZ f N E N.length E.length X L) : X = L := by
  unfold MZ at h
  rw [List.drop_eq_nil_of_le (by simp), List.drop_eq_nil_of_le (by simp), mergeZ_nilL] at h
  simpa using h

set_option maxRecDepth 100000 in
set_option maxHeartbeats 8000000 in
theorem ref23Ids (SG : Nat → Prop) (BG : Nat) (G : PGraph) (f : Int) (w : World) (hg : GraphOk 42 SG w BG G) (hG : GInv G) :
    Calls Tryz.prog 52 #[.pointer (some ⟨BG, 0, none⟩), .int .i64 f] w fun e w' => ∃ v, e = .returned v ∧ IdsR (fun b => w.heap.size ≤ b) w' v (idsG G f) ∧ Grow w w' := by
  obtain ⟨na, nc, ea, ec, hB, c0, c1, c2, hn, he⟩ := hg.read
  obtain ⟨_, _, hv, hal, hac, hAN⟩ := SlR.open hn
  simp only [Value.slice.injEq, true_and] at hv
  obtain ⟨rfl, rfl⟩ := hv
  obtain ⟨_, _, hv, hel, hec, hAE⟩ := SlR.open he
  simp only [Value.slice.injEq, true_and] at hv
  obtain ⟨rfl, rfl⟩ := hv
  unfold maxLen at hac hec
  have HAN := Lib.hid hAN; have HAE := Lib.hid hAE
  have HIDL := Lib.hid (idsG_len G f)
  have HMZ := Lib.hid (show MZ f G.nodes G.edges 0 0 [] (idsG G f) by unfold MZ; rw [← idsG_merge hG f]; simp)
  have hit : G.nodes.length ≤ 1024 ∧ G.edges.length ≤ 1024 := by have := hG.items; omega
  clear hg hG hn he hAN hAE c2
  obtain ⟨L, hL⟩ : ∃ L, idsG G f = L := ⟨_, rfl⟩
  rw [hL] at HMZ HIDL
  rw [hL]
  clear hL
  generalize G.nodes = N at *
  generalize G.edges = E at *
  obtain ⟨hN1, hE1⟩ := hit
  have HLL := Lib.hid (show L.length ≤ 4096 by have := HIDL.out; omega)
  clear HIDL
  go_enter Tryz.func52, Tryz.ntmps52
  go_wp2
  go_loopg [5, 6, 7] (N.length + E.length) (fun g lv iv kv wr => ∃ (i k : Nat) (X : List Int), i ≤ N.length ∧ k ≤ E.length ∧ g = N.length + E.length - (i + k) ∧ iv = .int .i64 i ∧ kv = .int .i64 k ∧ IdsP (fun b => w.heap.size ≤ b) wr lv X ∧ MZ f N E i k X L ∧ Grow w wr)
  case atStart => exact ⟨0, 0, [], by omega, by omega, by omega, rfl, rfl, IdsP.nil _ _, HMZ.out, Grow.rfl' _⟩
  case round =>
    obtain ⟨i, k, X, hi, hk, rfl, rfl, rfl, hown, hrl, hgr⟩ := hrel
    have HOWN := Lib.hid hown; have HGR := Lib.hid hgr; have HREL := Lib.hid hrl
    have HXL := Lib.hid (show X.length ≤ 4096 from Nat.le_trans (mz_len hrl) HLL.out)
    obtain ⟨oo, co, rfl, hoc, hom⟩ := hown.isSlice
    have hB2 : BG < wr.heap.size := Nat.lt_of_lt_of_le hB hgr.size
    have d0 := (hgr.cell (p := ⟨BG, 0, none⟩) hB).trans c0
    have d1 := (hgr.cell (p := ⟨BG, 1, none⟩) hB).trans c1
    have HD0 := Lib.hid (show ∀ w', Grow wr w' → w'.cell? ⟨BG, 0, none⟩ = some (.slice na N.length nc) ∧ w'.cell? ⟨BG, 1, none⟩ = some (.slice ea E.length ec) from fun w' g => ⟨(g.cell (p := ⟨BG, 0, none⟩) hB2).trans d0, (g.cell (p := ⟨BG, 1, none⟩) hB2).trans d1⟩)
    clear hown hrl hoc hom HMZ
    by_cases hiN : i < N.length
    · by_cases hkE : k < E.length
      · by_cases hlt : N[i].id < E[k].id
        · have HSTEP := Lib.hid (step_node HREL.out hiN (.inr ⟨hkE, hlt⟩))
          obtain ⟨bn, on, rn, rfl, -, hbn, hRn, hcn⟩ := HAN.out i N[i] (List.getElem?_eq_getElem hiN)
          obtain ⟨_, hbn2, n0, -, -, -⟩ := hRn.at hbn hgr hcn
          clear hcn hRn hbn
          obtain ⟨be, oe, re, rfl, -, hbe, hRe, hce⟩ := HAE.out k E[k] (List.getElem?_eq_getElem hkE)
          obtain ⟨_, hbe2, q0, -, -, -, -, -⟩ := hRe.at hbe hgr hce
          clear hce hRe hbe
          generalize N[i].id = x at *
          generalize E[k].id = y at *
          have hlb : decide (x < y) = true := by simpa using hlt
          have hke : ((k : Int) == (E.length : Int)) = false := by simp; omega
          have hke2 : (k == E.length) = false := by simp; omega
          clear hlt
          clear hgr
          go_wp2_with fail
          refine wp_region_grow (by kernel_rfl) (by kernel_rfl) ?_
          repeat (go_big_quiet_step (fail))
          refine wpQuiet_nil ?_
          intro w2 hw2
          have HQ2 := Lib.hid hw2
          have HG2 := Lib.hid (HGR.out.step hw2)
          have hqs := hw2.size
          have r0 := (HQ2.out.cell (p := ⟨bn, on + i * 3, none⟩) hbn2).trans n0
          obtain ⟨d0, d1⟩ := HD0.out w2 hw2
          clear hw2
          by_cases hf : f ≤ x
          · have hfb : decide (f ≤ x) = true := by simpa using hf
            have HEQ := Lib.hid (HSTEP.out.1 (by omega))
            clear hf
            have HWA := Lib.hid (show ∀ o1, Grow w2 (w2.alloc o1) from fun o1 => (Grow.rfl' w2).allocd o1)
            have HSZ := Lib.hid HG2.out.size
            go_wp2_with (at_builtin; go_must (refine wpList_append_P rfl (.tmp 83) (.tmp 85) 25 rfl Tryz.underlying25 (fun b => w.heap.size ≤ b) _ X rfl ((HOWN.out.grow HQ2.out).grow (HWA.out _)) x w2.heap.size rfl (rd1 _ _ _ rfl) (by have := HSZ.out; simp; omega) (by have := HXL.out; omega) ?_))
            intro v' w5 h1 h2 h3
            have H5 := Lib.hid h1
            have HG5 := Lib.hid (show Grow w w5 from (HG2.out.step (HWA.out _)).modd h2 (fun _ h => h))
            clear h1 h2 h3
            go_wp2_with fail
            go_roundg (N.length + E.length - (i + k + 1))
            case measure => omega
            case rel => exact ⟨i + 1, k, X ++ [x], by omega, by omega, by omega, by go_num, by go_num, H5.out, HEQ.out, HG5.out⟩
          · have hfb : decide (f ≤ x) = false := by simpa using hf
            have HEQ := Lib.hid (HSTEP.out.2 (by omega))
            clear hf
            go_wp2_with fail
            go_roundg (N.length + E.length - (i + k + 1))
            case measure => omega
            case rel => exact ⟨i + 1, k, X, by omega, by omega, by omega, by go_num, by go_num, HOWN.out.grow HQ2.out, HEQ.out, HG2.out⟩
        · have HSTEP := Lib.hid (step_edge HREL.out hkE (.inr ⟨hiN, hlt⟩))
          obtain ⟨bn, on, rn, rfl, -, hbn, hRn, hcn⟩ := HAN.out i N[i] (List.getElem?_eq_getElem hiN)
          obtain ⟨_, hbn2, n0, -, -, -⟩ := hRn.at hbn hgr hcn
          clear hcn hRn hbn
          obtain ⟨be, oe, re, rfl, -, hbe, hRe, hce⟩ := HAE.out k E[k] (List.getElem?_eq_getElem hkE)
          obtain ⟨_, hbe2, q0, -, -, -, -, -⟩ := hRe.at hbe hgr hce
          clear hce hRe hbe
          generalize N[i].id = x at *
          generalize E[k].id = y at *
          have hlb : decide (x < y) = false := by simpa using hlt
          have hke : ((k : Int) == (E.length : Int)) = false := by simp; omega
          have hke2 : (k == E.length) = false := by simp; omega
          clear hlt
          clear hgr
          go_wp2_with fail
          refine wp_region_grow (by kernel_rfl) (by kernel_rfl) ?_
          repeat (go_big_quiet_step (fail))
          refine wpQuiet_nil ?_
          intro w2 hw2
          have HQ2 := Lib.hid hw2
          have HG2 := Lib.hid (HGR.out.step hw2)
          have hqs := hw2.size
          have r0 := (HQ2.out.cell (p := ⟨be, oe + k * 5, none⟩) hbe2).trans q0
          obtain ⟨d0, d1⟩ := HD0.out w2 hw2
          clear hw2
          by_cases hf : f ≤ y
          · have hfb : decide (f ≤ y) = true := by simpa using hf
            have HEQ := Lib.hid (HSTEP.out.1 (by omega))
            clear hf
            have HWA := Lib.hid (show ∀ o1, Grow w2 (w2.alloc o1) from fun o1 => (Grow.rfl' w2).allocd o1)
            have HSZ := Lib.hid HG2.out.size
            go_wp2_with (at_builtin; go_must (refine wpList_append_P rfl (.tmp 83) (.tmp 85) 25 rfl Tryz.underlying25 (fun b => w.heap.size ≤ b) _ X rfl ((HOWN.out.grow HQ2.out).grow (HWA.out _)) y w2.heap.size rfl (rd1 _ _ _ rfl) (by have := HSZ.out; simp; omega) (by have := HXL.out; omega) ?_))
            intro v' w5 h1 h2 h3
            have H5 := Lib.hid h1
            have HG5 := Lib.hid (show Grow w w5 from (HG2.out.step (HWA.out _)).modd h2 (fun _ h => h))
            clear h1 h2 h3
            go_wp2_with fail
            go_roundg (N.length + E.length - (i + k + 1))
            case measure => omega
            case rel => exact ⟨i, k + 1, X ++ [y], by omega, by omega, by omega, by go_num, by go_num, H5.out, HEQ.out, HG5.out⟩
          · have hfb : decide (f ≤ y) = false := by simpa using hf
            have HEQ := Lib.hid (HSTEP.out.2 (by omega))
            clear hf
            go_wp2_with fail
            go_roundg (N.length + E.length - (i + k + 1))
            case measure => omega
            case rel => exact ⟨i, k + 1, X, by omega, by omega, by omega, by go_num, by go_num, HOWN.out.grow HQ2.out, HEQ.out, HG2.out⟩
      · obtain rfl : k = E.length := by omega
        have HSTEP := Lib.hid (step_node HREL.out hiN (.inl rfl))
        obtain ⟨bn, on, rn, rfl, -, hbn, hRn, hcn⟩ := HAN.out i N[i] (List.getElem?_eq_getElem hiN)
        obtain ⟨_, hbn2, n0, -, -, -⟩ := hRn.at hbn hgr hcn
        clear hcn hRn hbn
        generalize N[i].id = x at *
        have hkE2 : (E.length == E.length) = true := by simp
        have hkE3 : ((E.length : Int) == (E.length : Int)) = true := by simp
        clear hgr
        go_wp2_with fail
        refine wp_region_grow (by kernel_rfl) (by kernel_rfl) ?_
        repeat (go_big_quiet_step (fail))
        refine wpQuiet_nil ?_
        intro w2 hw2
        have HQ2 := Lib.hid hw2
        have HG2 := Lib.hid (HGR.out.step hw2)
        have hqs := hw2.size
        have r0 := (HQ2.out.cell (p := ⟨bn, on + i * 3, none⟩) hbn2).trans n0
        obtain ⟨d0, d1⟩ := HD0.out w2 hw2
        clear hw2
        by_cases hf : f ≤ x
        · have hfb : decide (f ≤ x) = true := by simpa using hf
          have HEQ := Lib.hid (HSTEP.out.1 (by omega))
          clear hf
          have HWA := Lib.hid (show ∀ o1, Grow w2 (w2.alloc o1) from fun o1 => (Grow.rfl' w2).allocd o1)
          have HSZ := Lib.hid HG2.out.size
          go_wp2_with (at_builtin; go_must (refine wpList_append_P rfl (.tmp 83) (.tmp 85) 25 rfl Tryz.underlying25 (fun b => w.heap.size ≤ b) _ X rfl ((HOWN.out.grow HQ2.out).grow (HWA.out _)) x w2.heap.size rfl (rd1 _ _ _ rfl) (by have := HSZ.out; simp; omega) (by have := HXL.out; omega) ?_))
          intro v' w5 h1 h2 h3
          have H5 := Lib.hid h1
          have HG5 := Lib.hid (show Grow w w5 from (HG2.out.step (HWA.out _)).modd h2 (fun _ h => h))
          clear h1 h2 h3
          go_wp2_with fail
          go_roundg (N.length + E.length - (i + E.length + 1))
          case measure => omega
          case rel => exact ⟨i + 1, E.length, X ++ [x], by omega, by omega, by omega, by go_num, by go_num, H5.out, HEQ.out, HG5.out⟩
        · have hfb : decide (f ≤ x) = false := by simpa using hf
          have HEQ := Lib.hid (HSTEP.out.2 (by omega))
          clear hf
          go_wp2_with fail
          go_roundg (N.length + E.length - (i + E.length + 1))
          case measure => omega
          case rel => exact ⟨i + 1, E.length, X, by omega, by omega, by omega, by go_num, by go_num, HOWN.out.grow HQ2.out, HEQ.out, HG2.out⟩
    · obtain rfl : i = N.length := by omega
      by_cases hkE : k < E.length
      · have HSTEP := Lib.hid (step_edge HREL.out hkE (.inl (Nat.le_refl _)))
        obtain ⟨be, oe, re, rfl, -, hbe, hRe, hce⟩ := HAE.out k E[k] (List.getElem?_eq_getElem hkE)
        obtain ⟨_, hbe2, q0, -, -, -, -, -⟩ := hRe.at hbe hgr hce
        clear hce hRe hbe
        generalize E[k].id = y at *
        have hke : ((k : Int) == (E.length : Int)) = false := by simp; omega
        have hke2 : (k == E.length) = false := by simp; omega
        clear hgr
        go_wp2_with fail
        refine wp_region_grow (by kernel_rfl) (by kernel_rfl) ?_
        repeat (go_big_quiet_step (fail))
        refine wpQuiet_nil ?_
        intro w2 hw2
        have HQ2 := Lib.hid hw2
        have HG2 := Lib.hid (HGR.out.step hw2)
        have hqs := hw2.size
        have r0 := (HQ2.out.cell (p := ⟨be, oe + k * 5, none⟩) hbe2).trans q0
        obtain ⟨d0, d1⟩ := HD0.out w2 hw2
        clear hw2
        by_cases hf : f ≤ y
        · have hfb : decide (f ≤ y) = true := by simpa using hf
          have HEQ := Lib.hid (HSTEP.out.1 (by omega))
          clear hf
          have HWA := Lib.hid (show ∀ o1, Grow w2 (w2.alloc o1) from fun o1 => (Grow.rfl' w2).allocd o1)
          have HSZ := Lib.hid HG2.out.size
          go_wp2_with (at_builtin; go_must (refine wpList_append_P rfl (.tmp 83) (.tmp 85) 25 rfl Tryz.underlying25 (fun b => w.heap.size ≤ b) _ X rfl ((HOWN.out.grow HQ2.out).grow (HWA.out _)) y w2.heap.size rfl (rd1 _ _ _ rfl) (by have := HSZ.out; simp; omega) (by have := HXL.out; omega) ?_))
          intro v' w5 h1 h2 h3
          have H5 := Lib.hid h1
          have HG5 := Lib.hid (show Grow w w5 from (HG2.out.step (HWA.out _)).modd h2 (fun _ h => h))
          clear h1 h2 h3
          go_wp2_with fail
          go_roundg (N.length + E.length - (N.length + k + 1))
          case measure => omega
          case rel => exact ⟨N.length, k + 1, X ++ [y], by omega, by omega, by omega, by go_num, by go_num, H5.out, HEQ.out, HG5.out⟩
        · have hfb : decide (f ≤ y) = false := by simpa using hf
          have HEQ := Lib.hid (HSTEP.out.2 (by omega))
          clear hf
          go_wp2_with fail
          go_roundg (N.length + E.length - (N.length + k + 1))
          case measure => omega
          case rel => exact ⟨N.length, k + 1, X, by omega, by omega, by omega, by go_num, by go_num, HOWN.out.grow HQ2.out, HEQ.out, HG2.out⟩
      · obtain rfl : k = E.length := by omega
        have HXE := Lib.hid (mz_end HREL.out)
        clear hgr
        go_wp2
        go_ret
        exact ⟨_, rfl, by rw [← HXE.out]; obtain ⟨ob, h1, h2⟩ := HOWN.out; exact h1.toR h2, HGR.out⟩
end Go.Hg

namespace Go.Hg
open Go.RowKit Go.Proofs MapKept Go.Maps

theorem valR_eq (r : PRule) (x : PNode) : valR r x = if ((getP x.props r.name).isSome && decide (x.typ = r.typ)) = true then some (getV x.props r.name) else none := by
  unfold valR getV
  by_cases h : x.typ = r.typ
  · cases hp : getP x.props r.name <;> simp [h]
  · simp [h]

end Go.Hg

namespace Go.Hg
open Go.RowKit Go.Proofs

def BrokPost (N : List PNode) (E : List PEdge) (r : PRule) (w : World) (e : Ending) (w' : World) : Prop := ∃ v L, e = .returned v ∧ BrokenR N E r L ∧ IdsR (fun b => w.heap.size ≤ b) w' v L ∧ Grow w w'
theorem BrokPost.of {N : List PNode} {E : List PEdge} {r : PRule} {w w1 w' : World} {v : Value} {L : List Int} (hb : BrokenR N E r L) (h : IdsR (fun b => w1.heap.size ≤ b) w' v L) (g : Grow w w1) (g' : Grow w1 w') : BrokPost N E r w (.returned v) w' :=
  ⟨v, L, rfl, hb, SlR.sub h (fun _ hb => Nat.le_trans g.size hb) (fun _ _ _ h => h), g.step g'⟩
theorem IdsPost.toR {l : List Int} {w w' : World} {e : Ending} (h : IdsPost l w e w') : ∃ v, e = .returned v ∧ IdsR (fun b => w.heap.size ≤ b) w' v l ∧ Grow w w' := by
  obtain ⟨v, h0, h1, h2⟩ := h.open
  exact ⟨v, h0, h1.toR, h2⟩

theorem ruleBoxNew (w : World) (r : PRule) (w' : World) (g : Grow (w.alloc (.cells #[.int .i64 r.id, .int .i64 r.kind, .string r.typ, .string r.name, .string r.from_, .string r.to_, .int .i64 r.n, .int .i64 r.state] 23 (0, 0))) w') : RuleBox w' w.heap.size r := by
  unfold RuleBox
  rw [g.heapEq (by simp)]
  exact heap_alloc_new w _

end Go.Hg

namespace Go.Hg

structure PSpot where
  kind : Int
  typ : ByteArray
  name : ByteArray
deriving DecidableEq

end Go.Hg

namespace Go.Hg
open Go.RowKit Go.Proofs

noncomputable def goodNs (next : Int) : Int → List PNode → Bool
  | _, [] => true
  | last, x :: t => !decide (x.id ≤ last) && (!decide (next ≤ x.id) && (decide (NameOk x.typ) && (propsB x.props && goodNs next x.id t)))
noncomputable def goodEs (G : PGraph) : Int → List PEdge → Bool
  | _, [] => true
  | last, x :: t => !decide (x.id ≤ last) && (!decide (G.next ≤ x.id) && (!hasN G x.id && (hasN G x.from_ && (hasN G x.to_ && (decide (NameOk x.typ) && (propsB x.props && goodEs G x.id t))))))
def sizeOkG (G : PGraph) : Bool := !decide (G.next < 1) && (!decide (4611686018427387904 < G.next) && !decide (1024 < G.nodes.length + G.edges.length))
noncomputable def goodG (G : PGraph) : Bool := sizeOkG G && (goodNs G.next 0 G.nodes && goodEs G 0 G.edges)

theorem goodNs_all {next : Int} : ∀ {l : List PNode} {last : Int}, goodNs next last l = true → (l.map (·.id)).Pairwise (· < ·) ∧ ∀ x ∈ l, last < x.id ∧ x.id < next ∧ NameOk x.typ ∧ PropsOk x.props
  | [], _, _ => ⟨by simp, by simp⟩
  | x :: t, last, h => by
    unfold goodNs at h
    simp only [Bool.and_eq_true, Bool.not_eq_true', decide_eq_false_iff_not, decide_eq_true_eq, propsB_iff] at h
    obtain ⟨h1, h2, h3, h4, h5⟩ := h
    obtain ⟨ih1, ih2⟩ := goodNs_all h5
    refine ⟨?_, ?_⟩
    · rw [List.map_cons, List.pairwise_cons]
      exact ⟨fun y hy => by obtain ⟨z, hz, rfl⟩ := List.mem_map.1 hy; exact (ih2 z hz).1, ih1⟩
    · intro y hy
      rcases List.mem_cons.1 hy with rfl | hy
      · exact ⟨by omega, by omega, h3, h4⟩
      · have := ih2 y hy
        exact ⟨by omega, this.2⟩
theorem goodEs_all {G : PGraph} : ∀ {l : List PEdge} {last : Int}, goodEs G last l = true → (l.map (·.id)).Pairwise (· < ·) ∧ ∀ x ∈ l, last < x.id ∧ x.id < G.next ∧ hasN G x.id = false ∧ hasN G x.from_ = true ∧ hasN G x.to_ = true ∧ NameOk x.typ ∧ PropsOk x.props
  | [], _, _ => ⟨by simp, by simp⟩
  | x :: t, last, h => by
    unfold goodEs at h
    simp only [Bool.and_eq_true, Bool.not_eq_true', decide_eq_false_iff_not, decide_eq_true_eq, propsB_iff] at h
    obtain ⟨h1, h2, h3, h4, h5, h6, h7, h8⟩ := h
    obtain ⟨ih1, ih2⟩ := goodEs_all h8
    refine ⟨?_, ?_⟩
    · rw [List.map_cons, List.pairwise_cons]
      exact ⟨fun y hy => by obtain ⟨z, hz, rfl⟩ := List.mem_map.1 hy; exact (ih2 z hz).1, ih1⟩
    · intro y hy
      rcases List.mem_cons.1 hy with rfl | hy
      · exact ⟨by omega, by omega, h3, h4, h5, h6, h7⟩
      · have := ih2 y hy
        exact ⟨by omega, this.2⟩
theorem goodG_inv {G : PGraph} (h : goodG G = true) : GInv G := by
  unfold goodG sizeOkG at h
  simp only [Bool.and_eq_true, Bool.not_eq_true', decide_eq_false_iff_not] at h
  obtain ⟨⟨h1, h2, h3⟩, h4, h5⟩ := h
  obtain ⟨n1, n2⟩ := goodNs_all h4
  obtain ⟨e1, e2⟩ := goodEs_all h5
  refine ⟨by omega, by omega, by omega, n1, e1, fun x hx => ?_, fun x hx => ?_⟩
  · have := n2 x hx
    exact ⟨by omega, this.2.1, this.2.2.2.1⟩
  · have := e2 x hx
    exact ⟨by omega, this.2.1, this.2.2.2.2.2.2.1⟩

end Go.Hg

namespace Go.Hg

theorem bytesLess_trans : ∀ {a b c : List UInt8}, Op.bytesLess a b = true → Op.bytesLess b c = true → Op.bytesLess a c = true
  | [], b, c, h1, h2 => by
    cases c with
    | nil => cases b <;> simp [Op.bytesLess] at h1 h2
    | cons => rfl
  | x :: a, [], c, h1, _ => by simp [Op.bytesLess] at h1
  | x :: a, y :: b, [], _, h2 => by simp [Op.bytesLess] at h2
  | x :: a, y :: b, z :: c, h1, h2 => by
    have ih := @bytesLess_trans a b c
    simp only [Op.bytesLess, Bool.or_eq_true, Bool.and_eq_true, decide_eq_true_eq, beq_iff_eq] at h1 h2 ⊢
    rcases h1 with h1 | ⟨rfl, h1⟩
    · rcases h2 with h2 | ⟨rfl, h2⟩
      · left; rw [UInt8.lt_iff_toNat_lt] at *; omega
      · exact .inl h1
    · rcases h2 with h2 | ⟨rfl, h2⟩
      · exact .inl h2
      · exact .inr ⟨rfl, ih h1 h2⟩
theorem ltS_trans {a b c : ByteArray} (h1 : ltS a b = true) (h2 : ltS b c = true) : ltS a c = true := bytesLess_trans h1 h2

def PropsP (l : List PProp) : Prop := (∀ p ∈ l, NameOk p.name ∧ GoodV p.v) ∧ l.Pairwise (fun p q => ltS p.name q.name = true)
theorem pw_adj {l : List PProp} (h : ∀ i p q, l[i]? = some p → l[i + 1]? = some q → ltS p.name q.name = true) : l.Pairwise (fun p q => ltS p.name q.name = true) := by
  rw [List.pairwise_iff_getElem]
  intro i j hi hj hij
  have key : ∀ d, (hd : i + d + 1 < l.length) → ltS l[i].name (l[i + d + 1]).name = true := by
    intro d
    induction d with
    | zero => intro hd; exact h i _ _ (List.getElem?_eq_getElem (by omega)) (List.getElem?_eq_getElem hd)
    | succ d ih =>
      intro hd
      exact ltS_trans (ih (by omega)) (h (i + d + 1) _ _ (List.getElem?_eq_getElem (by omega)) (List.getElem?_eq_getElem hd))
  have := key (j - i - 1) (by omega)
  simpa [show i + (j - i - 1) + 1 = j by omega] using this
theorem propsOk_iff {l : List PProp} : PropsOk l ↔ l.length ≤ 8 ∧ PropsP l := by
  constructor
  · rintro ⟨h8, h⟩
    refine ⟨h8, fun p hp => ?_, pw_adj fun i p q hp hq => ?_⟩
    · obtain ⟨i, hi⟩ := List.getElem?_of_mem hp
      have := h i (List.getElem?_eq_some_iff.1 hi).1 p hi
      exact ⟨this.1, this.2.1⟩
    · exact (h (i + 1) (List.getElem?_eq_some_iff.1 hq).1 q hq).2.2 (by omega) p hp
  · rintro ⟨h8, h1, h2⟩
    refine ⟨h8, fun i hi p hp => ⟨(h1 p (List.mem_of_getElem? hp)).1, (h1 p (List.mem_of_getElem? hp)).2, fun h0 q hq => ?_⟩⟩
    rw [List.pairwise_iff_getElem] at h2
    obtain ⟨a, rfl⟩ := List.getElem?_eq_some_iff.1 hp
    obtain ⟨b, rfl⟩ := List.getElem?_eq_some_iff.1 hq
    exact h2 (i - 1) i b a (by omega)
theorem PropsP.fil {l : List PProp} (h : PropsP l) (name : ByteArray) : PropsP (fil l name) :=
  ⟨fun p hp => h.1 p (List.mem_filter.1 hp).1, h.2.sublist List.filter_sublist⟩
theorem fil_ne {l : List PProp} {name : ByteArray} : ∀ p ∈ fil l name, p.name ≠ name := fun p hp => by
  have := (List.mem_filter.1 hp).2
  simpa using this
theorem PropsP.ins {l : List PProp} (h : PropsP l) {x : PProp} (hne : ∀ p ∈ l, p.name ≠ x.name) (hx : NameOk x.name ∧ GoodV x.v) : PropsP (ins l x) := by
  have hsplit : l = (l.takeWhile fun p => ltS p.name x.name) ++ (l.dropWhile fun p => ltS p.name x.name) := (List.takeWhile_append_dropWhile).symm
  have hlo : ∀ p ∈ l.takeWhile (fun p => ltS p.name x.name), ltS p.name x.name = true := fun p hp => List.all_eq_true.1 (List.all_takeWhile (p := fun p : PProp => ltS p.name x.name) (l := l)) p hp
  have hmem1 : ∀ p ∈ l.takeWhile (fun p => ltS p.name x.name), p ∈ l := fun p hp => (List.takeWhile_sublist _).subset hp
  have hmem2 : ∀ p ∈ l.dropWhile (fun p => ltS p.name x.name), p ∈ l := fun p hp => (List.dropWhile_sublist _).subset hp
  have hpw := h.2
  rw [hsplit, List.pairwise_append] at hpw
  obtain ⟨p1, p2, p3⟩ := hpw
  have hhi : ∀ p ∈ l.dropWhile (fun p => ltS p.name x.name), ltS x.name p.name = true := by
    cases hd : l.dropWhile (fun p => ltS p.name x.name) with
    | nil => simp
    | cons a t =>
      have ha : ltS a.name x.name = false := by
        have := List.head?_dropWhile_not (fun p => ltS p.name x.name) l
        rw [hd] at this
        simpa using this
      have hax : ltS x.name a.name = true := by
        have h1 := ltS_tri a.name x.name
        have h2 : decide (a.name = x.name) = false := decide_eq_false (hne a (hmem2 a (by rw [hd]; simp)))
        rw [ha, h2] at h1
        simpa using h1.symm
      rw [hd, List.pairwise_cons] at p2
      intro p hp
      rcases List.mem_cons.1 hp with rfl | hp
      · exact hax
      · exact ltS_trans hax (p2.1 p hp)
  unfold Hg.ins
  refine ⟨fun p hp => ?_, ?_⟩
  · rcases List.mem_append.1 hp with hp | hp
    · exact h.1 p (hmem1 p hp)
    · rcases List.mem_cons.1 hp with rfl | hp
      · exact hx
      · exact h.1 p (hmem2 p hp)
  · rw [List.pairwise_append, List.pairwise_cons]
    refine ⟨p1, ⟨hhi, p2⟩, fun p hp q hq => ?_⟩
    rcases List.mem_cons.1 hq with rfl | hq
    · exact hlo p hp
    · exact p3 p hp q hq
theorem PropsP.setP {l : List PProp} (h : PropsP l) {name : ByteArray} {v : PVal} (hn : NameOk name) (hv : GoodV v ∨ v.kind = 0) : PropsP (setP l name v) := by
  unfold Hg.setP
  split
  · exact h.fil name
  · refine (h.fil name).ins (x := ⟨name, v⟩) (fun p hp => fil_ne p hp) ⟨hn, ?_⟩
    rcases hv with hv | hv
    · exact hv
    · exact absurd hv ‹_›

structure GoodX (G : PGraph) : Prop where
  nodes : ∀ x ∈ G.nodes, NameOk x.typ ∧ PropsOk x.props
  edges : ∀ x ∈ G.edges, hasN G x.id = false ∧ hasN G x.from_ = true ∧ hasN G x.to_ = true ∧ NameOk x.typ ∧ PropsOk x.props
theorem goodNs_of {next : Int} : ∀ {l : List PNode} {last : Int}, (l.map (·.id)).Pairwise (· < ·) → (∀ x ∈ l, last < x.id ∧ x.id < next ∧ NameOk x.typ ∧ PropsOk x.props) → goodNs next last l = true
  | [], _, _, _ => rfl
  | x :: t, last, hp, h => by
    rw [List.map_cons, List.pairwise_cons] at hp
    have hx := h x (by simp)
    unfold goodNs
    rw [decide_eq_false (show ¬ x.id ≤ last by omega), decide_eq_false (show ¬ next ≤ x.id by omega), decide_eq_true hx.2.2.1, propsB_true hx.2.2.2,
      goodNs_of hp.2 (fun y hy => ⟨hp.1 y.id (List.mem_map_of_mem hy), (h y (by simp [hy])).2⟩)]
    rfl
theorem goodEs_of {G : PGraph} : ∀ {l : List PEdge} {last : Int}, (l.map (·.id)).Pairwise (· < ·) → (∀ x ∈ l, last < x.id ∧ x.id < G.next ∧ hasN G x.id = false ∧ hasN G x.from_ = true ∧ hasN G x.to_ = true ∧ NameOk x.typ ∧ PropsOk x.props) → goodEs G last l = true
  | [], _, _, _ => rfl
  | x :: t, last, hp, h => by
    rw [List.map_cons, List.pairwise_cons] at hp
    have hx := h x (by simp)
    unfold goodEs
    rw [decide_eq_false (show ¬ x.id ≤ last by omega), decide_eq_false (show ¬ G.next ≤ x.id by omega), hx.2.2.1, hx.2.2.2.1, hx.2.2.2.2.1, decide_eq_true hx.2.2.2.2.2.1, propsB_true hx.2.2.2.2.2.2,
      goodEs_of hp.2 (fun y hy => ⟨hp.1 y.id (List.mem_map_of_mem hy), (h y (by simp [hy])).2⟩)]
    rfl
theorem goodG_iff {G : PGraph} : goodG G = true ↔ GInv G ∧ GoodX G := by
  constructor
  · intro h
    refine ⟨goodG_inv h, ?_⟩
    unfold goodG at h
    simp only [Bool.and_eq_true] at h
    exact ⟨fun x hx => ((goodNs_all h.2.1).2 x hx).2.2, fun x hx => ((goodEs_all h.2.2).2 x hx).2.2⟩
  · rintro ⟨hi, hx⟩
    have h1 := hi.next0
    have h2 := hi.next1
    have h3 := hi.items
    unfold goodG sizeOkG
    rw [decide_eq_false (show ¬ G.next < 1 by omega), decide_eq_false (show ¬ 4611686018427387904 < G.next by omega), decide_eq_false (show ¬ 1024 < G.nodes.length + G.edges.length by omega),
      goodNs_of hi.nodes (fun x hx' => ⟨by have := (hi.nodesB x hx').1; omega, (hi.nodesB x hx').2.1, hx.nodes x hx'⟩),
      goodEs_of hi.edges (fun x hx' => ⟨by have := (hi.edgesB x hx').1; omega, (hi.edgesB x hx').2.1, hx.edges x hx'⟩)]
    rfl
def CatNames (c : PCat) : Prop := (∀ s ∈ c.nodes, NameOk s) ∧ ∀ s ∈ c.edges, NameOk s
theorem propsOk_nil : PropsOk [] := propsOk_iff.2 ⟨by simp, by simp, by simp⟩
theorem memS_mem {s : ByteArray} {l : List ByteArray} (h : memS s l = true) : s ∈ l := by
  obtain ⟨x, hx, hxs⟩ := List.any_eq_true.1 h
  have : x = s := by simpa using hxs
  rwa [this] at hx
theorem hasN_false {G : PGraph} {id : Int} (h : ∀ x ∈ G.nodes, x.id ≠ id) : hasN G id = false := List.any_eq_false.2 (fun x hx => by simpa using h x hx)
theorem hasN_true {G : PGraph} {id : Int} : hasN G id = true ↔ ∃ x ∈ G.nodes, x.id = id := by
  unfold hasN
  rw [List.any_eq_true]
  simp
theorem goodX_do {c : PCat} {o : POp} {G : PGraph} (hc : CatNames c) (hi : GInv G) (h : GoodX G) (hm : mayG c o G = 0) : GoodX (doG o G) := by
  unfold mayG at hm
  unfold Hg.doG
  by_cases h1 : o.kind = 1
  · rw [if_pos h1] at hm ⊢
    split at hm
    · simp at hm
    · rename_i ht
      have ht' : memS o.typ c.nodes = true := by simpa using ht
      have hhas : ∀ id, hasN (addNodeG o G) id = (hasN G id || decide (G.next = id)) := fun id => by simp [hasN, addNodeG]
      refine ⟨fun x hx => ?_, fun x hx => ?_⟩
      · rcases List.mem_append.1 hx with hx | hx
        · exact h.nodes x hx
        · simp at hx; subst hx; exact ⟨hc.1 _ (memS_mem ht'), propsOk_nil⟩
      · have he := h.edges x hx
        have hb := hi.edgesB x hx
        rw [hhas, hhas, hhas, he.1, he.2.1, he.2.2.1]
        exact ⟨by simp; omega, rfl, rfl, he.2.2.2⟩
  rw [if_neg h1] at hm ⊢
  by_cases h2 : o.kind = 2
  · rw [if_pos h2]
    refine ⟨fun x hx => h.nodes x (List.mem_filter.1 hx).1, fun x hx => ?_⟩
    obtain ⟨hx1, hx2⟩ := List.mem_filter.1 hx
    have he := h.edges x hx1
    have hat : x.from_ ≠ o.id ∧ x.to_ ≠ o.id := by
      unfold atE at hx2
      simpa using hx2
    have hkeep : ∀ id, id ≠ o.id → hasN G id = true → hasN (dropNodeG o G) id = true := fun id hid hh => by
      obtain ⟨y, hy, hyi⟩ := hasN_true.1 hh
      exact hasN_true.2 ⟨y, List.mem_filter.2 ⟨hy, by simp; omega⟩, hyi⟩
    refine ⟨hasN_false (fun y hy => ?_), hkeep _ hat.1 he.2.1, hkeep _ hat.2 he.2.2.1, he.2.2.2⟩
    have hy1 := (List.mem_filter.1 hy).1
    intro e
    have := hasN_true.2 ⟨y, hy1, e⟩
    rw [he.1] at this
    cases this
  rw [if_neg h2] at hm ⊢
  by_cases h3 : o.kind = 3
  · rw [if_pos h3] at hm ⊢
    split at hm
    · simp at hm
    · rename_i ht
      have ht' : memS o.typ c.edges = true := by simpa using ht
      split at hm
      · simp at hm
      · rename_i hft
        have hf : hasN G o.from_ = true ∧ hasN G o.to_ = true := by
          simp only [not_or] at hft
          exact ⟨by simpa using hft.1, by simpa using hft.2⟩
        refine ⟨h.nodes, fun x hx => ?_⟩
        show hasN G x.id = false ∧ hasN G x.from_ = true ∧ hasN G x.to_ = true ∧ _
        rcases List.mem_append.1 hx with hx | hx
        · exact h.edges x hx
        · simp at hx; subst hx
          exact ⟨hasN_false (fun y hy => by have := (hi.nodesB y hy).2.1; simp; omega), hf.1, hf.2, hc.2 _ (memS_mem ht'), propsOk_nil⟩
  rw [if_neg h3] at hm ⊢
  by_cases h4 : o.kind = 4
  · rw [if_pos h4]
    exact ⟨h.nodes, fun x hx => h.edges x (List.mem_filter.1 hx).1⟩
  rw [if_neg h4] at hm ⊢
  by_cases h5 : o.kind = 5
  · rw [if_pos h5] at hm ⊢
    split at hm
    · simp at hm
    · rename_i hnv
      simp only [not_or, not_and, Classical.not_not] at hnv
      have hv : GoodV o.v ∨ o.v.kind = 0 := by
        by_cases hg : GoodV o.v
        · exact .inl hg
        · exact .inr (hnv.2 hg).1
      split at hm
      · simp at hm
      · rename_i ps hps
        split at hm
        · simp at hm
        · rename_i h8
          have hset : PropsOk ps → PropsOk (setP ps o.name o.v) := fun hp => propsOk_iff.2 ⟨by omega, (propsOk_iff.1 hp).2.setP hnv.1 hv⟩
          unfold findP at hps
          unfold setPropG
          split
          · rename_i hn
            obtain ⟨y, hy, hyi⟩ := hasN_true.1 hn
            obtain ⟨i, hyi'⟩ := List.getElem?_of_mem hy
            rw [find_idx (fun x : PNode => x.id) hi.nodes hyi' hyi] at hps
            simp only [Option.some.injEq] at hps
            have hids : ∀ id, hasN (⟨G.nodes.map fun x => if x.id = o.id then ⟨x.id, x.typ, setP x.props o.name o.v⟩ else x, G.edges, G.next⟩ : PGraph) id = hasN G id := fun id => by
              unfold hasN
              show ((G.nodes.map fun x => if x.id = o.id then (⟨x.id, x.typ, setP x.props o.name o.v⟩ : PNode) else x).any _) = _
              rw [List.any_map]
              congr 1
              funext x
              simp only [Function.comp]
              split <;> rfl
            refine ⟨fun x hx => ?_, fun x hx => ?_⟩
            · obtain ⟨z, hz, rfl⟩ := List.mem_map.1 hx
              have hzn := h.nodes z hz
              split
              · rename_i hzi
                obtain ⟨j, hj⟩ := List.getElem?_of_mem hz
                have e1 := find_idx (fun x : PNode => x.id) hi.nodes hj hzi
                rw [find_idx (fun x : PNode => x.id) hi.nodes hyi' hyi] at e1
                simp only [Option.some.injEq] at e1
                subst e1
                exact ⟨hzn.1, by rw [hps]; exact hset (by rw [← hps]; exact hzn.2)⟩
              · exact hzn
            · rw [hids, hids, hids]; exact h.edges x hx
          · rename_i hn
            have hn' : hasN G o.id = false := by simpa using hn
            rw [find_none (fun x : PNode => x.id) hn'] at hps
            cases hf : G.edges.find? fun x => decide (x.id = o.id) with
            | none => rw [hf] at hps; simp at hps
            | some y =>
              rw [hf] at hps
              simp only [Option.some.injEq] at hps
              refine ⟨h.nodes, fun x hx => ?_⟩
              show hasN G x.id = false ∧ hasN G x.from_ = true ∧ hasN G x.to_ = true ∧ _
              obtain ⟨z, hz, rfl⟩ := List.mem_map.1 hx
              have hzn := h.edges z hz
              split
              · rename_i hzi
                obtain ⟨j, hj⟩ := List.getElem?_of_mem hz
                have e1 := find_idx (fun x : PEdge => x.id) hi.edges hj hzi
                rw [hf] at e1
                simp only [Option.some.injEq] at e1
                subst e1
                exact ⟨hzn.1, hzn.2.1, hzn.2.2.1, hzn.2.2.2.1, by rw [hps]; exact hset (by rw [← hps]; exact hzn.2.2.2.2)⟩
              · exact hzn
  rw [if_neg h5] at hm
  simp at hm
theorem goodG_step {c : PCat} {o : POp} {G : PGraph} (hc : CatNames c) (h : goodG G = true) : goodG (stepG c o G) = true := by
  obtain ⟨hi, hx⟩ := goodG_iff.1 h
  refine goodG_iff.2 ⟨hi.stepG, ?_⟩
  unfold stepG
  split
  · exact goodX_do hc hi hx ‹_›
  · exact hx
theorem goodG_empty : goodG PGraph.empty = true := goodG_iff.2 ⟨GInv.empty, by simp [PGraph.empty], by simp [PGraph.empty]⟩
theorem typesC_names : CatNames typesC := ⟨by decide, by decide⟩
end Go.Hg

namespace Go.Hg

def ltSp (a b : PSpot) : Bool := decide (a.kind < b.kind) || (decide (a.kind = b.kind) && (ltS a.typ b.typ || (decide (a.typ = b.typ) && ltS a.name b.name)))
theorem ltS_irrefl (a : ByteArray) : ltS a a = false := by
  have h := ltS_tri a a
  simp at h
  exact h
theorem ltS_total {a b : ByteArray} (h1 : ltS a b = false) (h2 : ltS b a = false) : a = b := by
  have h := ltS_tri a b
  rw [h1, h2] at h
  simpa using h
theorem ltSp_irrefl (a : PSpot) : ltSp a a = false := by simp [ltSp, ltS_irrefl]
theorem ltSp_iff (a b : PSpot) : ltSp a b = true ↔ a.kind < b.kind ∨ (a.kind = b.kind ∧ (ltS a.typ b.typ = true ∨ (a.typ = b.typ ∧ ltS a.name b.name = true))) := by simp [ltSp]
theorem ltSp_trans {a b c : PSpot} (h1 : ltSp a b = true) (h2 : ltSp b c = true) : ltSp a c = true := by
  rw [ltSp_iff] at h1 h2 ⊢
  rcases h1 with h1 | ⟨e1, h1⟩ <;> rcases h2 with h2 | ⟨e2, h2⟩
  · exact .inl (by omega)
  · exact .inl (by omega)
  · exact .inl (by omega)
  · refine .inr ⟨by omega, ?_⟩
    rcases h1 with h1 | ⟨f1, h1⟩ <;> rcases h2 with h2 | ⟨f2, h2⟩
    · exact .inl (ltS_trans h1 h2)
    · exact .inl (f2 ▸ h1)
    · exact .inl (f1 ▸ h2)
    · exact .inr ⟨f1.trans f2, ltS_trans h1 h2⟩
theorem ltSp_total {a b : PSpot} (h1 : ltSp a b = false) (h2 : ltSp b a = false) : a = b := by
  have g1 : ¬ ltSp a b = true := by rw [h1]; simp
  have g2 : ¬ ltSp b a = true := by rw [h2]; simp
  rw [ltSp_iff] at g1 g2
  have hk : a.kind = b.kind := by
    have : ¬ a.kind < b.kind := fun h => g1 (.inl h)
    have : ¬ b.kind < a.kind := fun h => g2 (.inl h)
    omega
  have k1 : ¬ (ltS a.typ b.typ = true ∨ (a.typ = b.typ ∧ ltS a.name b.name = true)) := fun h => g1 (.inr ⟨hk, h⟩)
  have k2 : ¬ (ltS b.typ a.typ = true ∨ (b.typ = a.typ ∧ ltS b.name a.name = true)) := fun h => g2 (.inr ⟨hk.symm, h⟩)
  have ht : a.typ = b.typ := ltS_total (by simpa using fun h => k1 (.inl h)) (by simpa using fun h => k2 (.inl h))
  have hn : a.name = b.name := ltS_total (by simpa using fun h => k1 (.inr ⟨ht, h⟩)) (by simpa using fun h => k2 (.inr ⟨ht.symm, h⟩))
  cases a; cases b
  simp only at hk ht hn
  rw [hk, ht, hn]
theorem ltSp_asymm {a b : PSpot} (h : ltSp a b = true) : ltSp b a = false := by
  cases h2 : ltSp b a with
  | false => rfl
  | true => have := ltSp_trans h h2; rw [ltSp_irrefl] at this; cases this

def SpSet (l : List PSpot) (S : List PSpot) : Prop := l.Pairwise (fun a b => ltSp a b = true) ∧ ∀ x, x ∈ l ↔ x ∈ S
theorem spSame : ∀ {l l' : List PSpot}, l.Pairwise (fun a b => ltSp a b = true) → l'.Pairwise (fun a b => ltSp a b = true) → (∀ x, x ∈ l ↔ x ∈ l') → l = l'
  | [], [], _, _, _ => rfl
  | [], b :: t', _, _, h => absurd ((h b).2 (.head _)) (by simp)
  | a :: t, [], _, _, h => absurd ((h a).1 (.head _)) (by simp)
  | a :: t, b :: t', h1, h2, h => by
    rw [List.pairwise_cons] at h1 h2
    have hab : a = b := by
      have ha := (h a).1 (.head _)
      have hb := (h b).2 (.head _)
      rcases List.mem_cons.1 ha with e | ha
      · exact e
      · rcases List.mem_cons.1 hb with e | hb
        · exact e.symm
        · have g1 := h1.1 _ hb
          have g2 := h2.1 _ ha
          rw [ltSp_asymm g1] at g2
          cases g2
    subst hab
    refine congrArg (a :: ·) (spSame h1.2 h2.2 fun x => ?_)
    constructor
    · intro hx
      rcases List.mem_cons.1 ((h x).1 (.tail _ hx)) with rfl | hx'
      · have := h1.1 _ hx; rw [ltSp_irrefl] at this; cases this
      · exact hx'
    · intro hx
      rcases List.mem_cons.1 ((h x).2 (.tail _ hx)) with rfl | hx'
      · have := h2.1 _ hx; rw [ltSp_irrefl] at this; cases this
      · exact hx'
theorem SpSet.uniq {l l' S : List PSpot} (h : SpSet l S) (h' : SpSet l' S) : l = l' := spSame h.1 h'.1 fun x => by rw [h.2, h'.2]
theorem SpSet.nil : SpSet [] [] := ⟨.nil, fun _ => Iff.rfl⟩
theorem takeWhile_mem {α : Type} {p : α → Bool} : ∀ {l : List α} {x : α}, x ∈ l.takeWhile p → p x = true
  | [], _, h => by cases h
  | a :: t, x, h => by
    rw [List.takeWhile_cons] at h
    split at h
    · rename_i ha
      rcases List.mem_cons.1 h with rfl | h
      · exact ha
      · exact takeWhile_mem h
    · cases h
def putSp (l : List PSpot) (s : PSpot) : List PSpot := if s ∈ l then l else (l.takeWhile fun x => ltSp x s) ++ s :: (l.dropWhile fun x => ltSp x s)
theorem SpSet.put {l S : List PSpot} (h : SpSet l S) (s : PSpot) : SpSet (putSp l s) (S ++ [s]) := by
  unfold putSp
  by_cases hs : s ∈ l
  · rw [if_pos hs]
    exact ⟨h.1, fun x => by
      rw [h.2, List.mem_append, List.mem_singleton]
      constructor
      · exact .inl
      · rintro (h1 | rfl)
        · exact h1
        · exact (h.2 x).1 hs⟩
  · rw [if_neg hs]
    have hT : ∀ x ∈ l.takeWhile (fun x => ltSp x s), ltSp x s = true := fun x hx => takeWhile_mem (p := fun x => ltSp x s) hx
    have hmem : ∀ x, x ∈ l ↔ x ∈ l.takeWhile (fun x => ltSp x s) ∨ x ∈ l.dropWhile (fun x => ltSp x s) := fun x => by
      conv => lhs; rw [← List.takeWhile_append_dropWhile (p := fun x => ltSp x s) (l := l)]
      exact List.mem_append
    have hD : ∀ x ∈ l.dropWhile (fun x => ltSp x s), ltSp s x = true := by
      intro x hx
      have hp : (l.dropWhile fun x => ltSp x s).Pairwise (fun a b => ltSp a b = true) := h.1.sublist (List.dropWhile_sublist _)
      cases hd : l.dropWhile (fun x => ltSp x s) with
      | nil => rw [hd] at hx; cases hx
      | cons a t =>
        have ha : ltSp a s = false := by
          have := List.head?_dropWhile_not (fun x => ltSp x s) l
          rw [hd] at this
          simpa using this
        have hne : s ≠ a := by
          rintro rfl
          exact hs ((hmem s).2 (.inr (by rw [hd]; exact .head _)))
        have hsa : ltSp s a = true := by
          cases hc : ltSp s a with
          | true => rfl
          | false => exact absurd (ltSp_total hc ha) hne
        rw [hd] at hx hp
        rw [List.pairwise_cons] at hp
        rcases List.mem_cons.1 hx with rfl | hx
        · exact hsa
        · exact ltSp_trans hsa (hp.1 x hx)
    refine ⟨?_, fun x => ?_⟩
    · rw [List.pairwise_append, List.pairwise_cons]
      refine ⟨h.1.sublist (List.takeWhile_sublist _), ⟨hD, h.1.sublist (List.dropWhile_sublist _)⟩, ?_⟩
      intro a ha b hb
      rcases List.mem_cons.1 hb with rfl | hb
      · exact hT a ha
      · exact ltSp_trans (hT a ha) (hD b hb)
    · rw [List.mem_append, List.mem_cons, List.mem_append, List.mem_singleton, ← h.2 x, hmem x]
      constructor
      · rintro (h1 | h1 | h1)
        · exact .inl (.inl h1)
        · exact .inr h1
        · exact .inl (.inr h1)
      · rintro ((h1 | h1) | h1)
        · exact .inl h1
        · exact .inr (.inr h1)
        · exact .inr (.inl h1)
end Go.Hg

namespace Go.Hg
open Go.RowKit Go.Proofs

def ltV (a b : PVal) : Bool := decide (a.kind < b.kind) || (decide (a.kind = b.kind) && (decide (a.n < b.n) || (decide (a.n = b.n) && ltS a.s b.s)))
def cmpV (a b : PVal) : Int := if ltV a b = true then -1 else if a = b then 0 else 1
theorem ltV_irrefl (a : PVal) : ltV a a = false := by simp [ltV, ltS_irrefl]
theorem cmpV_zero (a b : PVal) : decide (cmpV a b = 0) = decide (a = b) := by
  unfold cmpV
  by_cases h : a = b
  · subst h; rw [ltV_irrefl]; simp
  · by_cases h2 : ltV a b = true <;> simp [h, h2]
theorem int_beq (a b : Int) : (a == b) = decide (a = b) := by by_cases h : a = b <;> simp [h]
theorem pval_eq (a b : PVal) : a = b ↔ a.kind = b.kind ∧ a.n = b.n ∧ a.s = b.s := by
  constructor
  · rintro rfl; exact ⟨rfl, rfl, rfl⟩
  · intro h; cases a; cases b; simp_all

set_option maxRecDepth 100000 in
set_option maxHeartbeats 2000000 in
theorem refCompare (a b : PVal) (w : World) :
    Calls Tryz.prog 82 #[a.args, b.args] w fun e w' => e = .returned (.int .i64 (cmpV a b)) ∧ Grow w w' := by
  have HW := Lib.hid (show ∀ o1 o2, Grow w ((w.alloc o1).alloc o2) from fun o1 o2 => ((Grow.rfl' w).allocd o1).allocd o2)
  have HE := Lib.hid (show a = b ↔ _ from pval_eq a b)
  obtain ⟨k1, hk1⟩ : ∃ x, decide (a.kind < b.kind) = x := ⟨_, rfl⟩
  obtain ⟨k2, hk2⟩ : ∃ x, (a.kind == b.kind) = x := ⟨_, rfl⟩
  obtain ⟨n1, hn1⟩ : ∃ x, decide (a.n < b.n) = x := ⟨_, rfl⟩
  obtain ⟨n2, hn2⟩ : ∃ x, (a.n == b.n) = x := ⟨_, rfl⟩
  obtain ⟨s1, hs1⟩ : ∃ x, Op.bytesLess a.s.toList b.s.toList = x := ⟨_, rfl⟩
  obtain ⟨s2, hs2⟩ : ∃ x, decide (a.s = b.s) = x := ⟨_, rfl⟩
  have HC := Lib.hid (show cmpV a b = if (k1 || (k2 && (n1 || (n2 && s1)))) = true then -1 else if (k2 && (n2 && s2)) = true then 0 else 1 by
    unfold cmpV ltV ltS
    rw [hk1, ← hk2, hn1, ← hn2, hs1]
    simp only [int_beq]
    congr 1
    by_cases h : a = b
    · have h2 := HE.out.1 h
      rw [if_pos h, if_pos (by rw [← hs2]; simp [h2])]
    · rw [if_neg h, if_neg (fun hh => h (HE.out.2 (by rw [← hs2] at hh; simpa using hh)))])
  cases k1
  · cases k2
    · go_enter Tryz.func82, Tryz.ntmps82
      go_wp2
      go_ret
      exact ⟨by rw [HC.out]; rfl, HW.out _ _⟩
    · cases n1
      · cases n2
        · go_enter Tryz.func82, Tryz.ntmps82
          go_wp2
          go_ret
          exact ⟨by rw [HC.out]; rfl, HW.out _ _⟩
        · cases s1
          · cases s2
            · go_enter Tryz.func82, Tryz.ntmps82
              go_wp2
              go_ret
              exact ⟨by rw [HC.out]; rfl, HW.out _ _⟩
            · go_enter Tryz.func82, Tryz.ntmps82
              go_wp2
              go_ret
              exact ⟨by rw [HC.out]; rfl, HW.out _ _⟩
          · go_enter Tryz.func82, Tryz.ntmps82
            go_wp2
            go_ret
            exact ⟨by rw [HC.out]; rfl, HW.out _ _⟩
      · go_enter Tryz.func82, Tryz.ntmps82
        go_wp2
        go_ret
        exact ⟨by rw [HC.out]; rfl, HW.out _ _⟩
  · go_enter Tryz.func82, Tryz.ntmps82
    go_wp2
    go_ret
    exact ⟨by rw [HC.out]; rfl, HW.out _ _⟩
end Go.Hg

namespace Go.Hg
open Go.RowKit Go.Proofs

def RBrk (N : List PNode) (E : List PEdge) (r : PRule) (L : List Int) : Prop :=
  (formR r = false → L = []) ∧ (formR r = true → if r.kind = 4 then L.Nodup ∧ ∀ x, x ∈ L ↔ r.n < (outR E r x : Int) else BrkR N E r L)
def RBrkPost (N : List PNode) (E : List PEdge) (r : PRule) (w : World) (e : Ending) (w' : World) : Prop := ∃ v L, e = .returned v ∧ RBrk N E r L ∧ IdsW w.heap.size w' v L ∧ Grow w w'
theorem RBrkPost.of {N : List PNode} {E : List PEdge} {r : PRule} {w w1 w' : World} {v : Value} {L : List Int} (hb : BrokenR N E r L) (hk : r.kind ≠ 4) (h : IdsW w1.heap.size w' v L) (g : Grow w w1) (g' : Grow w1 w') : RBrkPost N E r w (.returned v) w' :=
  ⟨v, L, rfl, ⟨hb.1, fun hf => by rw [if_neg hk]; exact hb.2 hf⟩, h.base g.size, g.step g'⟩

theorem filt_snoc {α : Type} {l : List α} {p : α → Bool} (f : α → Int) {j : Nat} {x : α} (hT : l.take (j + 1) = l.take j ++ [x]) {fl : List Int} (hfl : ((l.take j).filter p).map f = fl) {b : Bool} (hb : p x = b) :
    ((l.take (j + 1)).filter p).map f = if b = true then fl ++ [f x] else fl := by
  rw [hT, List.filter_append, ← hfl, List.map_append]
  cases b
  · rw [if_neg (by simp)]; simp [hb]
  · rw [if_pos rfl]; simp [hb]
theorem refIsB {S : Nat → Prop} {v : Value} {nodes : List PNode} {id : Int} {typ : ByteArray} {w : World} {b : Bool} (h : NodesR S w v nodes) (hb : isT nodes id typ = b) :
    Calls Tryz.prog 83 #[v, .int .i64 id, .string typ] w fun e w' => e = .returned (.bool b) ∧ Grow w w' := by
  subst hb
  exact (refIs S v nodes id typ w h).mono fun e w' ⟨he, hw⟩ => ⟨he, by subst hw; exact Grow.rfl' _⟩

set_option maxRecDepth 100000 in
set_option maxHeartbeats 1000000 in
theorem refBrokenNo (nv ev : Value) (N : List PNode) (E : List PEdge) (r : PRule) (w : World) (hf : formR r = false) :
    Calls Tryz.prog 48 #[nv, ev, r.args] w (RBrkPost N E r w) := by
  have HF := Lib.hid hf
  have HW := Lib.hid (show ∀ o1, Grow w (w.alloc o1) from fun o1 => (Grow.rfl' w).allocd o1)
  clear hf
  go_enter Tryz.func48, Tryz.ntmps48
  go_wp2_with fail
  refine (refForm r _).mono ?_
  rintro e w2 ⟨rfl, g2⟩
  have HG2 := Lib.hid ((HW.out _).step g2)
  rw [HF.out]
  clear g2
  go_wp2
  go_ret
  exact ⟨_, [], rfl, ⟨fun _ => rfl, fun h => absurd h (by rw [HF.out]; simp)⟩, IdsW.nil _ _, HG2.out⟩

set_option maxRecDepth 100000 in
set_option maxHeartbeats 4000000 in
theorem refBrokenEnds (S : Nat → Prop) (nv ev : Value) (N : List PNode) (E : List PEdge) (r : PRule) (w : World) (hn : NodesR S w nv N) (he : EdgesR S w ev E) (hb : E.length ≤ 1099511627776) (hf : formR r = true) (hk : r.kind = 3) :
    Calls Tryz.prog 48 #[nv, ev, r.args] w (RBrkPost N E r w) := by
  have HF := Lib.hid hf; have HK := Lib.hid hk; have HBD := Lib.hid hb; have HN := Lib.hid hn
  have HW := Lib.hid (show ∀ o1, Grow w (w.alloc o1) from fun o1 => (Grow.rfl' w).allocd o1)
  obtain ⟨_, _, rfl, _⟩ := SlR.open hn
  obtain ⟨ae, ce, rfl, hel, hec, hE⟩ := SlR.open he
  unfold maxLen at hec
  have HE := Lib.hid hE
  clear hf hk hb hn he hE
  go_enter Tryz.func48, Tryz.ntmps48
  go_wp2_with fail
  refine (refForm r _).mono ?_
  rintro e w2 ⟨rfl, g2⟩
  have HG2 := Lib.hid ((HW.out _).step g2)
  have HRB := Lib.hid (ruleBoxNew w r w2 g2)
  obtain ⟨hrl, c1, c2, c3, c4, c5, c6, c7, c0⟩ := HRB.out.cells
  rw [HF.out]
  rw [HK.out] at c1
  have HI0 := Lib.hid (IdsW.nil w2.heap.size w2)
  clear g2
  go_wp2
  clear c1 c2 c3 c4 c5 c6 c7 c0
  go_loopg [7, 13] E.length (fun g lv i wr => ∃ j : Nat, j ≤ E.length ∧ g = E.length - j ∧ i = .int .i64 j ∧ IdsW w2.heap.size wr lv (((E.take j).filter (wrongR N r)).map (·.id)) ∧ Grow w2 wr)
  case atStart => exact ⟨0, by omega, by omega, rfl, HI0.out, Grow.rfl' w2⟩
  case round =>
    obtain ⟨j, hj, rfl, rfl, hi, hz⟩ := hrel
    obtain ⟨oa, co, rfl, _, _⟩ := hi.isSlice
    have HI := Lib.hid hi; have HZ := Lib.hid hz
    clear hi
    by_cases hjl : j < E.length
    · obtain ⟨ba, oa', ra, rfl, hSa, hba, hRa, hca⟩ := HE.out j E[j] (List.getElem?_eq_getElem hjl)
      have HX := Lib.hid (show ∀ w', Grow w w' → ba < w'.heap.size ∧ w'.cell? ⟨ba, oa' + j * 5, none⟩ = some (.int .i64 E[j].id) ∧ w'.cell? ⟨ba, oa' + j * 5 + 1, none⟩ = some (.string E[j].typ) ∧ w'.cell? ⟨ba, oa' + j * 5 + 2, none⟩ = some (.int .i64 E[j].from_) ∧ w'.cell? ⟨ba, oa' + j * 5 + 3, none⟩ = some (.int .i64 E[j].to_) from fun w' g => by
        obtain ⟨pva, h1, h2, h3, h4, h5, _, _⟩ := hRa.at hba g hca
        exact ⟨h1, h2, h3, h4, h5⟩)
      clear hca hRa hSa hba hz
      have HT := Lib.hid (show E.take (j + 1) = E.take j ++ [E[j]] from List.take_succ_eq_append_getElem hjl)
      have HLE := Lib.hid (show (((E.take j).filter (wrongR N r)).map (·.id)).length ≤ E.length by
        rw [List.length_map]
        exact Nat.le_trans (List.length_filter_le _ _) (by rw [List.length_take]; omega))
      generalize E[j] = x at *
      obtain ⟨bt, hbt⟩ : ∃ b, decide (x.typ = r.typ) = b := ⟨_, rfl⟩
      obtain ⟨bf, hbf⟩ : ∃ b, isT N x.from_ r.from_ = b := ⟨_, rfl⟩
      obtain ⟨bo, hbo⟩ : ∃ b, isT N x.to_ r.to_ = b := ⟨_, rfl⟩
      have HV := Lib.hid (show wrongR N r x = (bt && !(bf && bo)) by unfold wrongR; rw [hbt, hbf, hbo])
      have HBF := Lib.hid hbf; have HBO := Lib.hid hbo
      clear hbf hbo
      generalize hfl : ((E.take j).filter (wrongR N r)).map (·.id) = fl at *
      have HFF := Lib.hid hfl
      clear hfl
      have HWR := Lib.hid (HG2.out.step HZ.out)
      have HNR := Lib.hid (show ∀ g : Gr wr, NodesR S g.x _ N from fun g => HN.out.grow (HWR.out.step g.h))
      obtain ⟨hal, a0, a1, a2, a3⟩ := HX.out wr HWR.out
      obtain ⟨hrl', c1, c2, c3, c4, c5, c6, c7, c0⟩ := (HRB.out.grow HZ.out).cells
      clear c1 c3 c6 c7 c0
      have HD := Lib.hid (filt_snoc (·.id) HT.out HFF.out HV.out)
      clear HV
      have HYES := Lib.hid (show ∀ (w4 : World), Grow wr w4 → ∀ o1, Grow w2 (w4.alloc o1) ∧ IdsW w2.heap.size (w4.alloc o1) (.slice oa fl.length co) fl from fun w4 h o1 => ⟨(HZ.out.step h).allocd o1, (HI.out.grow h).grow ((Grow.rfl' w4).allocd o1)⟩)
      have HNO := Lib.hid (show ∀ (w4 : World), Grow wr w4 → Grow w2 w4 ∧ IdsW w2.heap.size w4 (.slice oa fl.length co) fl from fun w4 h => ⟨HZ.out.step h, HI.out.grow h⟩)
      cases bt
      · go_wp2_with fail
        refine wp_region_grow (by kernel_rfl) (by kernel_rfl) ?_
        repeat (go_big_quiet_step (fail))
        refine wpQuiet_nil ?_
        intro w4 hw4
        go_wp2_with fail
        go_roundg (E.length - (j + 1))
        case measure => omega
        case rel => exact ⟨j + 1, by omega, rfl, by go_num, by rw [HD.out, if_neg (by simp)]; exact (HNO.out _ hw4).2, (HNO.out _ hw4).1⟩
      · cases bf
        · go_wp2_with fail
          refine wp_region_grow (by kernel_rfl) (by kernel_rfl) ?_
          repeat (go_big_quiet_step (exact calls_gr (refIsB (HNR.out _) HBF.out)))
          refine wpQuiet_nil ?_
          intro w4 hw4
          have HW4 := Lib.hid hw4
          have hx := HX.out _ (HWR.out.step hw4)
          obtain ⟨hal4, b0, -, -, -⟩ := hx
          have hzs := (HNO.out _ hw4).1.size
          clear a0 a1 a2 a3 hal hw4 c2 c4 c5
          go_wp2_with (at_builtin; go_must (refine wpList_append_I rfl (.tmp 149) (.tmp 155) 25 rfl Tryz.underlying25 w2.heap.size _ fl rfl (HYES.out _ HW4.out _).2 x.id _ rfl (rd1 _ _ _ (by simp)) (by simp; omega) (by have := HLE.out; have := HBD.out; omega) ?_))
          intro v5 w6 k1 k2 k3
          have H5 := Lib.hid k1; have HG5 := Lib.hid ((HYES.out _ HW4.out _).1.since k2 (Nat.le_refl _))
          clear k1 k2 k3
          go_wp2
          go_roundg (E.length - (j + 1))
          case measure => omega
          case rel => exact ⟨j + 1, by omega, rfl, by go_num, by rw [HD.out, if_pos (by simp)]; exact H5.out, HG5.out⟩
        · cases bo
          · go_wp2_with fail
            refine wp_region_grow (by kernel_rfl) (by kernel_rfl) ?_
            repeat (go_big_quiet_step (first | exact calls_gr (refIsB (HNR.out _) HBF.out) | exact calls_gr (refIsB (HNR.out _) HBO.out)))
            refine wpQuiet_nil ?_
            intro w4 hw4
            have HW4 := Lib.hid hw4
            have hx := HX.out _ (HWR.out.step hw4)
            obtain ⟨hal4, b0, -, -, -⟩ := hx
            have hzs := (HNO.out _ hw4).1.size
            clear a0 a1 a2 a3 hal hw4 c2 c4 c5
            go_wp2_with (at_builtin; go_must (refine wpList_append_I rfl (.tmp 149) (.tmp 155) 25 rfl Tryz.underlying25 w2.heap.size _ fl rfl (HYES.out _ HW4.out _).2 x.id _ rfl (rd1 _ _ _ (by simp)) (by simp; omega) (by have := HLE.out; have := HBD.out; omega) ?_))
            intro v5 w6 k1 k2 k3
            have H5 := Lib.hid k1; have HG5 := Lib.hid ((HYES.out _ HW4.out _).1.since k2 (Nat.le_refl _))
            clear k1 k2 k3
            go_wp2
            go_roundg (E.length - (j + 1))
            case measure => omega
            case rel => exact ⟨j + 1, by omega, rfl, by go_num, by rw [HD.out, if_pos (by simp)]; exact H5.out, HG5.out⟩
          · go_wp2_with fail
            refine wp_region_grow (by kernel_rfl) (by kernel_rfl) ?_
            repeat (go_big_quiet_step (first | exact calls_gr (refIsB (HNR.out _) HBF.out) | exact calls_gr (refIsB (HNR.out _) HBO.out)))
            refine wpQuiet_nil ?_
            intro w4 hw4
            go_wp2_with fail
            go_roundg (E.length - (j + 1))
            case measure => omega
            case rel => exact ⟨j + 1, by omega, rfl, by go_num, by rw [HD.out, if_neg (by simp)]; exact (HNO.out _ hw4).2, (HNO.out _ hw4).1⟩
    · have hkk : E.take j = E := List.take_of_length_le (by omega)
      rw [hkk] at HI
      simp only [hkk]
      have HR := Lib.hid (RBrkPost.of (N := N) (E := E) (r := r) ⟨fun h => absurd h (by rw [HF.out]; simp), fun _ => by unfold BrkR; rw [if_neg (by have := HK.out; omega), if_neg (by have := HK.out; omega), if_pos HK.out]⟩ (by have := HK.out; omega) HI.out HG2.out HZ.out)
      clear hkk
      go_wp2
      go_ret
      exact HR.out
end Go.Hg

namespace Go.Hg
open Go.RowKit Go.Proofs

def mtE (r : PRule) (y : Int) (e : PEdge) : Bool := decide (e.typ = r.typ) && decide (e.from_ = y)
theorem outR_take {E : List PEdge} {r : PRule} {y : Int} {k : Nat} {e : PEdge} (hT : E.take (k + 1) = E.take k ++ [e]) : outR (E.take (k + 1)) r y = outR (E.take k) r y + if mtE r y e = true then 1 else 0 := by
  unfold outR
  rw [hT, List.filter_append, List.length_append]
  unfold mtE
  by_cases h : (decide (e.typ = r.typ) && decide (e.from_ = y)) = true
  · rw [if_pos h]; simp only [List.filter_cons, if_pos h, List.filter_nil, List.length_singleton]
  · rw [if_neg h]; simp only [List.filter_cons, if_neg h, List.filter_nil, List.length_nil]
def firstE (E : List PEdge) (r : PRule) (y : Int) (j k : Nat) : Bool := decide (outR (E.take (min k j)) r y = 0)
theorem firstE_step {E : List PEdge} {r : PRule} {y : Int} {j k : Nat} {e : PEdge} (hT : E.take (k + 1) = E.take k ++ [e]) : firstE E r y j (k + 1) = if mtE r y e = true then (firstE E r y j k && decide (j ≤ k)) else firstE E r y j k := by
  unfold firstE
  by_cases hk : j ≤ k
  · rw [Nat.min_eq_right (by omega), Nat.min_eq_right hk]
    by_cases h : mtE r y e = true <;> simp [h, hk]
  · rw [Nat.min_eq_left (by omega), Nat.min_eq_left (by omega), outR_take hT]
    by_cases h : mtE r y e = true
    · simp [h, hk]
    · simp [h]
def MostI (E : List PEdge) (r : PRule) (i : Nat) (l : List Int) : Prop := l.Nodup ∧ ∀ y, y ∈ l ↔ r.n < (outR E r y : Int) ∧ 0 < outR (E.take i) r y
theorem MostI.start (E : List PEdge) (r : PRule) : MostI E r 0 [] := ⟨.nil, fun y => by simp [outR]⟩
theorem MostI.step {E : List PEdge} {r : PRule} {i : Nat} {l : List Int} {e : PEdge} (h : MostI E r i l) (hT : E.take (i + 1) = E.take i ++ [e]) (hi : i ≤ E.length) {b : Bool}
    (hb : (decide (e.typ = r.typ) && (decide (r.n < (outR E r e.from_ : Int)) && firstE E r e.from_ i E.length)) = b) : MostI E r (i + 1) (if b = true then l ++ [e.from_] else l) := by
  unfold firstE at hb
  rw [Nat.min_eq_right hi] at hb
  cases b with
  | true =>
    simp only [Bool.and_eq_true, decide_eq_true_eq] at hb
    obtain ⟨h1, h2, h3⟩ := hb
    rw [if_pos rfl]
    refine ⟨?_, fun y => ?_⟩
    · rw [List.nodup_append]
      refine ⟨h.1, by simp, ?_⟩
      intro a ha c hc hac
      rw [List.mem_singleton] at hc
      subst hc; subst hac
      have := ((h.2 _).1 ha).2
      omega
    · rw [List.mem_append, List.mem_singleton, h.2, outR_take hT]
      constructor
      · rintro (⟨g1, g2⟩ | rfl)
        · exact ⟨g1, by omega⟩
        · exact ⟨h2, by simp [mtE, h1]⟩
      · rintro ⟨g1, g2⟩
        by_cases hm : mtE r y e = true
        · unfold mtE at hm
          simp only [Bool.and_eq_true, decide_eq_true_eq] at hm
          exact .inr hm.2.symm
        · rw [if_neg hm] at g2
          exact .inl ⟨g1, by omega⟩
  | false =>
    rw [if_neg (by simp)]
    refine ⟨h.1, fun y => ?_⟩
    rw [h.2, outR_take hT]
    constructor
    · rintro ⟨g1, g2⟩
      exact ⟨g1, by omega⟩
    · rintro ⟨g1, g2⟩
      refine ⟨g1, ?_⟩
      by_cases hm : mtE r y e = true
      · unfold mtE at hm
        simp only [Bool.and_eq_true, decide_eq_true_eq] at hm
        obtain ⟨m1, rfl⟩ := hm
        simp only [m1, decide_true, Bool.true_and, Bool.and_eq_false_iff, decide_eq_false_iff_not] at hb
        rcases hb with hb | hb
        · exact absurd g1 hb
        · omega
      · rw [if_neg hm] at g2
        omega
theorem MostI.done {E : List PEdge} {r : PRule} {l : List Int} (h : MostI E r E.length l) (hn : 0 ≤ r.n) : l.Nodup ∧ ∀ y, y ∈ l ↔ r.n < (outR E r y : Int) := by
  refine ⟨h.1, fun y => ?_⟩
  rw [h.2, List.take_length]
  constructor
  · exact fun g => g.1
  · exact fun g => ⟨g, by omega⟩

set_option maxRecDepth 100000 in
set_option maxHeartbeats 8000000 in
theorem refBrokenMost (S : Nat → Prop) (nv ev : Value) (N : List PNode) (E : List PEdge) (r : PRule) (w : World) (hn : NodesR S w nv N) (he : EdgesR S w ev E) (hb : E.length ≤ 1099511627776) (hf : formR r = true) (hk : r.kind = 4) :
    Calls Tryz.prog 48 #[nv, ev, r.args] w (RBrkPost N E r w) := by
  have HF := Lib.hid hf; have HK := Lib.hid hk; have HBD := Lib.hid hb
  have HW := Lib.hid (show ∀ o1, Grow w (w.alloc o1) from fun o1 => (Grow.rfl' w).allocd o1)
  obtain ⟨_, _, rfl, _⟩ := SlR.open hn
  obtain ⟨ae, ce, rfl, hel, hec, hE⟩ := SlR.open he
  unfold maxLen at hec
  have HE := Lib.hid (show ∀ (j : Nat) (hj : j < E.length), ∃ ba oa, ae = some ⟨ba, oa, none⟩ ∧ ∀ w', Grow w w' → ba < w'.heap.size ∧ w'.cell? ⟨ba, oa + j * 5 + 1, none⟩ = some (.string E[j].typ) ∧ w'.cell? ⟨ba, oa + j * 5 + 2, none⟩ = some (.int .i64 E[j].from_) from fun j hj => by
    obtain ⟨ba, oa', ra, rfl, hSa, hba, hRa, hca⟩ := hE j E[j] (List.getElem?_eq_getElem hj)
    refine ⟨ba, oa', rfl, fun w' g => ?_⟩
    obtain ⟨pva, h1, h2, h3, h4, h5, _, _⟩ := hRa.at hba g hca
    exact ⟨h1, h3, h4⟩)
  clear hf hk hb hn he hE
  go_enter Tryz.func48, Tryz.ntmps48
  go_wp2_with fail
  refine (refForm r _).mono ?_
  rintro e w2 ⟨rfl, g2⟩
  have HG2 := Lib.hid ((HW.out _).step g2)
  have HRB := Lib.hid (ruleBoxNew w r w2 g2)
  obtain ⟨hrl, c1, c2, c3, c4, c5, c6, c7, c0⟩ := HRB.out.cells
  rw [HF.out]
  rw [HK.out] at c1
  have HI0 := Lib.hid (IdsW.nil w2.heap.size w2)
  have HM0 := Lib.hid (MostI.start E r)
  clear g2
  go_wp2
  clear c1 c2 c3 c4 c5 c6 c7 c0
  go_loopg [7, 14] E.length (fun g lv i wr => ∃ (j : Nat) (l : List Int), j ≤ E.length ∧ g = E.length - j ∧ i = .int .i64 j ∧ MostI E r j l ∧ l.length ≤ j ∧ IdsW w2.heap.size wr lv l ∧ Grow w2 wr)
  case atStart => exact ⟨0, [], by omega, by omega, rfl, HM0.out, by simp, HI0.out, Grow.rfl' w2⟩
  case round =>
    obtain ⟨j, l, hj, rfl, rfl, hmi, hll, hi, hz⟩ := hrel
    obtain ⟨oa, co, rfl, _, _⟩ := hi.isSlice
    have HI := Lib.hid hi; have HZ := Lib.hid hz; have HMI := Lib.hid hmi; have HLL := Lib.hid hll
    clear hi hmi hll
    by_cases hjl : j < E.length
    · obtain ⟨ba, oa', rfl, hXj⟩ := HE.out j hjl
      have HX := Lib.hid hXj
      have HE1 := Lib.hid (show ∀ (k : Nat) (hk : k < E.length), ∀ w', Grow w w' → w'.cell? ⟨ba, oa' + k * 5 + 1, none⟩ = some (.string E[k].typ) ∧ w'.cell? ⟨ba, oa' + k * 5 + 2, none⟩ = some (.int .i64 E[k].from_) from fun k hk w' g => by
        obtain ⟨b1, o1, h1, h2⟩ := HE.out k hk
        cases h1
        exact (h2 w' g).2)
      have HT := Lib.hid (show E.take (j + 1) = E.take j ++ [E[j]] from List.take_succ_eq_append_getElem hjl)
      clear hXj
      generalize E[j] = x at *
      have HWR := Lib.hid (HG2.out.step HZ.out)
      obtain ⟨wo, rfl⟩ : ∃ wo, wo = wr := ⟨_, rfl⟩
      have hn0 := formR_most HF.out (by have := HK.out; omega) (by have := HK.out; omega) (by have := HK.out; omega)
      have HF0 := Lib.hid (show true = firstE E r x.from_ j 0 by simp [firstE, outR])
      clear hz
      go_wp2
      go_loopg [15, 16, 17] E.length (fun g nv fv kv wr => ∃ (k : Nat) (fb : Bool), k ≤ E.length ∧ g = E.length - k ∧ kv = .int .i64 k ∧ nv = .int .i64 (outR (E.take k) r x.from_ : Nat) ∧ fv = .bool fb ∧ fb = firstE E r x.from_ j k ∧ Grow wo wr)
      case atStart => exact ⟨0, true, by omega, by omega, rfl, rfl, rfl, HF0.out, Grow.rfl' wo⟩
      case round =>
        obtain ⟨k, fb, hk, rfl, rfl, rfl, rfl, hfb, hgo⟩ := hrel
        have HFB := Lib.hid hfb; have HGO := Lib.hid hgo
        have hol : outR (E.take k) r x.from_ ≤ k := by
          unfold outR
          exact Nat.le_trans (List.length_filter_le _ _) (by rw [List.length_take]; omega)
        clear hfb hgo
        by_cases hkl : k < E.length
        · have HTK := Lib.hid (show E.take (k + 1) = E.take k ++ [E[k]] from List.take_succ_eq_append_getElem hkl)
          have HXK := Lib.hid (HE1.out k hkl)
          generalize E[k] = y at *
          obtain ⟨b0, b1⟩ := HXK.out wr (HWR.out.step HGO.out)
          obtain ⟨hal, a1, a2⟩ := HX.out wr (HWR.out.step HGO.out)
          obtain ⟨hrl', c1, c2, c3, c4, c5, c6, c7, c0⟩ := (HRB.out.grow (HZ.out.step HGO.out)).cells
          have HOT := Lib.hid (outR_take (r := r) (y := x.from_) HTK.out)
          have HFS := Lib.hid (firstE_step (r := r) (y := x.from_) (j := j) HTK.out)
          have HNO := Lib.hid (show ∀ (w4 : World), Grow wr w4 → Grow wo w4 from fun w4 h => HGO.out.step h)
          obtain ⟨bt, hbt⟩ : ∃ b, decide (y.typ = r.typ) = b := ⟨_, rfl⟩
          obtain ⟨bf, hbf⟩ : ∃ b, (y.from_ == x.from_) = b := ⟨_, rfl⟩
          obtain ⟨bk, hbk⟩ : ∃ b, decide (j ≤ k) = b := ⟨_, rfl⟩
          have HMT := Lib.hid (show mtE r x.from_ y = (bt && bf) by unfold mtE; rw [hbt, ← hbf, int_beq])
          have HBK := Lib.hid hbk
          generalize outR (E.take k) r x.from_ = n at *
          clear c1 c3 c4 c5 c6 c7 c0
          cases bt
          · go_wp2_with fail
            refine wp_region_grow (by kernel_rfl) (by kernel_rfl) ?_
            repeat (go_big_quiet_step (fail))
            refine wpQuiet_nil ?_
            intro w4 hw4
            go_wp2_with fail
            go_roundg (E.length - (k + 1))
            case measure => omega
            case rel => exact ⟨k + 1, fb, by omega, rfl, by go_num, by rw [HOT.out, if_neg (by rw [HMT.out]; simp)]; rfl, rfl, by rw [HFS.out, if_neg (by rw [HMT.out]; simp)]; exact HFB.out, HNO.out _ hw4⟩
          · cases bf
            · go_wp2_with fail
              refine wp_region_grow (by kernel_rfl) (by kernel_rfl) ?_
              repeat (go_big_quiet_step (fail))
              refine wpQuiet_nil ?_
              intro w4 hw4
              go_wp2_with fail
              go_roundg (E.length - (k + 1))
              case measure => omega
              case rel => exact ⟨k + 1, fb, by omega, rfl, by go_num, by rw [HOT.out, if_neg (by rw [HMT.out]; simp)]; rfl, rfl, by rw [HFS.out, if_neg (by rw [HMT.out]; simp)]; exact HFB.out, HNO.out _ hw4⟩
            · go_wp2_with fail
              refine wp_region_grow (by kernel_rfl) (by kernel_rfl) ?_
              repeat (go_big_quiet_step (fail))
              refine wpQuiet_nil ?_
              intro w4 hw4
              have HW4 := Lib.hid hw4
              clear hw4
              cases fb
              · go_wp2_with fail
                go_roundg (E.length - (k + 1))
                case measure => omega
                case rel => exact ⟨k + 1, false, by omega, rfl, by go_num, by rw [HOT.out, if_pos (by rw [HMT.out]; rfl)]; go_num, rfl, by rw [HFS.out, if_pos (by rw [HMT.out]; rfl), ← HFB.out]; rfl, HNO.out _ HW4.out⟩
              · go_wp2_with fail
                go_roundg (E.length - (k + 1))
                case measure => omega
                case rel => exact ⟨k + 1, bk, by omega, rfl, by go_num, by rw [HOT.out, if_pos (by rw [HMT.out]; rfl)]; go_num, rfl, by rw [HFS.out, if_pos (by rw [HMT.out]; rfl), ← HFB.out, HBK.out]; rfl, HNO.out _ HW4.out⟩
        · have hkk : E.take k = E := List.take_of_length_le (by omega)
          have hke : k = E.length := by omega
          rw [hkk] at hol
          simp only [hkk]
          subst hke
          obtain ⟨hal, a1, a2⟩ := HX.out wr (HWR.out.step HGO.out)
          obtain ⟨hrl', c1, c2, c3, c4, c5, c6, c7, c0⟩ := (HRB.out.grow (HZ.out.step HGO.out)).cells
          clear c1 c3 c4 c5 c7 c0 hkk
          obtain ⟨bt, hbt⟩ : ∃ b, decide (x.typ = r.typ) = b := ⟨_, rfl⟩
          obtain ⟨bn, hbn⟩ : ∃ b, decide (r.n < (outR E r x.from_ : Int)) = b := ⟨_, rfl⟩
          have HST := Lib.hid (HMI.out.step HT.out (by omega) (b := bt && (bn && fb)) (by rw [hbt, hbn, HFB.out]))
          have HBD2 := Lib.hid (show l.length + 1 ≤ j + 1 by have := HLL.out; omega)
          have HI4 := Lib.hid (show ∀ w4, Grow wr w4 → Grow w2 w4 ∧ IdsW w2.heap.size w4 (.slice oa l.length co) l from fun w4 h => ⟨(HZ.out.step HGO.out).step h, HI.out.grow (HGO.out.step h)⟩)
          have HI5 := Lib.hid (show ∀ w4, Grow wr w4 → ∀ o1, Grow w2 (w4.alloc o1) ∧ IdsW w2.heap.size (w4.alloc o1) (.slice oa l.length co) l from fun w4 h o1 => ⟨((HZ.out.step HGO.out).step h).allocd o1, (HI.out.grow (HGO.out.step h)).grow ((Grow.rfl' w4).allocd o1)⟩)
          generalize outR E r x.from_ = n at *
          cases bt
          · go_wp2_with fail
            refine wp_region_grow (by kernel_rfl) (by kernel_rfl) ?_
            repeat (go_big_quiet_step (fail))
            refine wpQuiet_nil ?_
            intro w4 hw4
            go_wp2_with fail
            go_roundg (E.length - (j + 1))
            case measure => omega
            case rel => exact ⟨j + 1, l, by omega, rfl, by go_num, by have h := HST.out; simpa using h, by have := HLL.out; omega, (HI4.out _ hw4).2, (HI4.out _ hw4).1⟩
          · cases bn
            · go_wp2_with fail
              refine wp_region_grow (by kernel_rfl) (by kernel_rfl) ?_
              repeat (go_big_quiet_step (fail))
              refine wpQuiet_nil ?_
              intro w4 hw4
              go_wp2_with fail
              go_roundg (E.length - (j + 1))
              case measure => omega
              case rel => exact ⟨j + 1, l, by omega, rfl, by go_num, by have h := HST.out; simpa using h, by have := HLL.out; omega, (HI4.out _ hw4).2, (HI4.out _ hw4).1⟩
            · cases fb
              · go_wp2_with fail
                refine wp_region_grow (by kernel_rfl) (by kernel_rfl) ?_
                repeat (go_big_quiet_step (fail))
                refine wpQuiet_nil ?_
                intro w4 hw4
                go_wp2_with fail
                go_roundg (E.length - (j + 1))
                case measure => omega
                case rel => exact ⟨j + 1, l, by omega, rfl, by go_num, by have h := HST.out; simpa using h, by have := HLL.out; omega, (HI4.out _ hw4).2, (HI4.out _ hw4).1⟩
              · go_wp2_with fail
                refine wp_region_grow (by kernel_rfl) (by kernel_rfl) ?_
                repeat (go_big_quiet_step (fail))
                refine wpQuiet_nil ?_
                intro w4 hw4
                have HW4 := Lib.hid hw4
                have hx := HX.out _ (((HWR.out.step HGO.out)).step hw4)
                obtain ⟨hal4, _, b1⟩ := hx
                have hzs := (HI4.out _ hw4).1.size
                clear a1 a2 hal hw4 c2 c6
                go_wp2_with (at_builtin; go_must (refine wpList_append_I rfl (.tmp 217) (.tmp 223) 25 rfl Tryz.underlying25 w2.heap.size _ l rfl (HI5.out _ HW4.out _).2 x.from_ _ rfl (rd1 _ _ _ (by simp)) (by simp; omega) (by have := HLL.out; have := HBD.out; omega) ?_))
                intro v5 w6 k1 k2 k3
                have H5 := Lib.hid k1; have HG5 := Lib.hid ((HI5.out _ HW4.out _).1.since k2 (Nat.le_refl _))
                clear k1 k2 k3
                go_wp2
                go_roundg (E.length - (j + 1))
                case measure => omega
                case rel => exact ⟨j + 1, l ++ [x.from_], by omega, rfl, by go_num, by have h := HST.out; simpa using h, by have := HLL.out; simp; omega, H5.out, HG5.out⟩
    · have hkk : j = E.length := by omega
      have hn0 := formR_most HF.out (by have := HK.out; omega) (by have := HK.out; omega) (by have := HK.out; omega)
      have HDN := Lib.hid (MostI.done (hkk ▸ HMI.out) hn0)
      clear hkk hn0 hz
      go_wp2
      go_ret
      exact ⟨_, l, rfl, ⟨fun h => absurd h (by rw [HF.out]; simp), fun _ => by rw [if_pos HK.out]; exact HDN.out⟩, HI.out.base HG2.out.size, HG2.out.step HZ.out⟩
end Go.Hg
