/- maps.DeleteFunc at a map of int64 to int, in plain words; check.Broken: Most, and all kinds; hedgerowref21.Commit; check.Commit; law21.wakes; keep.LargeRule, Longs of any; law21.CheckEnough: true. Conditions: those that each theorem names. -/
import Derived.WalkKit
import Derived.WalkSpells
import Derived.WalkLawsBesides
import Derived.Lib.Hide
import Derived.BigQuiet
import Derived.Deep.LoopGhost
import Derived.Test.YtanijffgogpmdaaGreatRows
import Derived.Lib.SliceRun
import Derived.WideMake
import Derived.Deep.RegionLaw
import Derived.Lib.Overlaps
import Derived.Deep.RegionHeld3
import Derived.Laws.ResultCell
import Derived.Laws.EntriesVeiled
import Derived.Maps.OwnOps
import Derived.Maps.OwnSet
import Derived.Carry
import Derived.Lib.SlKeysI
import Derived.Maps.RangeWalk
import Derived.Lib.SlMapFilter
import Derived.Deep.DeepCutAuto
import Derived.Shelf.SlIterI.Nil
import Derived.Shelf.SortM.Plain
import Derived.Shelf.SortM.SortNone
import Derived.Shelf.SlMaps.DeleteFunc
import Derived.Shelf.SlSortCmp.WholeK
import Derived.Shelf.SlIterI.Collect
import Derived.RangeFuncBox
import Derived.RangeFuncLeaves
import Derived.RangeFuncWrites
import Derived.Maps.AppendAt
import Derived.Deep.CutBlock
import Derived.BigRegion
import Derived.Test.YtanijffgogpmdaaGreatDirN
import Derived.Test.YtanijffgogpmdaaGreatDirP
import Derived.Test.YtanijffgogpmdaaGreatDirQ
import Derived.Test.YtanijffgogpmdaaGreatDirR
import Derived.Test.YtanijffgogpmdaaGreatDirT
import Derived.Test.YtanijffgogpmdaaGreatDirV
import Derived.Test.YtanijffgogpmdaaGreatDirW
import Derived.Test.YtanijffgogpmdaaGreatDirX
import Derived.Test.YtanijffgogpmdaaGreatDirAd
import Derived.Test.YtanijffgogpmdaaGreatDirAg
import Derived.Test.YtanijffgogpmdaaGreatDirAq
namespace Go.Hg
open Go.RowKit Go.Proofs MapKept Go.Maps Go.WideElems

def ffil (f : Int → Option Value) (p : Int → Bool) : Int → Option Value := fun x => match f x with | some (.int .i64 c) => if p c then none else some (.int .i64 c) | _ => none
def litP (p : Int → Bool) : Lit → DataW Unit → Bool := fun _ d => match d with | .lit (.int _ c) => p c | _ => false
theorem view_filter {D : DataW Unit} {f : Int → Option Value} (p : Int → Bool) {es0 : List (Lit × DataW Unit)} (hD : D = .map es0) (hap : es0.Pairwise (fun p q => p.1 ≠ q.1)) (_hk : ∀ p ∈ es0, WideAt.IsKeyLit p.1) (h : HoldsI D f)
    (hf : ∀ x v, f x = some v → ∃ c, v = .int .i64 c) (x : Int) (hx : inI64 x) : viewI (Lib.deleteFuncD (litP p) D) x = ffil f p x := by
  subst hD
  have hkx : WideAt.IsKeyLit (.int .i64 x) := by first | trivial | (unfold WideAt.IsKeyLit; trivial)
  unfold Lib.deleteFuncD
  simp only
  unfold ffil
  have no_of : (∀ q ∈ es0, q.1 = .int .i64 x → litP p q.1 q.2 = true) → viewI (.map (es0.filter fun q => !litP p q.1 q.2)) x = none := by
    intro hq
    unfold viewI
    rw [if_neg]
    intro hh
    obtain ⟨q, hq1, hq2⟩ := List.any_eq_true.1 hh
    obtain ⟨hq3, hq4⟩ := List.mem_filter.1 hq1
    rw [hq q hq3 (WideAt.sameKey_eq hq2)] at hq4
    cases hq4
  cases hfx : f x with
  | none =>
    simp only
    refine no_of fun q hq e => ?_
    have h1 := h.2 x hfx hx
    have h2 : Maps.has (DataW.map es0) (.int .i64 x) = true := List.any_eq_true.2 ⟨q, hq, by rw [e]; exact WideAt.sameKey_self hkx⟩
    rw [h1] at h2
    cases h2
  | some v =>
    obtain ⟨c, rfl⟩ := hf x v hfx
    obtain ⟨h1, h2⟩ := h.1 x c hfx
    obtain ⟨q, hq1, hq2⟩ := List.any_eq_true.1 h1
    have hqk : q.1 = .int .i64 x := WideAt.sameKey_eq hq2
    have hqv : q.2 = .lit (.int .i64 c) := by
      have := WideAt.atKey_mem (d := q.2) .nil hkx hap (by rw [← hqk]; exact hq1)
      rw [← this]
      exact h2 _
    simp only
    by_cases hp : p c = true
    · rw [if_pos hp]
      refine no_of fun q' hq' e => ?_
      have hv : q'.2 = .lit (.int .i64 c) := by
        have := WideAt.atKey_mem (d := q'.2) .nil hkx hap (by rw [← e]; exact hq')
        rw [← this]
        exact h2 _
      rw [hv]
      exact hp
    · rw [if_neg hp]
      have hmem : (Lit.int .i64 x, (.lit (.int .i64 c) : DataW Unit)) ∈ es0.filter fun q => !litP p q.1 q.2 := by
        refine List.mem_filter.2 ⟨?_, ?_⟩
        · have : q = (Lit.int .i64 x, (.lit (.int .i64 c) : DataW Unit)) := Prod.ext hqk hqv
          rw [← this]
          exact hq1
        · show (!p c) = true
          simpa using hp
      unfold viewI
      rw [if_pos (show Maps.has (DataW.map (es0.filter fun q => !litP p q.1 q.2)) (.int .i64 x) = true from List.any_eq_true.2 ⟨_, hmem, WideAt.sameKey_self hkx⟩), WideAt.atKey_mem .nil hkx (hap.filter _) hmem]
theorem mapsDelete (b n : Nat) (f : Int → Option Value) (p : Int → Bool) (g : Nat) (cb : Array Value) (w : World) (h : MapI w b f n) (hn : n ≤ maxLen) (hc : Counts f) (eg : ∀ args w, (callFunc g args).run Tryz.prog w = .ok (.enter g args) w)
    (hdel : ∀ (W : World) (k c : Int), Mod (fun q => q = b) w W → Calls Tryz.prog g (#[.int .i64 k, .int .i64 c] ++ cb) W fun e w' => e = .returned (.bool (p c)) ∧ Grow W w') :
    Calls Tryz.prog 54 #[.map (some b), .func (.func g) #[] cb] w fun e w' => e = .returned (.tuple #[]) ∧ MapI w' b (ffil f p) n ∧ Mod (fun q => q = b) w w' := by
  obtain ⟨D, hown, hH⟩ := h.ownsV (P := Tryz.prog) (k := 2) (e := 3) Tryz.underlying2 Tryz.underlying3 hn hc
  obtain ⟨es0, hD, hap, hkeys⟩ := hown.entries (int_keyed Tryz.underlying2)
  have hcon := AnyDf.maps_DeleteFunc delA (int_keyed Tryz.underlying2) (plainElem Tryz.prog 3) (litP p) g cb b n D w eg hown (fun W key val kl yd yp hg hk hv => by
    obtain ⟨k, rfl, rfl, hk2⟩ := keyOf_int_inv Tryz.underlying2 hk
    obtain ⟨c, rfl, hc1, -⟩ := plainElem_int_inv Tryz.underlying3 hv
    cases hc1
    exact (hdel W k c (mod_grown hg)).mono fun e w' ⟨he, hg2⟩ => ⟨he, hg2.os, hg2.tape, hg2.output, hg2.size, fun i hi _ => hg2.block i hi⟩)
  refine hcon.mono ?_
  rintro e w' ⟨rfl, h1, h2⟩
  have hff : ∀ x v, ffil f p x = some v → f x = some v ∧ ∃ c, v = .int .i64 c := by
    intro x v hv
    unfold ffil at hv
    split at hv
    · rename_i c hfx
      split at hv
      · cases hv
      · cases hv
        exact ⟨hfx, c, rfl⟩
    · cases hv
  exact ⟨rfl, ownsMap_toI h1 Tryz.underlying2 Tryz.underlying3 (fun x v hv => ⟨(hc x v (hff x v hv).1).1, (hff x v hv).2⟩)
    (fun x hx => view_filter p hD hap hkeys hH (fun x v hv => (hc x v hv).2.imp fun c hc => hc.1) x hx), mod_grown h2⟩

theorem entBrok : ∀ args w, (callFunc 55 args).run Tryz.prog w = .ok (.enter 55 args) w := fun args w => enterF Tryz.func55 (by kernel_rfl) rfl args w
theorem brokenCut (k c : Int) (rb : Nat) (r : PRule) (w : World) (hr : RuleBox w rb r) :
    Calls Tryz.prog 55 #[.int .i64 k, .int .i64 c, .pointer (some ⟨rb, 0, none⟩)] w fun e w' => e = .returned (.bool (decide (c ≤ r.n))) ∧ Grow w w' := by
  obtain ⟨hrl, c1, c2, c3, c4, c5, c6, c7, c0⟩ := hr.cells
  clear hr
  go_enter Tryz.func55, Tryz.ntmps55
  go_wp2
  go_ret
  exact ⟨rfl, Grow.rfl' _⟩
theorem cntK_ffil (M : List Int) (p : Int → Bool) (x : Int) : ffil (cntK M) p x ≠ none ↔ M.count x ≠ 0 ∧ p (M.count x) = false := by
  unfold ffil cntK
  by_cases h : M.count x = 0
  · simp [h]
  · simp [h]

set_option maxRecDepth 100000 in
set_option maxHeartbeats 4000000 in
theorem brokenMost (gv : Value) (N : List PNode) (E : List PEdge) (r : PRule) (w : World) (hg : GAt gv N E w) (hb : E.length ≤ 4096) (h64 : ∀ e ∈ E, (Lit.int .i64 e.from_).wf = true) (hf : formR r = true) (hk : r.kind = 4) :
    Calls Tryz.prog 16 #[gv, r.args] w (BrokPost N E r w) := by
  have HF := Lib.hid hf; have HK := Lib.hid hk; have HGA := Lib.hid hg; have HBD := Lib.hid hb; have H64 := Lib.hid h64
  have HW := Lib.hid (show ∀ o1, Grow w (w.alloc o1) from fun o1 => (Grow.rfl' w).allocd o1)
  have hmm := @run_makeMap Tryz.prog
  have entBrok := entBrok
  clear hf hk hg hb h64
  go_enter Tryz.func16, Tryz.ntmps16
  go_wp2_with fail
  refine (ruleForm r _).mono ?_
  rintro e w2 ⟨rfl, g2⟩
  have HG2 := Lib.hid ((HW.out _).step g2)
  have HRB := Lib.hid (ruleBoxNew w r w2 g2)
  obtain ⟨hrl, c1, c2, c3, c4, c5, c6, c7, c0⟩ := HRB.out.cells
  rw [HF.out]
  rw [HK.out] at c1
  have HM0 := Lib.hid (show MapK (fun k : Int => .int .i64 k) (w2.alloc (.map #[] 0)) w2.heap.size (cntK ([] : List Int)) 0 from MapK.made w2)
  have HA2 := Lib.hid (show ∀ o1, Grow w2 (w2.alloc o1) from fun o1 => (Grow.rfl' w2).allocd o1)
  clear g2
  go_wp2_with fail
  clear hmm
  refine (HGA.out _ (HG2.out.step (HA2.out _))).2.mono ?_
  rintro e w3 ⟨v3, rfl, hn3, hg3⟩
  obtain ⟨ab, cb, rfl, hbl, hbc, hB⟩ := SlR.open hn3
  unfold maxLen at hbc
  have HE3 := Lib.hid hn3
  have hM3 := HM0.out.grow hg3
  have HM3 := Lib.hid hM3
  have hml3 := hM3.lt
  have h23 : w2.heap.size < w3.heap.size := hml3
  have HR3 := Lib.hid (HRB.out.grow ((HA2.out _).step hg3)); have HG3 := Lib.hid (HG2.out.step ((HA2.out _).step hg3))
  have HG23 := Lib.hid ((HA2.out _).step hg3)
  clear hn3 hg3 hB hM3 hrl c1 c2 c3 c4 c5 c6 c7 c0
  go_wp2
  go_loopg [116] E.length (fun g i wr => ∃ k : Nat, k ≤ E.length ∧ g = E.length - k ∧ i = .int .i64 k ∧ MapK (fun k : Int => .int .i64 k) wr w2.heap.size (cntK (fromsR r (E.take k))) k ∧ Mod (fun q => q = w2.heap.size) w3 wr)
  case atStart => exact ⟨0, by omega, by omega, rfl, HM3.out, Mod.rfl' _ w3⟩
  case round =>
    obtain ⟨k, hk, rfl, rfl, hm, hgr⟩ := hrel
    have HM := Lib.hid hm; have HGR := Lib.hid hgr
    have hml := hm.lt
    have hEr : EdgesR (fun b => (w2.alloc (.map #[] 0)).heap.size ≤ b) wr (.slice ab E.length cb) E := SlR.keep HE3.out (fun b hS hb => hgr.block b hb (by simp at hS; omega)) hgr.size (fun _ _ _ ⟨pv, hr, hp⟩ => ⟨pv, hr, hp.mod hgr (fun b hS => by simp at hS; omega)⟩)
    obtain ⟨_, _, hv, -, -, hA⟩ := SlR.open hEr
    simp only [Value.slice.injEq, true_and] at hv
    obtain ⟨rfl, rfl⟩ := hv
    have hrlt := blk_lt HRB.out
    have hrb := ruleMod HR3.out hgr (show ¬ w.heap.size = w2.heap.size by omega)
    have HRr := Lib.hid hrb
    clear hm hEr
    by_cases hkl : k < E.length
    · obtain ⟨ba, oa, ra, rfl, hSa, hba, hRa, hca⟩ := hA k E[k] (List.getElem?_eq_getElem hkl)
      obtain ⟨pva, hba', a0, a1, a2, a3, a4, hpa⟩ := hRa.at hba (Grow.rfl' wr) hca
      clear hca hRa hSa hba hA
      have HT := Lib.hid (show E.take (k + 1) = E.take k ++ [E[k]] from List.take_succ_eq_append_getElem hkl)
      generalize E[k] = x at *
      obtain ⟨_, _, rfl⟩ := hpa.isSlice
      obtain ⟨hrl, c1, c2, c3, c4, c5, c6, c7, c0⟩ := hrb.cells
      clear hpa hrb c1 c3 c4 c5 c6 c7 c0
      have HWR := Lib.hid (show ∀ o1, Grow wr (wr.alloc o1) from fun o1 => (Grow.rfl' wr).allocd o1)
      have HGN := Lib.hid (show ∀ o1, Mod (fun q => q = w2.heap.size) w3 (wr.alloc o1) from fun o1 => HGR.out.allocd o1)
      have HFS := Lib.hid (fromsR_snoc r (E.take k) x)
      clear hgr
      obtain ⟨bt, hbt⟩ : ∃ b, decide (x.typ = r.typ) = b := ⟨_, rfl⟩
      have HBT := Lib.hid hbt
      cases bt
      · go_wp2
        go_roundg (E.length - (k + 1))
        case measure => omega
        case rel =>
          refine ⟨k + 1, by omega, rfl, by go_num, ?_, HGN.out _⟩
          rw [HT.out, HFS.out, HBT.out, if_neg (by simp)]
          exact (HM.out.grow (HWR.out _)).mono (by omega)
      · have HCV := Lib.hid (cntK_getD (fromsR r (E.take k)) x.from_)
        have HST := Lib.hid (cntK_step1 (fromsR r (E.take k)) x.from_)
        have hcl : ((fromsR r (E.take k)).count x.from_ : Int) ≤ k := by
          have h1 := List.count_le_length (a := x.from_) (l := fromsR r (E.take k))
          have h2 := fromsR_len r (E.take k)
          rw [List.length_take] at h2
          omega
        have hwr : IntKind.i64.wrap (((fromsR r (E.take k)).count x.from_ : Int) + 1) = ((fromsR r (E.take k)).count x.from_ : Int) + 1 := by rw [IntKind.wrap_i64]; omega
        generalize (fromsR r (E.take k)).count x.from_ = c at *
        go_wp2_with (first
          | (at_lookup; go_must (refine wpList_lookK _ rfl (.tmp 125) (.tmp 127) 101 rfl 2 3 Tryz.underlying101 (keyK_int Tryz.underlying2) (.int .i64 0) (zeroIntV _) _ _ _ rfl (HM.out.grow (HWR.out _)) x.from_ rfl _ HCV.out ?_))
          | (at_mapUpdate; go_must (refine wpList_updK _ rfl (.tmp 125) (.tmp 127) (.tmp 129) 101 rfl 2 3 Tryz.underlying101 (keyK_int Tryz.underlying2) _ _ _ rfl (HM.out.grow (HWR.out _)) x.from_ rfl (.int .i64 ((c : Int) + 1)) (by first | rfl | (simp [hwr]; done) | go_num) ?_); intro w5 g1 _ g3 _; go_frame))
        rw [HST.out] at g1
        go_roundg (E.length - (k + 1))
        case measure => omega
        case rel =>
          refine ⟨k + 1, by omega, rfl, by go_num, ?_, (HGN.out _).step g3⟩
          rw [HT.out, HFS.out, HBT.out, if_pos rfl]
          exact g1
    · have hkk : E.take k = E := List.take_of_length_le (by omega)
      rw [hkk] at HM
      have HG := Lib.hid (show Grow w wr from HG3.out.modd hgr (fun q hq => by rw [hq]; omega))
      have hfl := fromsR_len r E
      have HCN := Lib.hid (cntK_wf (M := fromsR r E) (fun x hx => by
        unfold fromsR at hx
        obtain ⟨e, he, rfl⟩ := List.mem_map.1 hx
        exact H64.out e (List.mem_filter.1 he).1) (by have := HBD.out; omega))
      have HDEL := Lib.hid (show ∀ (W : World) (k c : Int), Mod (fun q => q = w2.heap.size) wr W → Calls Tryz.prog 55 (#[.int .i64 k, .int .i64 c] ++ #[.pointer (some ⟨w.heap.size, 0, none⟩)]) W fun e w' => e = .returned (.bool (decide (c ≤ r.n))) ∧ Grow W w' from
        fun W k c hm => brokenCut k c w.heap.size r W (ruleMod HRr.out hm (show ¬ w.heap.size = w2.heap.size by omega)))
      have HSZ := Lib.hid (show w.heap.size ≤ w2.heap.size by omega)
      clear hkk hA hgr hrb
      go_wp2_with fail
      refine (mapsDelete w2.heap.size k (cntK (fromsR r E)) (fun c => decide (c ≤ r.n)) 55 #[.pointer (some ⟨w.heap.size, 0, none⟩)] wr HM.out (by have := HBD.out; unfold maxLen; omega) HCN.out entBrok HDEL.out).mono ?_
      rintro e w6 ⟨rfl, h6, g6⟩
      have H6 := Lib.hid h6; have HG6 := Lib.hid (HG.out.modd g6 (fun q hq => by rw [hq]; exact HSZ.out))
      clear h6 g6
      go_wp2_with fail
      refine (mapsKeys w2.heap.size w6).mono ?_
      rintro e w7 ⟨rfl, rfl⟩
      go_wp2_with fail
      refine (slicesSorted w2.heap.size k _ w6 H6.out (by have := HBD.out; omega) (fun x hx => ?_)).mono ?_
      · have h := ((cntK_ffil _ _ x).1 hx).1
        have hxm : x ∈ fromsR r E := List.count_pos_iff.1 (by omega)
        unfold fromsR at hxm
        obtain ⟨e, he, rfl⟩ := List.mem_map.1 hxm
        exact H64.out e (List.mem_filter.1 he).1
      rintro e w8 ⟨v8, L, rfl, hL, hv8, hg8⟩
      have HR := Lib.hid (BrokPost.of (N := N) (E := E) (r := r) ⟨fun h => absurd h (by rw [HF.out]; simp), fun _ => by
        have hk4 := HK.out
        have hn0 := formR_most HF.out (by omega) (by omega) (by omega)
        unfold BrkR
        rw [if_neg (by omega), if_neg (by omega), if_neg (by omega)]
        refine hL.congr fun x => ?_
        rw [cntK_ffil, count_froms]
        simp only [decide_eq_false_iff_not]
        omega⟩ hv8 HG6.out hg8)
      clear hL hv8 hg8
      go_wp2
      go_ret
      exact HR.out
theorem checkBroken (gv : Value) (N : List PNode) (E : List PEdge) (r : PRule) (w : World) (hg : GAt gv N E w) (hgn : GNode gv N w) (hn : N.length ≤ 4096) (hb : E.length ≤ 4096) (h64 : ∀ e ∈ E, (Lit.int .i64 e.from_).wf = true) :
    Calls Tryz.prog 16 #[gv, r.args] w (BrokPost N E r w) := by
  cases hf : formR r with
  | false => exact brokenNo gv N E r w hf
  | true =>
    rcases formR_kind hf with hk | hk | hk | hk
    · exact brokenUniq gv N E r w hg (by omega) hf hk
    · exact brokenExists gv N E r w hg (by omega) hf hk
    · exact brokenEnds gv N E r w hg hgn (by omega) hf hk
    · exact brokenMost gv N E r w hg hb h64 hf hk
end Go.Hg

namespace Go.Hg
open Go.RowKit Go.Proofs

theorem rowRule : RowT Tryz.prog 24 8 96 := RowT.of infoRule rfl (by omega)
theorem ruleCells1 (x : PRule) : ∀ u ∈ x.cells, u.oneCell' = true := by
  intro u hu
  simp only [PRule.cells, List.mem_cons, List.not_mem_nil, or_false] at hu
  rcases hu with rfl | rfl | rfl | rfl | rfl | rfl | rfl | rfl <;> rfl

end Go.Hg

namespace Go.Hg
open Go.RowKit Go.Proofs

theorem firstR_filter (N : List PNode) (E : List PEdge) (l : List PRule) (p : PRule → Bool) : firstR N E (l.filter fun r => decide (r.state = 2) && p r) = firstR N E (l.filter p) := by
  have key : ∀ acc, (l.filter fun r => decide (r.state = 2) && p r).foldl (firstS N E) acc = (l.filter p).foldl (firstS N E) acc := by
    induction l with
    | nil => intro acc; rfl
    | cons r t ih =>
      intro acc
      by_cases h2 : p r = true
      · by_cases h1 : r.state = 2
        · rw [List.filter_cons_of_pos (by simp [h1, h2]), List.filter_cons_of_pos h2, List.foldl_cons, List.foldl_cons, ih]
        · rw [List.filter_cons_of_neg (by simp [h1]), List.filter_cons_of_pos h2, List.foldl_cons, ih]
          congr 1
          unfold firstS badR
          simp [h1]
      · rw [List.filter_cons_of_neg (by simp [h2]), List.filter_cons_of_neg h2, ih]
  exact key none
set_option maxRecDepth 100000 in
set_option maxHeartbeats 4000000 in
theorem checkCommit (S S2 : Nat → Prop) (gv : Value) (N : List PNode) (E : List PEdge) (nv ev rv iv nx lv : Value) (l : List PRule) (sp : List PSpot) (w : World) (hg : GAt gv N E w) (h64 : ∀ e ∈ E, (Lit.int .i64 e.from_).wf = true) (hl : SlR S w 8 RRule rv l) (hs : SpotsR S2 w lv sp) (hb : l.length ≤ 4096) (hwf : ∀ r ∈ l, (Lit.int .i64 r.id).wf = true)
    (hv : (∃ a n c, nv = .slice a n c) ∧ (∃ a n c, ev = .slice a n c) ∧ (∃ a n c, iv = .slice a n c) ∧ ∃ n, nx = .int .i64 n) :
    Calls Tryz.prog 30 #[.agg #[nv, ev, rv, iv, nx], gv, lv] w fun e w' => e = .returned (.tuple #[.int .i64 ((firstR N E (l.filter (touchR sp))).getD 0), .int .i64 (errR (firstR N E (l.filter (touchR sp))))]) ∧ Grow w w' := by
  obtain ⟨⟨an, nn, cn, rfl⟩, ⟨ae, ne, ce, rfl⟩, ⟨ai, ni, ci, rfl⟩, ⟨xn, rfl⟩⟩ := hv
  have HS := Lib.hid hs; have HBD := Lib.hid hb; have HWF := Lib.hid hwf; have HGA := Lib.hid hg; have H64 := Lib.hid h64
  obtain ⟨al, cl, rfl, hll, hlc, hL⟩ := SlR.open hl
  obtain ⟨_, _, rfl, _⟩ := SlR.open hs
  unfold maxLen at hlc
  have HL := Lib.hid hL
  have HW := Lib.hid (show ∀ o1, Grow w (w.alloc o1) from fun o1 => (Grow.rfl' w).allocd o1)
  have HFF := Lib.hid (firstR_filter N E l (touchR sp))
  clear hg h64 hs hl hb hL hwf
  go_enter Tryz.func30, Tryz.ntmps30
  go_wp2
  go_step3
  go_wp2
  go_step3
  go_wp2_with fail
  obtain ⟨W1, hW1⟩ : ∃ W1, w.alloc (.cells #[.slice an nn cn, .slice ae ne ce, .slice al l.length cl, .slice ai ni ci, .int .i64 xn] 52) = W1 := ⟨_, rfl⟩
  have HG1 := Lib.hid (show Grow w W1 from hW1 ▸ HW.out _)
  have HI0 := Lib.hid (OwnN.nil (e := 24) (sz := 8) (R := RRule) W1.heap.size W1)
  rw [hW1]
  clear hW1
  go_loopg [8, 14] l.length (fun g sv kv wr => ∃ k : Nat, k ≤ l.length ∧ g = l.length - k ∧ kv = .int .i64 k ∧ OwnN 24 8 RRule W1.heap.size wr sv ((l.take k).filter fun r => decide (r.state = 2) && touchR sp r) ∧ Grow W1 wr)
  case atStart => exact ⟨0, by omega, by omega, rfl, HI0.out, Grow.rfl' W1⟩
  case round =>
    obtain ⟨k, hk, rfl, rfl, hi, hg⟩ := hrel
    obtain ⟨oa, co, rfl, _, _⟩ := hi.isSlice
    have HI := Lib.hid hi; have HG := Lib.hid hg
    clear hi hg
    by_cases hkl : k < l.length
    · obtain ⟨ba, oa', ra, rfl, hSa, hba, hRa, hca⟩ := HL.out k l[k] (List.getElem?_eq_getElem hkl)
      have HX := Lib.hid (show ∀ w', Grow w w' → _ from fun w' g => ruleAt hRa hba g hca)
      have HT := Lib.hid (show l.take (k + 1) = l.take k ++ [l[k]] from List.take_succ_eq_append_getElem hkl)
      have HLE := Lib.hid (show ((l.take k).filter fun r => decide (r.state = 2) && touchR sp r).length ≤ l.length from Nat.le_trans (List.length_filter_le _ _) (by rw [List.length_take]; omega))
      have HRW := Lib.hid (HWF.out l[k] (List.getElem_mem hkl))
      clear hca hRa hSa hba
      generalize l[k] = r at *
      obtain ⟨hal, c0, c1, c2, c3, c4, c5, c6, c7⟩ := HX.out wr (HG1.out.step HG.out)
      obtain ⟨bt, hbt⟩ : ∃ b, (decide (r.state = 2) && touchR sp r) = b := ⟨_, rfl⟩
      have HBT := Lib.hid hbt
      generalize hfl : ((l.take k).filter fun r => decide (r.state = 2) && touchR sp r) = fl at *
      have HD := Lib.hid (show ((l.take (k + 1)).filter fun r => decide (r.state = 2) && touchR sp r) = if bt = true then fl ++ [r] else fl by
        rw [HT.out, List.filter_append, ← hfl, ← hbt]
        cases h : (decide (r.state = 2) && touchR sp r) <;> simp only [List.filter_cons, h, List.filter_nil, if_true, Bool.false_eq_true, if_false, List.append_nil])
      clear hfl hbt
      have HA1 := Lib.hid (show ∀ o1 o2, Grow wr ((wr.alloc o1).alloc o2) from fun o1 o2 => ((Grow.rfl' wr).allocd o1).allocd o2)
      have HR1 := Lib.hid (show ∀ o1, SlR (fun _ => True) ((wr.alloc o1).alloc (.cells r.cells.toArray 24)) 8 RRule (.slice (some ⟨wr.heap.size + 1, 0, none⟩) 1 1) [r] from fun o1 => rule1 (wr.alloc o1) r (by simp))
      have HRB := Lib.hid (fun w' => ruleBoxNew wr r w')
      go_wp2_with fail
      refine (dirtyConcerned (fun _ => True) S2 _ _ _ _ _ _ [r] sp _ (HR1.out _) (HS.out.grow ((HG1.out.step HG.out).step (HA1.out _ _))) (by simp) (fun q hq => by rw [List.mem_singleton] at hq; subst hq; exact HRW.out) ⟨⟨_, _, _, rfl⟩, ⟨_, _, _, rfl⟩, ⟨_, _, _, rfl⟩, ⟨_, rfl⟩⟩).mono ?_
      rintro e w4 ⟨v4, L, rfl, hL, hv4, g4⟩
      obtain ⟨_, _, rfl, _⟩ := SlR.open hv4
      have HG4 := Lib.hid ((HA1.out _ _).step g4)
      have hrb := HRB.out w4 (((Grow.rfl' _).allocd _).step g4)
      have HRBX := Lib.hid hrb
      have HLB := Lib.hid (show bt = false → L = [] from fun h => by
        rw [List.eq_nil_iff_forall_not_mem]
        intro y hy
        have h1 := (hL.2 y).1 hy
        unfold toldR at h1
        rw [List.filter_cons_of_neg (by rw [HBT.out, h]; simp)] at h1
        simp at h1)
      have HLB2 := Lib.hid (show bt = true → L ≠ [] from fun h e => by
        have h1 := (hL.2 r.id).2 (by unfold toldR; rw [List.filter_cons_of_pos (by rw [HBT.out, h])]; simp)
        rw [e] at h1
        simp at h1)
      have HI4 := Lib.hid (HI.out.grow HG4.out)
      have HGG := Lib.hid (HG.out.step HG4.out)
      clear hL hv4 g4 c0 c1 c2 c3 c4 c5 c6 c7 hal hrb
      cases bt
      · obtain rfl := HLB.out rfl
        go_wp2_with fail
        go_roundg (l.length - (k + 1))
        case measure => omega
        case rel => exact ⟨k + 1, by omega, rfl, by go_num, by rw [HD.out, if_neg (by simp)]; exact HI4.out, HGG.out⟩
      · cases L with
        | nil => exact absurd rfl (HLB2.out rfl)
        | cons y t =>
          have hne : ((((y :: t).length : Nat) : Int) == 0) = false := by rw [int_beq]; exact decide_eq_false (by simp; omega)
          have hne2 : ((y :: t).length == 0) = false := by simp
          have hlen : (y :: t).length = t.length + 1 := rfl
          obtain ⟨hrl, c1, c2, c3, c4, c5, c6, c7, c0⟩ := HRBX.out.cells
          have HE := Lib.hid (show ∀ o1, Grow W1 (w4.alloc o1) ∧ OwnN 24 8 RRule W1.heap.size (w4.alloc o1) (.slice oa fl.length co) fl from fun o1 => ⟨HGG.out.allocd o1, HI4.out.grow ((Grow.rfl' w4).allocd o1)⟩)
          have hzs := HGG.out.size
          clear hlen
          go_wp2_with (at_builtin; go_must (refine wpList_append_R rfl (.tmp 25) (.tmp 27) 49 rfl rowRule Tryz.underlying49 W1.heap.size _ fl rfl (HE.out _).2 r r.cells rfl rfl (ruleCells1 r) _ rfl (rdK _ _ _ 8 rfl (by simp)) (by simp; omega) (by have := HLE.out; have := HBD.out; unfold maxLen; omega) (by have := HLE.out; have := HBD.out; omega) ?_))
          intro v5 w5 k1 k2 k3
          have H5 := Lib.hid k1; have HG5 := Lib.hid ((HE.out _).1.since k2 (Nat.le_refl _))
          clear k1 k2 k3
          go_wp2
          go_roundg (l.length - (k + 1))
          case measure => omega
          case rel => exact ⟨k + 1, by omega, rfl, by go_num, by rw [HD.out, if_pos (by simp)]; exact H5.out, HG5.out⟩
    · have hkk : l.take k = l := List.take_of_length_le (by omega)
      rw [hkk] at HI
      simp only [hkk]
      clear hkk
      generalize hfl : (l.filter fun r => decide (r.state = 2) && touchR sp r) = fl at *
      have HFL := Lib.hid hfl
      clear hfl
      go_wp2_with fail
      refine (checkFirst gv N E fl _ wr _ (HGA.out.grow (HG1.out.step HG.out)) HI.out.toR H64.out).mono ?_
      rintro e w5 ⟨rfl, g5⟩
      have HG5 := Lib.hid ((HG1.out.step HG.out).step g5)
      clear g5
      go_wp2
      rw [Exit.noGoto_ret]
      go_ret2
      exact ⟨by rw [← HFF.out]; rfl, HG5.out⟩
end Go.Hg

namespace Go.Hg
open Go.RowKit Go.Proofs

def sB : ByteArray := ⟨#[98]⟩
def w21r5 : PRule := ⟨5, 2, sCity, sA, ByteArray.empty, ByteArray.empty, 0, 2⟩
def w21r3 : PRule := ⟨3, 2, sCity, sB, ByteArray.empty, ByteArray.empty, 0, 2⟩
theorem w21_first : firstR wG1.nodes wG1.edges [w21r5, w21r3] = some 3 := by decide
theorem w21_brok : BrokenR wG1.nodes wG1.edges w21r5 [1] := ⟨fun h => absurd h (by decide), fun _ => by unfold BrkR; rw [if_neg (by decide), if_pos (by decide)]; decide⟩
set_option maxRecDepth 100000 in
set_option maxHeartbeats 4000000 in
theorem law21Wakes (w : World) : Calls Tryz.prog 14 #[] w fun e w' => e = .returned (.bool true) ∧ Grow w w' := by
  have HO1 := Lib.hid (opsLit1 w wo1 rfl)
  have HW := Lib.hid (show ∀ o1, Grow w (w.alloc o1) from fun o1 => (Grow.rfl' w).allocd o1)
  go_enter Tryz.func14, Tryz.ntmps14
  go_wp2_with fail
  refine (lawMade _ _ [wo1] _ HO1.out).mono ?_
  rintro e w2 h2
  obtain ⟨-, B1, B2, rfl, hpr⟩ : fairOps [wo1] = true ∧ ∃ (B1 B2 : Nat), e = .returned (.tuple #[.pointer (some ⟨B1, 0, none⟩), .pointer (some ⟨B2, 0, none⟩), .bool true]) ∧ Pair 120 55 _ w2 B1 B2 (madeG [wo1]) (madeG [wo1]) := by
    rcases h2 with ⟨h, _⟩ | h
    · rw [w21_fair] at h; cases h
    · exact h
  rw [w21_made] at hpr
  have HG2 := Lib.hid ((HW.out _).step hpr.grown)
  obtain ⟨S1, hok⟩ := hpr.left
  have HGA := Lib.hid (gAt_of hok.rd wi1); have HGN := Lib.hid (gNode_of hok.rd wi1)
  have HRL := Lib.hid (rulesLit w2 [w21r5, w21r3] (by simp [maxLen]) rfl)
  have HA2 := Lib.hid (show ∀ o1 o2, Grow w2 ((w2.alloc o1).alloc o2) from fun o1 o2 => ((Grow.rfl' w2).allocd o1).allocd o2)
  have HNB := Lib.hid (show ∀ o1 o2 w', Grow ((w2.alloc o1).alloc o2) w' → w'.heap[w2.heap.size]? = some o1 ∧ w'.heap[w2.heap.size + 1]? = some o2 from fun o1 o2 w' g => by
    have h2 := heap_alloc_new (w2.alloc o1) o2
    rw [World.size_alloc] at h2
    exact ⟨(g.heapEq (by simp; omega)).trans ((((Grow.rfl' (w2.alloc o1)).allocd o2).heapEq (by simp)).trans (heap_alloc_new w2 o1)), (g.heapEq (by simp)).trans h2⟩)
  clear hpr hok h2
  go_wp2_with fail
  refine (checkWhole _ _ _ [w21r5, w21r3] _ _ _ _ _ _ _ (HGA.out.grow (HA2.out _ _)) (HRL.out.growS ((Grow.rfl' _).allocd _)) (by decide) ⟨⟨_, _, _, rfl⟩, ⟨_, _, _, rfl⟩, ⟨_, _, _, rfl⟩, ⟨_, rfl⟩⟩).mono ?_
  rintro e w3 ⟨rfl, g3⟩
  rw [w21_first]
  have HG3 := Lib.hid ((HA2.out _ _).step g3)
  obtain ⟨hn0, hn1⟩ := HNB.out _ _ w3 g3
  have hl1 := blk_lt hn1
  have d0 : w3.cell? ⟨w2.heap.size + 1, 0, none⟩ = some (.slice none 0 0) := (blk_cell hn1 _).trans rfl
  have d1 : w3.cell? ⟨w2.heap.size + 1, 1, none⟩ = some (.slice none 0 0) := (blk_cell hn1 _).trans rfl
  have d2 : w3.cell? ⟨w2.heap.size + 1, 2, none⟩ = some (.slice (some ⟨w2.heap.size, 0, none⟩) 2 2) := (blk_cell hn1 _).trans rfl
  have d3 : w3.cell? ⟨w2.heap.size + 1, 3, none⟩ = some (.slice none 0 0) := (blk_cell hn1 _).trans rfl
  have d4 : w3.cell? ⟨w2.heap.size + 1, 4, none⟩ = some (.int .i64 0) := (blk_cell hn1 _).trans rfl
  have HN0 := Lib.hid hn0; have HN1 := Lib.hid hn1
  have HRL3 := Lib.hid ((HRL.out.growS ((Grow.rfl' _).allocd _)).growS g3)
  clear g3 hn0 hn1
  go_wp2_with fail
  refine (checkCommit _ (fun _ => True) _ _ _ _ _ _ _ _ (.slice none 0 0) [w21r5, w21r3] [] w3 (HGA.out.grow HG3.out) (by decide) HRL3.out ⟨none, 0, [], rfl, Nat.le_refl _, by simp [maxLen], rfl, by simp, by simp⟩ (by decide) (by decide) ⟨⟨_, _, _, rfl⟩, ⟨_, _, _, rfl⟩, ⟨_, _, _, rfl⟩, ⟨_, rfl⟩⟩).mono ?_
  rintro e w4 ⟨rfl, g4⟩
  have HG4 := Lib.hid (HG3.out.step g4)
  have hn0 := (g4.heapEq (blk_lt HN0.out)).trans HN0.out
  have hn1 := (g4.heapEq (blk_lt HN1.out)).trans HN1.out
  have hl1 := blk_lt hn1
  have hl0 := blk_lt hn0
  have e2 : w4.cell? ⟨w2.heap.size + 1, 2, none⟩ = some (.slice (some ⟨w2.heap.size, 0, none⟩) 2 2) := (blk_cell hn1 _).trans rfl
  have f0 : w4.cell? ⟨w2.heap.size, 0, none⟩ = some (.int .i64 5) := (blk_cell hn0 _).trans rfl
  have f1 : w4.cell? ⟨w2.heap.size, 1, none⟩ = some (.int .i64 2) := (blk_cell hn0 _).trans rfl
  have f2 : w4.cell? ⟨w2.heap.size, 2, none⟩ = some (.string sCity) := (blk_cell hn0 _).trans rfl
  have f3 : w4.cell? ⟨w2.heap.size, 3, none⟩ = some (.string sA) := (blk_cell hn0 _).trans rfl
  have f4 : w4.cell? ⟨w2.heap.size, 4, none⟩ = some (.string ByteArray.empty) := (blk_cell hn0 _).trans rfl
  have f5 : w4.cell? ⟨w2.heap.size, 5, none⟩ = some (.string ByteArray.empty) := (blk_cell hn0 _).trans rfl
  have f6 : w4.cell? ⟨w2.heap.size, 6, none⟩ = some (.int .i64 0) := (blk_cell hn0 _).trans rfl
  have f7 : w4.cell? ⟨w2.heap.size, 7, none⟩ = some (.int .i64 2) := (blk_cell hn0 _).trans rfl
  clear g4 hn0 hn1 d0 d1 d2 d3 d4
  go_wp2_with fail
  refine (checkBroken _ _ _ w21r5 w4 (HGA.out.grow HG4.out) (HGN.out.grow HG4.out) (by decide) (by decide) (by decide)).mono ?_
  rintro e w5 ⟨v5, L, rfl, hL, hv5, g5⟩
  obtain rfl : L = [1] := hL.uniq w21_brok
  obtain ⟨a5, c5, rfl, _, _, hA⟩ := SlR.open hv5
  obtain ⟨b5, o5, r5, rfl, -, hb5, rfl, hc⟩ := hA 0 1 rfl
  have k0 : w5.cell? ⟨b5, o5, none⟩ = some (.int .i64 1) := by simpa using hc 0 _ rfl
  have HG5 := Lib.hid (HG2.out.step (HG4.out.step g5))
  clear hL hv5 g5 hA hc e2 f0 f1 f2 f3 f4 f5 f6 f7
  go_wp2
  go_ret
  exact ⟨rfl, HG5.out⟩
end Go.Hg

namespace Go.Hg
open Go.RowKit Go.Proofs

theorem firstR_kept (N : List PNode) (E : List PEdge) (l : List PRule) (p : PRule → Bool) (h : ∀ r ∈ l, p r = false → r.state = 2 → keepR N E r = true) : firstR N E l = firstR N E (l.filter p) := by
  have key : ∀ acc, l.foldl (firstS N E) acc = (l.filter p).foldl (firstS N E) acc := by
    induction l with
    | nil => intro acc; rfl
    | cons r t ih =>
      intro acc
      have ih' := ih (fun x hx => h x (.tail _ hx))
      by_cases hp : p r = true
      · rw [List.filter_cons_of_pos hp, List.foldl_cons, List.foldl_cons, ih']
      · rw [List.filter_cons_of_neg hp, List.foldl_cons, ih']
        congr 1
        have hp' : p r = false := by simpa using hp
        unfold firstS badR
        by_cases hs : r.state = 2
        · rw [h r (.head _) hp' hs]; simp
        · simp [hs]
  exact key none
theorem firstS_none {N : List PNode} {E : List PEdge} {l : List PRule} {acc : Option Int} (h : l.foldl (firstS N E) acc = none) : acc = none ∧ ∀ r ∈ l, badR N E r = false := by
  induction l generalizing acc with
  | nil => exact ⟨h, fun r hr => by cases hr⟩
  | cons a t ih =>
    rw [List.foldl_cons] at h
    obtain ⟨h1, h2⟩ := ih h
    unfold firstS at h1
    by_cases hb : badR N E a = true
    · rw [if_pos hb] at h1
      split at h1
      · cases h1
      · split at h1 <;> cases h1
    · rw [if_neg hb] at h1
      refine ⟨h1, fun r hr => ?_⟩
      rcases List.mem_cons.1 hr with rfl | hr
      · simpa using hb
      · exact h2 r hr
theorem enough_eq {G : PGraph} {rules : List PRule} {l : List POp} {L : List PSpot} (hG : GInv G) (h0 : firstR G.nodes G.edges rules = none) (hL : SpSet L (spotsG G l)) :
    firstR (runG G l).nodes (runG G l).edges rules = firstR (runG G l).nodes (runG G l).edges (rules.filter (touchR L)) := by
  refine firstR_kept _ _ _ _ fun r hr ht hs => ?_
  have hb := (firstS_none h0).2 r hr
  unfold badR at hb
  rw [decide_eq_true hs, Bool.true_and, Bool.not_eq_false'] at hb
  unfold keepR at hb ⊢
  rw [Bool.and_eq_true] at hb ⊢
  exact ⟨hb.1, hold_run hG hb.1 l (by rw [← hL.touch r]; exact ht) hb.2⟩

set_option maxRecDepth 100000 in
set_option maxHeartbeats 16000000 in
theorem law21Enough (T1 T2 T3 : Nat → Prop) (nv ev rv iv : Value) (c : PCat) (v1 v2 : Value) (l1 l2 : List POp) (w : World) (hc : CatR T1 w nv ev rv iv c) (hl1 : OpsR T2 w v1 l1) (hl2 : OpsR T3 w v2 l2) (hwf : ∀ r ∈ c.rules, (Lit.int .i64 r.id).wf = true) :
    Calls Tryz.prog 11 #[c.arg nv ev rv iv, v1, v2] w fun e w' => e = .returned (.bool true) ∧ Grow w w' := by
  have HC := Lib.hid hc; have HL1 := Lib.hid hl1; have HL2 := Lib.hid hl2; have HWF := Lib.hid hwf
  obtain ⟨na, nc, ea, ec, ra, rc, ia, ic, rfl, rfl, rfl, rfl⟩ := hc.slices
  obtain ⟨_, _, hraE, hrle, hrcm, hRA⟩ := SlR.open hc.2.2.1
  simp only [Value.slice.injEq, true_and] at hraE
  obtain ⟨rfl, rfl⟩ := hraE
  obtain ⟨_, _, rfl, -, -, -⟩ := SlR.open hl1
  obtain ⟨aL, cL, rfl, hLc, hLm, hA2⟩ := SlR.open hl2
  unfold maxLen at hLm hrcm
  have HA2 := Lib.hid hA2; have HRA := Lib.hid hRA
  have HW0 := Lib.hid (show ∀ o1, Grow w (w.alloc o1) from fun o1 => (Grow.rfl' w).allocd o1)
  have HBX := Lib.hid (show ∀ w', Grow (w.alloc (.cells #[.slice na c.nodes.length nc, .slice ea c.edges.length ec, .slice ra c.rules.length rc, .slice ia c.indexes.length ic, .int .i64 c.nextRule] 52)) w' → w'.heap[w.heap.size]? = some (.cells #[.slice na c.nodes.length nc, .slice ea c.edges.length ec, .slice ra c.rules.length rc, .slice ia c.indexes.length ic, .int .i64 c.nextRule] 52 (0, 0)) from fun w' g => by rw [g.heapEq (by simp)]; exact heap_alloc_new w _)
  clear hc hl1 hl2 hwf hA2 hRA
  go_enter Tryz.func11, Tryz.ntmps11
  go_wp2_with fail
  refine (lawMade T2 _ l1 _ (HL1.out.growS (HW0.out _))).mono ?_
  intro e w2 h2
  rcases h2 with ⟨-, rfl, g2⟩ | ⟨-, B1, B2, rfl, hpr⟩
  · have HG2 := Lib.hid (Grow.step (HW0.out _) g2)
    clear g2
    go_wp2_with fail
    refine (law21Wakes w2).mono ?_
    rintro e w3 ⟨rfl, gz⟩
    have HGZ := Lib.hid (HG2.out.step gz)
    clear gz
    go_wp2
    go_ret
    exact ⟨rfl, HGZ.out⟩
  have hmo := madeOk l1
  generalize madeG l1 = G at *
  have HMO := Lib.hid hmo
  obtain ⟨S1, S2, hok1, hok2, -, hs1, hs2, g2⟩ := hpr
  have HOK1 := Lib.hid hok1; have HOK2 := Lib.hid hok2
  have HG2 := Lib.hid (Grow.step (HW0.out _) g2)
  have HSB := Lib.hid (show ∀ b, S1 b → w.heap.size + 1 ≤ b from fun b hb => by have := (hs1 b hb).1; simpa using this)
  have HS1B := Lib.hid (show ∀ b, S1 b → b < w2.heap.size from fun b hb => (hs1 b hb).2)
  have HCB2 := Lib.hid (HBX.out w2 g2)
  clear hmo hok1 hok2 hs1 hs2 g2
  have HC2 := Lib.hid (show ∀ w', Grow w2 w' → CatCell w' w.heap.size (.slice na c.nodes.length nc) (.slice ea c.edges.length ec) (.slice ra c.rules.length rc) (.slice ia c.indexes.length ic) c from fun w' g => catCellAt HCB2.out g)
  clear HBX
  obtain ⟨q, d0, d1, d2, d3, d4⟩ := HC2.out w2 (Grow.rfl' _)
  go_wp2_with fail
  refine (keepLargeCat T1 _ _ _ _ c w2 (HC.out.grow HG2.out)).mono ?_
  rintro e w3 ⟨bl, rfl, hlen, g3⟩
  have HLC := Lib.hid hlen; have HG23' := Lib.hid g3; have HG3' := Lib.hid (HG2.out.step g3)
  clear hlen g3 q d0 d1 d2 d3 d4
  cases bl
  rotate_left 1
  · go_wp2_with fail
    refine (law21Wakes w3).mono ?_
    rintro e w4 ⟨rfl, gz⟩
    have HGZ := Lib.hid (HG3'.out.step gz)
    clear gz
    go_wp2
    go_ret
    exact ⟨rfl, HGZ.out⟩
  have HLE := Lib.hid (HLC.out rfl)
  clear HLC
  go_wp2_with fail
  refine (lawFair _ _ l2 w3 (HL2.out.growS HG3'.out)).mono ?_
  rintro e w5 ⟨rfl, g5⟩
  have HG25 := Lib.hid (HG23'.out.step g5); have HG5 := Lib.hid (HG3'.out.step g5)
  clear g5
  cases hf : fairOps l2
  · clear hf
    go_wp2_with fail
    refine (law21Wakes w5).mono ?_
    rintro e w6 ⟨rfl, gz⟩
    have HGZ := Lib.hid (HG5.out.step gz)
    clear gz
    go_wp2
    go_ret
    exact ⟨rfl, HGZ.out⟩
  clear hf
  by_cases h60 : 60 < l2.length
  · have hb60 : decide ((60 : Int) < (l2.length : Int)) = true := by simp; omega
    clear h60
    go_wp2_with fail
    refine (law21Wakes w5).mono ?_
    rintro e w6 ⟨rfl, gz⟩
    have HGZ := Lib.hid (HG5.out.step gz)
    clear gz
    go_wp2
    go_ret
    exact ⟨rfl, HGZ.out⟩
  have hb60 : decide ((60 : Int) < (l2.length : Int)) = false := by simp; omega
  have HLEN := Lib.hid (show l2.length ≤ 60 by omega)
  clear h60
  go_wp2
  go_loopg [10] c.rules.length (fun g iv wr => ∃ i : Nat, i ≤ c.rules.length ∧ g = c.rules.length - i ∧ iv = .int .i64 i ∧ (∀ r ∈ c.rules.take i, formR r = true) ∧ Grow w5 wr)
  case atStart => exact ⟨0, by omega, by omega, rfl, by simp, Grow.rfl' _⟩
  case round =>
    obtain ⟨i, hi, rfl, rfl, hfm, hgr⟩ := hrel
    have HFM := Lib.hid hfm; have HGR := Lib.hid hgr
    obtain ⟨q, d0, d1, d2, d3, d4⟩ := HC2.out wr (HG25.out.step hgr)
    clear hfm hgr
    by_cases hil : i < c.rules.length
    · obtain ⟨br, or_, rr, rfl, -, hbr, hRr, hcr⟩ := HRA.out i c.rules[i] (List.getElem?_eq_getElem hil)
      obtain ⟨hal, c0, c1, c2, c3, c4, c5, c6, c7⟩ := ruleAt hRr hbr (HG5.out.step HGR.out) hcr
      have HT := Lib.hid (show c.rules.take (i + 1) = c.rules.take i ++ [c.rules[i]] from List.take_succ_eq_append_getElem hil)
      clear hRr hbr hcr
      generalize c.rules[i] = r at *
      obtain ⟨bf, hbf⟩ : ∃ b, formR r = b := ⟨_, rfl⟩
      have HBF := Lib.hid hbf
      clear hbf
      go_wp2_with fail
      refine (refForm r wr).mono ?_
      rintro e w6 ⟨rfl, g6⟩
      rw [HBF.out]
      have HG6 := Lib.hid (HGR.out.step g6)
      clear g6 hal c0 c1 c2 c3 c4 c5 c6 c7 q d0 d1 d2 d3 d4
      cases bf
      · go_wp2_with fail
        refine (law21Wakes w6).mono ?_
        rintro e w7 ⟨rfl, gz⟩
        have HGZ := Lib.hid (HG5.out.step (HG6.out.step gz))
        clear gz
        go_wp2
        go_ret
        exact ⟨rfl, HGZ.out⟩
      · go_wp2
        go_roundg (c.rules.length - (i + 1))
        case measure => omega
        case rel => exact ⟨i + 1, by omega, rfl, by go_num, by rw [HT.out]; intro x hx; rcases List.mem_append.1 hx with h | h; exact HFM.out x h; simp at h; subst h; exact HBF.out, HG6.out⟩
    · have hkk : c.rules.take i = c.rules := List.take_of_length_le (by omega)
      rw [hkk] at HFM
      clear hkk HFM
      go_wp2_with fail
      refine (ref21Whole S2 T1 B2 G _ _ _ _ _ c.rules wr (HOK2.out.grow (HG25.out.step HGR.out)) (HC.out.2.2.1.growS (HG5.out.step HGR.out)) (by have := HMO.out.1.items; omega) (by have := HMO.out.1.items; omega) ⟨⟨_, _, _, rfl⟩, ⟨_, _, _, rfl⟩, ⟨_, _, _, rfl⟩, ⟨_, rfl⟩⟩).mono ?_
      rintro e w6 ⟨rfl, g6⟩
      have HG6 := Lib.hid (HG5.out.step (HGR.out.step g6)); have HG26 := Lib.hid (HG25.out.step (HGR.out.step g6))
      clear g6 q d0 d1 d2 d3 d4
      cases hF : firstR G.nodes G.edges c.rules with
      | some fr =>
        have he : errR (some fr) = 210 := rfl
        rw [he]
        clear he hF
        go_wp2_with fail
        refine (law21Wakes w6).mono ?_
        rintro e w7 ⟨rfl, gz⟩
        have HGZ := Lib.hid (HG6.out.step gz)
        clear gz
        go_wp2
        go_ret
        exact ⟨rfl, HGZ.out⟩
      | none =>
        have HF0 := Lib.hid hF
        have he : errR (none : Option Int) = 0 := rfl
        rw [he]
        clear he hF
        have HA6 := Lib.hid (show ∀ o1, Grow w (w6.alloc o1) ∧ Grow w6 (w6.alloc o1) from fun o1 => ⟨HG6.out.allocd o1, (Grow.rfl' w6).allocd o1⟩)
        go_wp2_with (at_builtin; go_must (refine wpList_append_L rfl (.tmp 67) (.tmp 68) 22 rfl rowOp Tryz.underlying22 w6.heap.size _ rfl _ rfl l2 (HL2.out.growS (HA6.out _).1) ropOk (by simp) (by have := HLEN.out; unfold maxLen; omega) (by have := HLEN.out; omega) ?_))
        intro v7 w7 hown7 g7
        obtain ⟨_, _, rfl, -, -⟩ := hown7.isSlice
        have HIN := Lib.hid hown7.toR
        have HG7 := Lib.hid ((HA6.out _).1.step g7); have HG27 := Lib.hid (HG26.out.step ((HA6.out _).2.step g7))
        clear hown7 g7
        go_wp2_with fail
        refine (dirtySpots S1 _ B1 G _ l2 w7 (HOK1.out.grow HG27.out) HMO.out.1 HIN.out HLEN.out (by have := HMO.out.2.2.2; omega)).mono ?_
        rintro e w8 ⟨v8, L, rfl, hS8, hv8, g8⟩
        have HSL := Lib.hid hS8; have HVS := Lib.hid hv8
        obtain ⟨_, _, rfl, -, -, -⟩ := SlR.open hv8
        obtain ⟨W0, hw0⟩ : ∃ W0, W0 = w8 := ⟨_, rfl⟩
        subst hw0
        have HG0 := Lib.hid (HG7.out.step g8); have HG20 := Lib.hid (HG27.out.step g8)
        have HSZ6 := Lib.hid (show w2.heap.size ≤ w7.heap.size from HG27.out.size)
        have HC0 := Lib.hid (show ∀ w', Grow W0 w' → CatCell w' w.heap.size (.slice na c.nodes.length nc) (.slice ea c.edges.length ec) (.slice ra c.rules.length rc) (.slice ia c.indexes.length ic) c from fun w' g => HC2.out w' (HG20.out.step g))
        have HCB0 := Lib.hid ((HG20.out.heapEq (blk_lt HCB2.out)).trans HCB2.out)
        have HGPs := Lib.hid (show GraphP (fun b => S1 b ∨ W0.heap.size ≤ b) W0 B1 (runG G (l2.take 0)) from ⟨S1, HOK1.out.grow HG20.out, fun b hb => .inl hb⟩)
        clear hS8 hv8 g8 HC2
        obtain ⟨wo2, hwo2⟩ : ∃ wo2, wo2 = wr := ⟨_, rfl⟩
        subst hwo2
        go_wp2
        go_loopg [14] (l2.length) (fun g iv wr => ∃ j : Nat, j ≤ l2.length ∧ g = l2.length - j ∧ iv = .int .i64 j ∧ GraphP (fun b => S1 b ∨ W0.heap.size ≤ b) wr B1 (runG G (l2.take j)) ∧ Mod (fun b => S1 b ∨ W0.heap.size ≤ b) W0 wr)
        case atStart => exact ⟨0, by omega, by omega, rfl, HGPs.out, Mod.rfl' _ _⟩
        case round =>
          obtain ⟨j, hj, rfl, rfl, hgp, hgr⟩ := hrel
          have HGP := Lib.hid hgp; have HMR := Lib.hid hgr
          clear hgp hgr
          by_cases hjl : j < l2.length
          · have hjl2 : j < l2.length := by exact hjl
            obtain ⟨ba, oa, ra, rfl, -, hba, hRa, hca⟩ := HA2.out j l2[j] (List.getElem?_eq_getElem hjl2)
            have HS := Lib.hid (show ∀ w', Mod (fun b => S1 b ∨ W0.heap.size ≤ b) wr w' → OpC w' ba (oa + j * 10) l2[j] from fun w' g => opcMod (opCells hRa hba HG0.out hca).2 (HMR.out.step g) (Nat.lt_of_lt_of_le hba HG0.out.size) (fun h => h.elim (fun h => by have := HSB.out ba h; omega) (fun h => by have := HG0.out.size; omega)))
            have HRN := Lib.hid (show runG G (l2.take (j + 1)) = stepG (catO l2[j]) l2[j] (runG G (l2.take j)) by rw [List.take_succ_eq_append_getElem hjl2, runG_snoc])
            have HIK := Lib.hid (runG_inv HMO.out.1 (l2.take j))
            have HSW := Lib.hid (show W0.heap.size ≤ wr.heap.size from HMR.out.size)
            have hj0 : (0 : Int) ≤ (j : Int) := by omega
            have hj1 : (j : Int) < (l2.length : Int) := by omega
            have c2 := (HS.out wr (Mod.rfl' _ _)).2.2.1
            have hbal := cell_lt c2
            clear hRa hba hca
            generalize l2[j] = o at *
            generalize runG G (l2.take j) = Gj at *
            obtain ⟨wo, hwo⟩ : ∃ wo, wo = wr := ⟨_, rfl⟩
            subst hwo
            have HD := Lib.hid (show Grow wo wo.drew from (Grow.rfl' wo).drewd)
            have HS2 := Lib.hid (show ∀ w', Grow wo w' → OpC w' ba (oa + j * 10) o from fun w' g => HS.out w' (Mod.of_grow g))
            clear c2 hbal
            go_wp2_with fail
            have HSX := Lib.hid (show ∀ w', Grow wo w' → ∀ b, w'.heap.size ≤ b → (S1 b ∨ W0.heap.size ≤ b) from fun w' g b hb => .inr (by have := HSW.out; have := g.size; omega))
            have HKP := Lib.hid (show ∀ w' wd, Grow wo w' → Mod (fun b => (S1 b ∨ W0.heap.size ≤ b) ∧ b < wo.heap.size) w' wd → OpC wd ba (oa + j * 10) o ∧ Mod (fun b => S1 b ∨ W0.heap.size ≤ b) W0 wd from fun w' wd g m => ⟨HS.out wd ((Mod.of_grow g).step (m.mono (fun b hb => hb.1))), HMR.out.step ((Mod.of_grow g).step (m.mono (fun b hb => hb.1)))⟩)
            go_region_held3 (fun w' => OpC w' ba (oa + j * 10) o) (first | exact HKD.out.1 | exact HS2.out _ (by repeat first | exact Grow.rfl' _ | apply Grow.drewd | apply Grow.allocd)) (first | (go_at_call 22; (first | refine (doP (fun b => S1 b ∨ W0.heap.size ≤ b) _ B1 Gj _ _ _ _ (catO o) o wo _ HGP.out (by repeat first | exact Grow.rfl' _ | apply Grow.drewd | apply Grow.allocd) (HSX.out _ (by repeat first | exact Grow.rfl' _ | apply Grow.drewd | apply Grow.allocd)) HIK.out (by first | exact catOf (W := wo) (boxAt0 wo _ _) (boxAt1 wo _ _) (by omega) (by omega) | exact catOf (W := wo) (boxAt1 wo _ _) (boxAt0 wo _ _) (by omega) (by omega))).mono ?_); rintro e wd ⟨rfl, hgd, hmd⟩; generalize (if mayG (catO o) o Gj = 0 then idG o Gj else 0) = rid; generalize mayG (catO o) o Gj = rer; have HGD := Lib.hid hgd; have HKD := Lib.hid (HKP.out _ wd (by repeat first | exact Grow.rfl' _ | apply Grow.drewd | apply Grow.allocd) hmd); clear hgd hmd))
            all_goals go_wp2
            all_goals go_roundg (l2.length - (j + 1))
            all_goals first | omega | exact ⟨j + 1, by omega, rfl, by go_num, by rw [HRN.out]; exact HGD.out, HKD.out.2⟩
          · obtain rfl : j = l2.length := by omega
            have hjend : l2.take l2.length = l2 := List.take_length
            rw [hjend] at HGP
            clear hjl
            obtain ⟨SX, hokx, -⟩ := HGP.out
            have hix := runG_inv HMO.out.1 l2
            have HGA := Lib.hid (gAt_of hokx.rd hix)
            have H64 := Lib.hid (ends_wf hix (ends_run (ends_good HMO.out.2.1) l2))
            have HGW := Lib.hid (show Grow w wr from HG0.out.modd HMR.out (fun b hb => hb.elim (fun h => by have := HSB.out b h; omega) (fun h => Nat.le_trans HG0.out.size h)))
            have HCW := Lib.hid (show ∀ w', Grow wr w' → CatCell w' w.heap.size (.slice na c.nodes.length nc) (.slice ea c.edges.length ec) (.slice ra c.rules.length rc) (.slice ia c.indexes.length ic) c from fun w' g => by
              have h : wr.heap[w.heap.size]? = W0.heap[w.heap.size]? := HMR.out.block _ (HC0.out W0 (Grow.rfl' _)).1 (fun h => h.elim (fun h => by have := HSB.out _ h; omega) (fun h => by have := (HC0.out W0 (Grow.rfl' _)).1; omega))
              exact catCellAt (h.trans HCB0.out) g)
            have HVL := Lib.hid (SlR.modS HVS.out.cut HMR.out (fun b hb h => h.elim (fun h => by have h1 := HS1B.out b h; have h2 := HSZ6.out; have h3 := hb.1; omega) (fun h => by have h3 := hb.2; omega)))
            clear hokx hix
            obtain ⟨q, d0, d1, d2, d3, d4⟩ := HCW.out wr (Grow.rfl' _)
            go_wp2_with fail
            refine (keepCopyCat T1 _ _ _ _ c wr (HC.out.grow HGW.out) HLE.out).mono ?_
            rintro e x1 ⟨nv', ev', rv', iv', rfl, hc', g1⟩
            have HCp := Lib.hid hc'
            obtain ⟨na', nc', ea', ec', ra', rc', ia', ic', rfl, rfl, rfl, rfl⟩ := hc'.slices
            have HX1 := Lib.hid g1
            clear hc' g1 q d0 d1 d2 d3 d4
            go_wp2_with fail
            refine (checkWhole _ _ _ c.rules _ _ _ _ _ x1 _ (HGA.out.grow HX1.out) HCp.out.2.2.1 H64.out ⟨⟨_, _, _, rfl⟩, ⟨_, _, _, rfl⟩, ⟨_, _, _, rfl⟩, ⟨_, rfl⟩⟩).mono ?_
            rintro e x2 ⟨rfl, g2⟩
            have HX2 := Lib.hid (HX1.out.step g2)
            clear g2
            obtain ⟨q, d0, d1, d2, d3, d4⟩ := HCW.out x2 HX2.out
            go_wp2_with fail
            refine (keepCopyCat T1 _ _ _ _ c x2 (HC.out.grow (HGW.out.step HX2.out)) HLE.out).mono ?_
            rintro e x3 ⟨nv2, ev2, rv2, iv2, rfl, hc', g3⟩
            have HCp2 := Lib.hid hc'
            obtain ⟨na2, nc2, ea2, ec2, ra2, rc2, ia2, ic2, rfl, rfl, rfl, rfl⟩ := hc'.slices
            have HX3 := Lib.hid (HX2.out.step g3)
            clear hc' g3 q d0 d1 d2 d3 d4
            go_wp2_with fail
            refine (checkCommit _ _ _ _ _ _ _ _ _ _ _ c.rules L x3 (HGA.out.grow HX3.out) H64.out HCp2.out.2.2.1 (HVL.out.growS HX3.out) (by have := HLE.out.2.2.1; omega) HWF.out ⟨⟨_, _, _, rfl⟩, ⟨_, _, _, rfl⟩, ⟨_, _, _, rfl⟩, ⟨_, rfl⟩⟩).mono ?_
            rintro e x4 ⟨rfl, g4⟩
            have HX4 := Lib.hid (HGW.out.step (HX3.out.step g4))
            clear g4
            have HEQ := Lib.hid (enough_eq HMO.out.1 HF0.out HSL.out)
            rw [← HEQ.out]
            generalize firstR (runG G l2).nodes (runG G l2).edges c.rules = FF at *
            generalize FF.getD 0 = f0 at *
            generalize errR FF = f1 at *
            go_wp2_with fail
            refine (law21Wakes x4).mono ?_
            rintro e x5 ⟨rfl, gz⟩
            have HGZ := Lib.hid (HX4.out.step gz)
            clear gz
            go_wp2
            go_ret
            exact ⟨rfl, HGZ.out⟩
end Go.Hg
