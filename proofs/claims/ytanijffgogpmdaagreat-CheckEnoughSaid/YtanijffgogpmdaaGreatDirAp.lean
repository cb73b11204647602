/- The closure of rule.Keeps for most: counts in a map, and a range over it; rule.unique; rule.Keeps; rule.First: the least Id of the rules that are enabled and not kept; check.first, Whole. Conditions: those that each theorem names. -/
import Derived.WalkKit
import Derived.WalkSpells
import Derived.WalkLawsBesides
import Derived.Lib.Hide
import Derived.BigQuiet
import Derived.Deep.LoopGhost
import Derived.Test.YtanijffgogpmdaaGreatRows
import Derived.Lib.SliceRun
import Derived.WideMake
import Derived.Deep.RegionLaw
import Derived.Lib.Overlaps
import Derived.Deep.RegionHeld3
import Derived.Laws.ResultCell
import Derived.Laws.EntriesVeiled
import Derived.Maps.OwnOps
import Derived.Maps.OwnSet
import Derived.Carry
import Derived.Lib.SlKeysI
import Derived.Maps.RangeWalk
import Derived.Lib.SlMapFilter
import Derived.Test.YtanijffgogpmdaaGreatDirN
import Derived.Test.YtanijffgogpmdaaGreatDirP
import Derived.Test.YtanijffgogpmdaaGreatDirQ
import Derived.Test.YtanijffgogpmdaaGreatDirR
import Derived.Test.YtanijffgogpmdaaGreatDirT
import Derived.Test.YtanijffgogpmdaaGreatDirV
import Derived.Test.YtanijffgogpmdaaGreatDirW
import Derived.Test.YtanijffgogpmdaaGreatDirX
import Derived.Test.YtanijffgogpmdaaGreatDirAd
import Derived.Test.YtanijffgogpmdaaGreatDirAg
import Derived.Test.YtanijffgogpmdaaGreatDirAo
namespace Go.Hg
open Go.RowKit Go.Proofs MapKept Go.Maps

def fromsR (r : PRule) (l : List PEdge) : List Int := (l.filter fun e => decide (e.typ = r.typ)).map (·.from_)
theorem count_froms (r : PRule) (l : List PEdge) (x : Int) : (fromsR r l).count x = outR l r x := by
  unfold fromsR outR
  rw [List.count, List.countP_map, List.countP_filter, List.countP_eq_length_filter]
  congr 1
  refine List.filter_congr fun e _ => ?_
  simp only [Function.comp]
  by_cases h1 : e.typ = r.typ <;> by_cases h2 : e.from_ = x <;> simp [h1, h2]
theorem fromsR_snoc (r : PRule) (l : List PEdge) (e : PEdge) : fromsR r (l ++ [e]) = if decide (e.typ = r.typ) = true then fromsR r l ++ [e.from_] else fromsR r l := by
  unfold fromsR
  rw [List.filter_append]
  by_cases h : e.typ = r.typ <;> simp [h]
theorem fromsR_len (r : PRule) (l : List PEdge) : (fromsR r l).length ≤ l.length := by
  unfold fromsR
  rw [List.length_map]
  exact List.length_filter_le _ _
theorem mostR_out {edges : List PEdge} {r : PRule} : mostR edges r = true ↔ ∀ x, 0 < outR edges r x → (outR edges r x : Int) ≤ r.n := by
  unfold mostR
  rw [List.all_eq_true]
  constructor
  · intro h x hx
    obtain ⟨e, he, ht, rfl⟩ := outR_pos hx
    have := h e he
    simpa [ht] using this
  · intro h e he
    by_cases ht : e.typ = r.typ
    · have hp : 0 < outR edges r e.from_ := by
        unfold outR
        exact List.length_pos_of_mem (List.mem_filter.2 ⟨he, by simp [ht]⟩)
      simpa [ht] using h e.from_ hp
    · simp [ht]
theorem cntK_wf {M : List Int} (hM : ∀ x ∈ M, (Lit.int .i64 x).wf = true) (hl : (M.length : Int) ≤ 9223372036854775807) : Counts (cntK M) := by
  intro x v hv
  unfold cntK at hv
  by_cases h : M.count x = 0
  · rw [if_pos h] at hv; cases hv
  · rw [if_neg h] at hv
    cases hv
    have hx : x ∈ M := List.count_pos_iff.1 (by omega)
    have hc := List.count_le_length (a := x) (l := M)
    refine ⟨hM x hx, _, rfl, ?_⟩
    show (Lit.int .i64 _).wf = true
    simp only [Lit.wf, Bool.and_eq_true, decide_eq_true_eq]
    exact ⟨by show (-9223372036854775808 : Int) ≤ _; omega, by show _ ≤ (9223372036854775807 : Int); omega⟩
theorem holds_at {D : DataW Unit} {f : Int → Option Value} (h : HoldsI D f) {x c : Int} (hx : inI64 x) (hf : ∀ v, f x = some v → ∃ c, v = .int .i64 c) (hat : ∀ zd, D.atKey (.int .i64 x) zd = .lit (.int .i64 c)) : f x = some (.int .i64 c) := by
  cases hfx : f x with
  | none =>
    have h1 := h.2 x hfx hx
    rw [has_true_of_atKey hat] at h1
    cases h1
  | some v =>
    obtain ⟨c', rfl⟩ := hf v hfx
    have h1 := (h.1 x c' hfx).2 .nil
    rw [hat .nil] at h1
    cases h1
    rfl
theorem mod_grown {w w' : World} {b : Nat} (h : w.grownBy w' (some b)) : Mod (fun r => r = b) w w' := ⟨h.os, h.tape, h.output, h.size, fun i hi hne => h.block i hi (fun hc => hne (by simpa using hc))⟩
theorem grow_grown {w w' : World} (h : w.grownBy w' none) : Grow w w' := ⟨h.os, h.tape, h.output, h.size, fun i hi => h.block i hi (by simp)⟩
set_option maxRecDepth 100000 in
set_option maxHeartbeats 1000000 in
/-- rule 'most' -/
theorem keepsMost (edges : List PEdge) (ev : Value) (eb rb fb : Nat) (r : PRule) (w : World) (S : Nat → Prop) (he : EdgesR S w ev edges) (h64 : ∀ e ∈ edges, (Lit.int .i64 e.from_).wf = true) (heb : OneBox w eb ev) (hr : RuleBox w rb r) (hf : OneBox w fb (ofV rb)) :
    Calls Tryz.prog 70 #[.pointer (some ⟨eb, 0, none⟩), .pointer (some ⟨fb, 0, none⟩), .pointer (some ⟨rb, 0, none⟩)] w fun e w' => e = .returned (.bool (mostR edges r)) ∧ Grow w w' := by
  have HR := Lib.hid hr; have HF := Lib.hid hf; have H64 := Lib.hid h64
  obtain ⟨hel, d0⟩ := heb.cell
  obtain ⟨aa, ca, rfl, hal, hac, hA⟩ := SlR.open he
  have hac' := hac
  unfold maxLen at hac
  have HA := Lib.hid hA
  have HG := Lib.hid (show ∀ o1, Grow w (w.alloc o1) from fun o1 => (Grow.rfl' w).allocd o1)
  have HM0 := Lib.hid (show MapK (fun k : Int => .int .i64 k) (w.alloc (.map #[] 0)) w.heap.size (cntK ([] : List Int)) 0 from MapK.made w)
  have entersOf := entersOf
  clear he heb hr hf hA h64
  have hmm := @run_makeMap Tryz.prog
  go_enter Tryz.func70, Tryz.ntmps70
  go_wp2
  clear hmm
  go_loopg [12] edges.length (fun g i wr => ∃ k : Nat, k ≤ edges.length ∧ g = edges.length - k ∧ i = .int .i64 k ∧ MapK (fun k : Int => .int .i64 k) wr w.heap.size (cntK (fromsR r (edges.take k))) k ∧ Grow w wr)
  case atStart => exact ⟨0, by omega, by omega, rfl, HM0.out, HG.out _⟩
  case round =>
    obtain ⟨k, hk, rfl, rfl, hm, hgr⟩ := hrel
    have HM := Lib.hid hm; have HGR := Lib.hid hgr
    have hml := hm.lt
    clear hm
    by_cases hkl : k < edges.length
    · obtain ⟨ba, oa, ra, rfl, hSa, hba, hRa, hca⟩ := HA.out k edges[k] (List.getElem?_eq_getElem hkl)
      obtain ⟨pva, hba', a0, a1, a2, a3, a4, hpa⟩ := hRa.at hba hgr hca
      clear hca hRa hSa hba
      have HT := Lib.hid (show edges.take (k + 1) = edges.take k ++ [edges[k]] from List.take_succ_eq_append_getElem hkl)
      generalize edges[k] = x at *
      obtain ⟨_, _, rfl⟩ := hpa.isSlice
      clear hpa
      obtain ⟨hfl, d1⟩ := (HF.out.grow hgr).cell
      have HW := Lib.hid (show ∀ o1, Grow wr (wr.alloc o1) from fun o1 => (Grow.rfl' wr).allocd o1)
      have HG2 := Lib.hid (show ∀ o1, Grow w (wr.alloc o1) from fun o1 => HGR.out.allocd o1)
      obtain ⟨bt, hbt⟩ : ∃ b, decide (x.typ = r.typ) = b := ⟨_, rfl⟩
      have HBT := Lib.hid hbt
      have HFS := Lib.hid (fromsR_snoc r (edges.take k) x)
      clear hbt hgr
      cases bt
      · go_wp2_with fail
        refine (keepsOf (HR.out.grow (HG2.out _)) HBT.out).mono ?_
        rintro e w3 ⟨rfl, rfl⟩
        go_wp2
        go_roundg (edges.length - (k + 1))
        case measure => omega
        case rel =>
          refine ⟨k + 1, by omega, rfl, by go_num, ?_, HG2.out _⟩
          rw [HT.out, HFS.out, HBT.out, if_neg (by simp)]
          exact (HM.out.grow (HW.out _)).mono (by omega)
      · have HCV := Lib.hid (cntK_getD (fromsR r (edges.take k)) x.from_)
        have HST := Lib.hid (cntK_step1 (fromsR r (edges.take k)) x.from_)
        have hcl : ((fromsR r (edges.take k)).count x.from_ : Int) ≤ k := by
          have h1 := List.count_le_length (a := x.from_) (l := fromsR r (edges.take k))
          have h2 := fromsR_len r (edges.take k)
          rw [List.length_take] at h2
          omega
        have hwr : IntKind.i64.wrap (((fromsR r (edges.take k)).count x.from_ : Int) + 1) = ((fromsR r (edges.take k)).count x.from_ : Int) + 1 := by rw [IntKind.wrap_i64]; omega
        have HCL := Lib.hid hcl
        generalize (fromsR r (edges.take k)).count x.from_ = c at *
        go_wp2_with fail
        refine (keepsOf (HR.out.grow (HG2.out _)) HBT.out).mono ?_
        rintro e w3 ⟨rfl, rfl⟩
        go_wp2_with (first
          | (at_lookup; go_must (refine wpList_lookK _ rfl (.tmp 20) (.tmp 22) 101 rfl 2 3 Tryz.underlying101 (keyK_int Tryz.underlying2) (.int .i64 0) (zeroIntV _) _ _ _ rfl (HM.out.grow (HW.out _)) x.from_ rfl _ HCV.out ?_))
          | (at_mapUpdate; go_must (refine wpList_updK _ rfl (.tmp 20) (.tmp 22) (.tmp 24) 101 rfl 2 3 Tryz.underlying101 (keyK_int Tryz.underlying2) _ _ _ rfl (HM.out.grow (HW.out _)) x.from_ rfl (.int .i64 ((c : Int) + 1)) (by rfl) ?_; intro w4 g1 g2 g3 g4)))
        rw [HST.out] at g1
        go_roundg (edges.length - (k + 1))
        case measure => omega
        case rel =>
          refine ⟨k + 1, by omega, rfl, by go_num, ?_, (HG2.out _).modd g3 (fun q hq => by rw [hq]; exact Nat.le_refl _)⟩
          rw [HT.out, HFS.out, HBT.out, if_pos rfl]
          exact g1
    · have hkk : edges.take k = edges := List.take_of_length_le (by omega)
      rw [hkk] at HM
      clear hkk
      have hfl := fromsR_len r edges
      have hCN : Counts (cntK (fromsR r edges)) := cntK_wf (fun x hx => by
        obtain ⟨e, he, rfl⟩ := List.mem_map.1 hx
        exact H64.out e (List.mem_filter.1 he).1) (by omega)
      obtain ⟨D, hown, hH⟩ := MapI.ownsV (MapK.toI HM.out) (e := 3) Tryz.underlying2 Tryz.underlying3 (by unfold maxLen; omega) hCN
      have HH := Lib.hid hH; have HCN := Lib.hid hCN
      have HD0 := Lib.hid (show ∀ x : Int, 0 < outR edges r x → Maps.has D (.int .i64 x) = true from fun x hx => by
        rw [← count_froms] at hx
        refine (HH.out.1 x (List.count x (fromsR r edges)) ?_).1
        unfold cntK
        rw [if_neg (by omega)])
      clear hH hCN hfl
      go_wp2_with (first
        | (at_range; refine wpList_range_own _ rfl _ 101 rfl 2 3 (int_keyed Tryz.underlying2) Tryz.underlying101 _ _ _ D rfl hown ?_; intro w0 hrg0 hg0 hs0)
        | go_in)
      go_frame
      obtain ⟨wq, rfl⟩ : ∃ wq : World, wq = wr := ⟨_, rfl⟩
      have HQ := Lib.hid hgr
      have hgq := hgr.step (grow_grown hg0)
      go_loopg [8] (Maps.size D) (fun g vn wr => ∃ (left : Lit → Bool), wr.ranges Tryz.prog 2 (plainElem Tryz.prog 3) w.heap.size wq.heap.size k D left g ∧ Grow w wr ∧ wq.heap.size < wr.heap.size ∧ ∀ x : Int, 0 < outR edges r x → left (.int .i64 x) = false → (outR edges r x : Int) ≤ r.n)
      case atStart => exact ⟨_, hrg0, hgq, by omega, fun x hx hl => by rw [HD0.out x hx] at hl; cases hl⟩
      case round =>
        obtain ⟨left, hrg, hgw, hql, hleft⟩ := hrel
        have HLEFT := Lib.hid hleft; have HGW := Lib.hid hgw
        have hbl := hrg.owns.lt
        obtain ⟨hrl, c1, c2, c3, c4, c5, c6, c7, c0⟩ := (HR.out.grow hgw).cells
        clear hleft hgw c1 c2 c3 c4 c5 c7 c0
        go_wp2_with (first
          | (at_next; refine wpList_next_ranges_ii _ rfl _ rfl 2 3 .i64 .i64 (int_keyed Tryz.underlying2) Tryz.underlying2 Tryz.underlying3 _ _ _ _ _ _ rfl hrg ?_ ?_)
          | go_in)
        · intro _ hl0
          have HX := Lib.hid (show mostR edges r = true from mostR_out.2 fun x hx => HLEFT.out x hx (hl0 _))
          go_wp2
          go_ret
          exact ⟨by rw [HX.out]; rfl, HGW.out⟩
        · intro x c w1 cnt1 hwx hwc hlx hat hrg1 hlt hg1 hs1 hen
          have hfx := holds_at HH.out hwx (fun v hv => by obtain ⟨-, c, h, -⟩ := HCN.out x v hv; exact ⟨c, h⟩) hat
          have hcx : (outR edges r x : Int) = c ∧ 0 < outR edges r x := by
            unfold cntK at hfx
            by_cases h : (fromsR r edges).count x = 0
            · rw [if_pos h] at hfx; cases hfx
            · rw [if_neg h] at hfx
              rw [count_froms] at hfx h
              simp only [Option.some.injEq, Value.int.injEq, true_and] at hfx
              exact ⟨hfx, by omega⟩
          have HCX := Lib.hid hcx
          have HW1 := Lib.hid (HGW.out.modd (mod_grown hg1) (fun q hq => by rw [hq]; omega))
          have c61 : w1.cell? ⟨rb, 6, none⟩ = some (.int .i64 r.n) := (hg1.cell c6 (by have h1 := HR.out.cells.1; have h2 := HQ.out.size; simp; omega))
          clear hcx hfx hat
          by_cases hgt : r.n < c
          · have HX := Lib.hid (show mostR edges r = false by
              cases hm : mostR edges r with
              | false => rfl
              | true => have := mostR_out.1 hm x HCX.out.2; have := HCX.out.1; omega)
            go_wp2
            go_ret
            exact ⟨by rw [HX.out]; rfl, HW1.out⟩
          · go_wp2
            go_roundg cnt1
            case measure => exact hlt
            case rel =>
              refine ⟨_, hrg1, HW1.out, by omega, fun y hy hl => ?_⟩
              by_cases hyx : y = x
              · subst hyx
                have := HCX.out.1
                omega
              · refine HLEFT.out y hy ?_
                simpa [Lit.sameKey, hyx] using hl
end Go.Hg

namespace Go.Hg
open Go.RowKit Go.Proofs MapKept Go.Maps

theorem keyV : KeyK Tryz.prog 42 PVal.args := by
  refine keyK_struct3 (c0 := fun v : PVal => .int .i64 v.kind) (c1 := fun v => .int .i64 v.n) (c2 := fun v => .string v.s) Tryz.underlying42 (by kernel_rfl) (by decide) (by decide) (by decide) rfl rfl rfl (fun v => .inl ⟨_, rfl, Tryz.underlying3⟩) (fun v => .inl ⟨_, rfl, Tryz.underlying2⟩) (fun v => .inr ⟨_, rfl, Tryz.underlying9⟩) ?_
  intro a b h0 h1 h2
  cases a; cases b
  simp only [Value.int.injEq, Value.string.injEq, true_and] at h0 h1 h2
  rw [h0, h1, h2]

set_option maxRecDepth 100000 in
set_option maxHeartbeats 4000000 in
theorem ruleUnique (nodes : List PNode) (nv : Value) (r : PRule) (w : World) (S : Nat → Prop) (hn : NodesR S w nv nodes) :
    Calls Tryz.prog 62 #[nv, r.args] w fun e w' => e = .returned (.bool (uniqR nodes r)) ∧ Grow w w' := by
  obtain ⟨aa, ca, rfl, hal, hac, hA⟩ := SlR.open hn
  unfold maxLen at hac
  have HA := Lib.hid hA
  have HG := Lib.hid (show ∀ o1 o2, Grow w ((w.alloc o1).alloc o2) from fun o1 o2 => ((Grow.rfl' w).allocd o1).allocd o2)
  have HM0 := Lib.hid (show ∀ o1, MapK PVal.args ((w.alloc o1).alloc (.map #[] 0)) (w.heap.size + 1) (cntK ([] : List PVal)) 0 from fun o1 => by
    have h := MapK.made (kv := PVal.args) (w.alloc o1)
    rw [World.size_alloc] at h
    exact h)
  have HR0 := Lib.hid (show ∀ o2, RuleBox ((w.alloc (.cells #[.int .i64 r.id, .int .i64 r.kind, .string r.typ, .string r.name, .string r.from_, .string r.to_, .int .i64 r.n, .int .i64 r.state] 24 (0, 0))).alloc o2) w.heap.size r from fun o2 => by
    unfold RuleBox
    rw [((Grow.rfl' (w.alloc _)).allocd o2).heapEq (by simp)]
    exact heap_alloc_new w _)
  clear hn hA
  have hmm := @run_makeMap Tryz.prog
  go_enter Tryz.func62, Tryz.ntmps62
  go_wp2
  clear hmm
  go_loopg [13] nodes.length (fun g i wr => ∃ k : Nat, k ≤ nodes.length ∧ g = nodes.length - k ∧ i = .int .i64 k ∧ MapK PVal.args wr (w.heap.size + 1) (cntK ((nodes.take k).filterMap (valR r))) k ∧ ((nodes.take k).filterMap (valR r)).Nodup ∧ RuleBox wr w.heap.size r ∧ Grow w wr)
  case atStart => exact ⟨0, by omega, by omega, rfl, HM0.out _, by simp, HR0.out _, HG.out _ _⟩
  case round =>
    obtain ⟨k, hk, rfl, rfl, hm, hno, hrb, hgr⟩ := hrel
    have HM := Lib.hid hm; have HGR := Lib.hid hgr; have HNO := Lib.hid hno; have HRB0 := Lib.hid hrb
    have hml := hm.lt
    obtain ⟨hrl, c1, c2, c3, c4, c5, c6, c7, c0⟩ := hrb.cells
    clear hm hno hrb c1 c4 c5 c6 c7 c0
    by_cases hkl : k < nodes.length
    · obtain ⟨ba, oa, ra, rfl, hSa, hba, hRa, hca⟩ := HA.out k nodes[k] (List.getElem?_eq_getElem hkl)
      obtain ⟨pva, hba', a0, a1, a2, hpa⟩ := hRa.at hba hgr hca
      clear hca hRa hSa hba
      have HT := Lib.hid (show nodes.take (k + 1) = nodes.take k ++ [nodes[k]] from List.take_succ_eq_append_getElem hkl)
      generalize nodes[k] = x at *
      have HPA := Lib.hid hpa
      obtain ⟨_, _, rfl⟩ := hpa.isSlice
      have HW := Lib.hid (show ∀ o1, Grow wr (wr.alloc o1) from fun o1 => (Grow.rfl' wr).allocd o1)
      have HNB := Lib.hid (show ∀ o1 w', Grow (wr.alloc o1) w' → w'.heap[wr.heap.size]? = some o1 from fun o1 w' hg => by rw [hg.heapEq (by simp)]; exact heap_alloc_new wr _)
      obtain ⟨gv, hgv⟩ : ∃ gv, getV x.props r.name = gv := ⟨_, rfl⟩
      obtain ⟨bo, hbo⟩ : ∃ bo, (getP x.props r.name).isSome = bo := ⟨_, rfl⟩
      obtain ⟨bt, hbt⟩ : ∃ b, decide (x.typ = r.typ) = b := ⟨_, rfl⟩
      have HV := Lib.hid (show valR r x = if (bo && bt) = true then some gv else none by
        unfold valR
        rw [← hgv, ← hbo, ← hbt]
        unfold getV
        by_cases h : x.typ = r.typ
        · cases hp : getP x.props r.name <;> simp [h]
        · simp [h])
      have HGV := Lib.hid hgv; have HBO := Lib.hid hbo
      clear hpa hgr hgv hbo
      go_wp2_with fail
      refine (valGet S _ x.props r.name _ (HPA.out.grow (HW.out _))).mono ?_
      rintro e w2 ⟨rfl, hw2⟩
      rw [HGV.out, HBO.out]
      have HG2 := Lib.hid (HGR.out.step ((HW.out _).step hw2))
      have HWR2 := Lib.hid ((HW.out _).step hw2)
      have hnb := HNB.out _ w2 hw2
      have hnl := blk_lt hnb
      have n1 : w2.cell? ⟨wr.heap.size, 1, none⟩ = some (.string x.typ) := by rw [blk_cell hnb]; rfl
      have hrb2 := HRB0.out.grow HWR2.out
      obtain ⟨hrl2, c1, c2', c3', c4, c5, c6, c7, c0⟩ := hrb2.cells
      have hml2 := (HM.out.grow HWR2.out).lt
      have hsz := HGR.out.size
      clear hnb hw2 hrb2 c1 c3' c4 c5 c6 c7 c0 c2 c3 a0 a1 a2 hrl hml hba'
      have HM3 := Lib.hid (show MapK PVal.args (w2.alloc (.cells #[.int .i64 gv.kind, .int .i64 gv.n, .string gv.s] 42 (0, 0))).drew (w.heap.size + 1) (cntK ((nodes.take k).filterMap (valR r))) k from (HM.out.grow HWR2.out).grow (((Grow.rfl' w2).allocd _).drewd))
      have HG3 := Lib.hid (show Grow w (w2.alloc (.cells #[.int .i64 gv.kind, .int .i64 gv.n, .string gv.s] 42 (0, 0))) from HG2.out.allocd _)
      have HSTAY := Lib.hid (show ∀ o1, Grow w (w2.alloc o1) ∧ RuleBox (w2.alloc o1) w.heap.size r ∧ MapK PVal.args (w2.alloc o1) (w.heap.size + 1) (cntK ((nodes.take k).filterMap (valR r))) k from fun o1 => ⟨HG2.out.allocd o1, (HRB0.out.grow HWR2.out).grow ((Grow.rfl' w2).allocd o1), (HM.out.grow HWR2.out).grow ((Grow.rfl' w2).allocd o1)⟩)
      cases bo
      · have HV' := Lib.hid (show valR r x = none by rw [HV.out]; rfl)
        go_wp2
        go_roundg (nodes.length - (k + 1))
        case measure => omega
        case rel =>
          refine ⟨k + 1, by omega, rfl, by go_num, ?_, ?_, (HSTAY.out _).2.1, (HSTAY.out _).1⟩
          · rw [HT.out, List.filterMap_append, List.filterMap_cons_none HV'.out]
            simpa using (HSTAY.out _).2.2.mono (by omega)
          · rw [HT.out, List.filterMap_append, List.filterMap_cons_none HV'.out]
            simpa using HNO.out
      · cases bt
        · have HV' := Lib.hid (show valR r x = none by rw [HV.out]; rfl)
          go_wp2
          go_roundg (nodes.length - (k + 1))
          case measure => omega
          case rel =>
            refine ⟨k + 1, by omega, rfl, by go_num, ?_, ?_, (HSTAY.out _).2.1, (HSTAY.out _).1⟩
            · rw [HT.out, List.filterMap_append, List.filterMap_cons_none HV'.out]
              simpa using (HSTAY.out _).2.2.mono (by omega)
            · rw [HT.out, List.filterMap_append, List.filterMap_cons_none HV'.out]
              simpa using HNO.out
        · have HVS := Lib.hid (show valR r x = some gv by rw [HV.out]; rfl)
          clear HV
          have HV := HVS
          go_wp2_with fail
          have hnew : ∀ w' : World, (w'.heap[w2.heap.size]? = some (.cells #[.int .i64 gv.kind, .int .i64 gv.n, .string gv.s] 42 (0, 0))) → w'.cell? ⟨w2.heap.size, 0, none⟩ = some (.int .i64 gv.kind) ∧ w'.cell? ⟨w2.heap.size, 1, none⟩ = some (.int .i64 gv.n) ∧ w'.cell? ⟨w2.heap.size, 2, none⟩ = some (.string gv.s) := fun w' h => ⟨by rw [blk_cell h]; rfl, by rw [blk_cell h]; rfl, by rw [blk_cell h]; rfl⟩
          have hbx : (w2.alloc (.cells #[.int .i64 gv.kind, .int .i64 gv.n, .string gv.s] 42 (0, 0))).drew.heap[w2.heap.size]? = some (.cells #[.int .i64 gv.kind, .int .i64 gv.n, .string gv.s] 42 (0, 0)) := heap_alloc_new w2 _
          have KEEP0 := Lib.hid (hnew _ hbx)
          have KEEP5 := Lib.hid (show ∀ w5 : World, Mod (fun q => q = w.heap.size + 1) (w2.alloc (.cells #[.int .i64 gv.kind, .int .i64 gv.n, .string gv.s] 42 (0, 0))).drew w5 → _ from fun w5 h => hnew w5 ((h.block _ (blk_lt hbx) (by show ¬ w2.heap.size = w.heap.size + 1; omega)).trans hbx))
          have HRB := Lib.hid (show ∀ w5 : World, Mod (fun q => q = w.heap.size + 1) (w2.alloc (.cells #[.int .i64 gv.kind, .int .i64 gv.n, .string gv.s] 42 (0, 0))).drew w5 → RuleBox w5 w.heap.size r from fun w5 h => (h.block _ (by have := (HSTAY.out (.cells #[.int .i64 gv.kind, .int .i64 gv.n, .string gv.s] 42 (0, 0))).2.1.cells.1; exact this) (by show ¬ w.heap.size = w.heap.size + 1; omega)).trans (HSTAY.out _).2.1)
          clear hnew hbx
          have HWR := Lib.hid (show IntKind.i64.wrap ((((nodes.take k).filterMap (valR r)).count gv : Int) + 1) = (((nodes.take k).filterMap (valR r)).count gv : Int) + 1 by
            have h1 := List.count_le_length (a := gv) (l := (nodes.take k).filterMap (valR r))
            have h2 := List.length_filterMap_le (valR r) (nodes.take k)
            rw [List.length_take] at h2
            rw [IntKind.wrap_i64] <;> omega)
          refine wp_region_noPanic ?_
          refine wp_region_held_drew (S := fun w' => w'.cell? ⟨w2.heap.size, 0, none⟩ = some (.int .i64 gv.kind) ∧ w'.cell? ⟨w2.heap.size, 1, none⟩ = some (.int .i64 gv.n) ∧ w'.cell? ⟨w2.heap.size, 2, none⟩ = some (.string gv.s)) (by kernel_rfl) ?_ (fun hHeld => ?_)
          · exact KEEP0.out
          refine' wpAnyH_take (i := 0) (oi := ?o1) (v := _) (by simp only [List.getElem?_toArray, List.getElem?_cons_zero]; rfl) (by kernel_rfl) (by kernel_rfl) (by kernel_rfl) (fun _ _ _ h => h) (Or.inl ⟨by rfl, ?y1⟩) (by assumption) ?r1
          case y1 =>
            intro wS hSw
            try dsimp only at hSw
            go_simp
            all_goals with_reducible rfl
          simp only [Act.put, List.setIfInBounds_toArray, List.set_cons_zero, List.set_cons_succ]
          refine' wpAnyH_take (i := 1) (oi := ?o2) (v := _) (by simp only [List.getElem?_toArray, List.getElem?_cons_succ, List.getElem?_cons_zero]; rfl) (by kernel_rfl) (by kernel_rfl) (by kernel_rfl) (fun _ _ _ h => h) (Or.inl ⟨by rfl, ?y2⟩) (by assumption) ?r2
          case y2 =>
            intro wS hSw
            try dsimp only at hSw
            go_simp
            all_goals with_reducible rfl
          simp only [Act.put, List.setIfInBounds_toArray, List.set_cons_zero, List.set_cons_succ]
          refine wpAnyH_ready (rs := [2, 4]) (by kernel_rfl) (by simp) ?_
          refine' AllReadyH.cons (o := ?o3) (by simp only [List.getElem?_toArray, List.getElem?_cons_succ, List.getElem?_cons_zero]; rfl) (fun K hK => ?s3) ?m3
          rotate_left
          · refine' AllReadyH.cons (o := ?o4) (by simp only [List.getElem?_toArray, List.getElem?_cons_succ, List.getElem?_cons_zero]; rfl) (fun K hK => ?s4) ?m4
            case m4 => exact AllReadyH.nil
            refine step_entryK rfl (.tmp 33) (.tmp 34) 165 rfl 42 3 Tryz.underlying165 keyV (.int .i64 0) zeroIntV (by rfl) HM3.out gv (by rfl) _ (cntK_getD _ gv) ?_
            intro w5 s5 q1 q2 q3 q4
            refine hK.out _ _ ?_ (fun hHeld => ?_)
            · exact KEEP5.out w5 q3
            clear hK K
            try simp only [Act.put, List.setIfInBounds_toArray, List.set_cons_zero, List.set_cons_succ]
            refine' wpAnyH_take (i := 5) (oi := ?o5) (v := _) (by simp only [List.getElem?_toArray, List.getElem?_cons_succ, List.getElem?_cons_zero]; rfl) (by kernel_rfl) (by kernel_rfl) (by kernel_rfl) (fun _ _ _ h => h) (Or.inl ⟨by rfl, ?y5⟩) (by assumption) ?r5
            case y5 =>
              intro wS hSw
              try dsimp only at hSw
              go_simp
              all_goals with_reducible rfl
            simp only [Act.put, List.setIfInBounds_toArray, List.set_cons_zero, List.set_cons_succ]
            refine wpAnyH_ready (rs := [2]) (by kernel_rfl) (by simp) ?_
            refine' AllReadyH.cons (o := ?o6) (by simp only [List.getElem?_toArray, List.getElem?_cons_succ, List.getElem?_cons_zero]; rfl) (fun K hK => ?s6) ?m6
            case m6 => exact AllReadyH.nil
            refine step_lookK rfl (.tmp 33) (.tmp 34) 165 rfl 42 3 Tryz.underlying165 keyV (.int .i64 0) (zeroIntV _) (by rfl) q1 gv (by rfl) (.int .i64 (((nodes.take k).filterMap (valR r)).count gv : Int)) (by rw [kput_same]; rfl) ?_
            refine hK.out _ _ ?_ (fun hHeld => ?_)
            · exact KEEP5.out w5 q3
            clear hK K
            try simp only [Act.put, List.setIfInBounds_toArray, List.set_cons_zero, List.set_cons_succ]
            refine' wpAnyH_take (i := 3) (oi := ?o7) (v := _) (by simp only [List.getElem?_toArray, List.getElem?_cons_succ, List.getElem?_cons_zero]; rfl) (by kernel_rfl) (by kernel_rfl) (by kernel_rfl) (fun _ _ _ h => h) (Or.inl ⟨by rfl, ?y7⟩) (by assumption) ?r7
            case y7 =>
              intro wS hSw
              try dsimp only at hSw
              go_simp
              all_goals with_reducible rfl
            simp only [Act.put, List.setIfInBounds_toArray, List.set_cons_zero, List.set_cons_succ]
            refine wpAnyH_ready (rs := [6]) (by kernel_rfl) (by simp) ?_
            refine' AllReadyH.cons (o := ?o8) (by simp only [List.getElem?_toArray, List.getElem?_cons_succ, List.getElem?_cons_zero]; rfl) (fun K hK => ?s8) ?m8
            case m8 => exact AllReadyH.nil
            refine step_storeK rfl (.tmp 33) (.tmp 38) (.tmp 36) 165 rfl 42 keyV (by rfl) q1 gv s5 (by rfl) q2 (.int .i64 ((((nodes.take k).filterMap (valR r)).count gv : Int) + 1)) (by simp [Act.eval, HWR.out]) ?_
            intro w6 p1 p3 p4
            rw [kput_twice, ← kput_twice _ _ (.int .i64 0), cntK_step] at p1
            refine hK.out _ _ ?_ (fun hHeld => ?_)
            · exact KEEP5.out w6 (q3.step p3)
            clear hK K
            try simp only [Act.put]
            refine wpAnyH_done (by kernel_rfl) ?_ _
            refine NoPanic.normal ?_
            obtain ⟨y0, y1, y2⟩ := KEEP5.out w6 (q3.step p3)
            have HM6 := Lib.hid p1
            have HG6 := Lib.hid ((HG3.out.drewd).modd (q3.step p3) (fun q hq => by rw [hq]; omega))
            have HB6 := Lib.hid (HRB.out w6 (q3.step p3))
            clear q1 q2 q3 q4 p1 p3 p4
            by_cases hc : ((nodes.take k).filterMap (valR r)).count gv = 0
            · have HL := Lib.hid (show (cntK ((nodes.take k).filterMap (valR r) ++ [gv]) gv).getD (.int .i64 0) = .int .i64 1 by rw [cntK_getD, List.count_append, hc]; simp)
              have HND := Lib.hid (show ((nodes.take k).filterMap (valR r) ++ [gv]).Nodup by
                rw [List.nodup_append]
                refine ⟨HNO.out, by simp, ?_⟩
                intro a ha b hb hab
                rw [List.mem_singleton] at hb
                subst hb
                subst hab
                rw [List.count_eq_zero] at hc
                exact hc ha)
              clear hc
              go_wp2_with (at_lookup; go_must (refine wpList_lookK _ rfl (.tmp 39) (.tmp 40) 165 rfl 42 3 Tryz.underlying165 keyV (.int .i64 0) (zeroIntV _) _ _ _ rfl HM6.out gv rfl _ HL.out ?_))
              go_roundg (nodes.length - (k + 1))
              case measure => omega
              case rel =>
                refine ⟨k + 1, by omega, rfl, by go_num, ?_, ?_, HB6.out, HG6.out⟩
                · rw [HT.out, List.filterMap_append, List.filterMap_cons_some HV.out]
                  exact HM6.out
                · rw [HT.out, List.filterMap_append, List.filterMap_cons_some HV.out]
                  exact HND.out
            · have HL := Lib.hid (show (cntK ((nodes.take k).filterMap (valR r) ++ [gv]) gv).getD (.int .i64 0) = .int .i64 ((((nodes.take k).filterMap (valR r)).count gv : Int) + 1) by rw [cntK_getD, List.count_append]; simp)
              have HX := Lib.hid (show uniqR nodes r = false by
                unfold uniqR
                refine decide_eq_false fun hn => ?_
                have h1 : ((nodes.take (k + 1)).filterMap (valR r)).Nodup := hn.sublist ((List.take_sublist _ _).filterMap _)
                rw [HT.out, List.filterMap_append, List.filterMap_cons_some HV.out] at h1
                have h2 := (List.nodup_append.1 h1).2.2 gv (List.count_pos_iff.1 (by omega)) gv (by simp)
                exact h2 rfl)
              generalize ((nodes.take k).filterMap (valR r)).count gv = c at *
              go_wp2_with (at_lookup; go_must (refine wpList_lookK _ rfl (.tmp 39) (.tmp 40) 165 rfl 42 3 Tryz.underlying165 keyV (.int .i64 0) (zeroIntV _) _ _ _ rfl HM6.out gv rfl _ HL.out ?_))
              go_ret
              exact ⟨by rw [HX.out]; rfl, HG6.out⟩
          refine step_lookK rfl (.tmp 33) (.tmp 34) 165 rfl 42 3 Tryz.underlying165 keyV (.int .i64 0) (zeroIntV _) (by rfl) HM3.out gv (by rfl) _ (cntK_getD _ gv) ?_
          refine hK.out _ _ ?_ (fun hHeld => ?_)
          · exact KEEP0.out
          clear hK K
          try simp only [Act.put, List.setIfInBounds_toArray, List.set_cons_zero, List.set_cons_succ]
          refine' wpAnyH_take (i := 3) (oi := ?o9) (v := _) (by simp only [List.getElem?_toArray, List.getElem?_cons_succ, List.getElem?_cons_zero]; rfl) (by kernel_rfl) (by kernel_rfl) (by kernel_rfl) (fun _ _ _ h => h) (Or.inl ⟨by rfl, ?y9⟩) (by assumption) ?r9
          case y9 =>
            intro wS hSw
            try dsimp only at hSw
            go_simp
            all_goals with_reducible rfl
          simp only [Act.put, List.setIfInBounds_toArray, List.set_cons_zero, List.set_cons_succ]
          refine wpAnyH_ready (rs := [4]) (by kernel_rfl) (by simp) ?_
          refine' AllReadyH.cons (o := ?o10) (by simp only [List.getElem?_toArray, List.getElem?_cons_succ, List.getElem?_cons_zero]; rfl) (fun K hK => ?s10) ?m10
          case m10 => exact AllReadyH.nil
          refine step_entryK rfl (.tmp 33) (.tmp 34) 165 rfl 42 3 Tryz.underlying165 keyV (.int .i64 0) zeroIntV (by rfl) HM3.out gv (by rfl) _ (cntK_getD _ gv) ?_
          intro w5 s5 q1 q2 q3 q4
          refine hK.out _ _ ?_ (fun hHeld => ?_)
          · exact KEEP5.out w5 q3
          clear hK K
          try simp only [Act.put, List.setIfInBounds_toArray, List.set_cons_zero, List.set_cons_succ]
          refine' wpAnyH_take (i := 5) (oi := ?o11) (v := _) (by simp only [List.getElem?_toArray, List.getElem?_cons_succ, List.getElem?_cons_zero]; rfl) (by kernel_rfl) (by kernel_rfl) (by kernel_rfl) (fun _ _ _ h => h) (Or.inl ⟨by rfl, ?y11⟩) (by assumption) ?r11
          case y11 =>
            intro wS hSw
            try dsimp only at hSw
            go_simp
            all_goals with_reducible rfl
          simp only [Act.put, List.setIfInBounds_toArray, List.set_cons_zero, List.set_cons_succ]
          refine wpAnyH_ready (rs := [6]) (by kernel_rfl) (by simp) ?_
          refine' AllReadyH.cons (o := ?o12) (by simp only [List.getElem?_toArray, List.getElem?_cons_succ, List.getElem?_cons_zero]; rfl) (fun K hK => ?s12) ?m12
          case m12 => exact AllReadyH.nil
          refine step_storeK rfl (.tmp 33) (.tmp 38) (.tmp 36) 165 rfl 42 keyV (by rfl) q1 gv s5 (by rfl) q2 (.int .i64 ((((nodes.take k).filterMap (valR r)).count gv : Int) + 1)) (by simp [Act.eval, HWR.out]) ?_
          intro w6 p1 p3 p4
          rw [kput_twice, ← kput_twice _ _ (.int .i64 0), cntK_step] at p1
          refine hK.out _ _ ?_ (fun hHeld => ?_)
          · exact KEEP5.out w6 (q3.step p3)
          clear hK K
          try simp only [Act.put]
          refine wpAnyH_done (by kernel_rfl) ?_ _
          refine NoPanic.normal ?_
          obtain ⟨y0, y1, y2⟩ := KEEP5.out w6 (q3.step p3)
          have HM6 := Lib.hid p1
          have HG6 := Lib.hid ((HG3.out.drewd).modd (q3.step p3) (fun q hq => by rw [hq]; omega))
          have HB6 := Lib.hid (HRB.out w6 (q3.step p3))
          clear q1 q2 q3 q4 p1 p3 p4
          by_cases hc : ((nodes.take k).filterMap (valR r)).count gv = 0
          · have HL := Lib.hid (show (cntK ((nodes.take k).filterMap (valR r) ++ [gv]) gv).getD (.int .i64 0) = .int .i64 1 by rw [cntK_getD, List.count_append, hc]; simp)
            have HND := Lib.hid (show ((nodes.take k).filterMap (valR r) ++ [gv]).Nodup by
              rw [List.nodup_append]
              refine ⟨HNO.out, by simp, ?_⟩
              intro a ha b hb hab
              rw [List.mem_singleton] at hb
              subst hb
              subst hab
              rw [List.count_eq_zero] at hc
              exact hc ha)
            clear hc
            go_wp2_with (at_lookup; go_must (refine wpList_lookK _ rfl (.tmp 39) (.tmp 40) 165 rfl 42 3 Tryz.underlying165 keyV (.int .i64 0) (zeroIntV _) _ _ _ rfl HM6.out gv rfl _ HL.out ?_))
            go_roundg (nodes.length - (k + 1))
            case measure => omega
            case rel =>
              refine ⟨k + 1, by omega, rfl, by go_num, ?_, ?_, HB6.out, HG6.out⟩
              · rw [HT.out, List.filterMap_append, List.filterMap_cons_some HV.out]
                exact HM6.out
              · rw [HT.out, List.filterMap_append, List.filterMap_cons_some HV.out]
                exact HND.out
          · have HL := Lib.hid (show (cntK ((nodes.take k).filterMap (valR r) ++ [gv]) gv).getD (.int .i64 0) = .int .i64 ((((nodes.take k).filterMap (valR r)).count gv : Int) + 1) by rw [cntK_getD, List.count_append]; simp)
            have HX := Lib.hid (show uniqR nodes r = false by
              unfold uniqR
              refine decide_eq_false fun hn => ?_
              have h1 : ((nodes.take (k + 1)).filterMap (valR r)).Nodup := hn.sublist ((List.take_sublist _ _).filterMap _)
              rw [HT.out, List.filterMap_append, List.filterMap_cons_some HV.out] at h1
              have h2 := (List.nodup_append.1 h1).2.2 gv (List.count_pos_iff.1 (by omega)) gv (by simp)
              exact h2 rfl)
            generalize ((nodes.take k).filterMap (valR r)).count gv = c at *
            go_wp2_with (at_lookup; go_must (refine wpList_lookK _ rfl (.tmp 39) (.tmp 40) 165 rfl 42 3 Tryz.underlying165 keyV (.int .i64 0) (zeroIntV _) _ _ _ rfl HM6.out gv rfl _ HL.out ?_))
            go_ret
            exact ⟨by rw [HX.out]; rfl, HG6.out⟩
    · have hkk : nodes.take k = nodes := List.take_of_length_le (by omega)
      rw [hkk] at HNO
      have HX := Lib.hid (show uniqR nodes r = true by unfold uniqR; exact decide_eq_true HNO.out)
      clear hkk
      go_wp2
      go_ret
      exact ⟨by rw [HX.out]; rfl, HGR.out⟩
end Go.Hg

namespace Go.Hg
open Go.RowKit Go.Proofs MapKept

theorem boxes3k (w : World) (o1 o2 o3 : Obj) (w' : World) (hg : Grow (((w.alloc o1).alloc o2).alloc o3) w') : w'.heap[w.heap.size]? = some o1 ∧ w'.heap[w.heap.size + 1]? = some o2 ∧ w'.heap[w.heap.size + 2]? = some o3 := by
  have h1 : (w.alloc o1).heap[w.heap.size]? = some o1 := heap_alloc_new w o1
  have h2 : ((w.alloc o1).alloc o2).heap[w.heap.size + 1]? = some o2 := by simpa using heap_alloc_new (w.alloc o1) o2
  have h3 : (((w.alloc o1).alloc o2).alloc o3).heap[w.heap.size + 2]? = some o3 := by simpa using heap_alloc_new ((w.alloc o1).alloc o2) o3
  have g1 : Grow (w.alloc o1) w' := (((Grow.rfl' (w.alloc o1)).allocd o2).allocd o3).step hg
  have g2 : Grow ((w.alloc o1).alloc o2) w' := ((Grow.rfl' ((w.alloc o1).alloc o2)).allocd o3).step hg
  exact ⟨(g1.heapEq (blk_lt h1)).trans h1, (g2.heapEq (blk_lt h2)).trans h2, (hg.heapEq (blk_lt h3)).trans h3⟩
theorem run_look_hit1 {P : Program} (W : World) (r : Nat) (hr : W.heap.size = r) {mty kt et : TypeId} (hm : P.underlying mty = some (.map kt et)) (hk : P.underlying kt = some (.int .i64)) (es : Array MapEntry) (c : Nat) (k : Int) (i : Nat) (v : Value) (hf : Instr.findNow (.int .i64) (.int .i64 k) es.toList 0 = some (some (i, v))) :
    (Instr.lookup mty (.map (some r)) (.int .i64 k) false).run P (W.alloc (.map es c)) = .ok v (W.alloc (.map es c)) := by
  subst hr
  have hb : (W.alloc (.map es c)).heap[W.heap.size]? = some (.map es c) := heap_alloc_new W _
  have hc : (Instr.checkKey es.isEmpty 10000 kt (.int .i64 k)).run P (W.alloc (.map es c)) = .ok () (W.alloc (.map es c)) := MapKept.run_checkKey (k := .int .i64 k) hk (by simp [MapKept.IsKey]) es.isEmpty 9999
  have hf' := MapKept.run_findKey (P := P) (w := W.alloc (.map es c)) hk hf
  simp [Instr.lookup, run_underlying hm, MapKept.run_getObj_map hb, Result.andThen]
  rw [hc]
  simp [hf']

set_option maxRecDepth 100000 in
set_option maxHeartbeats 1000000 in
/-- rule 'unique' -/
theorem keepsUniq (nodes : List PNode) (nv : Value) (nb rb : Nat) (r : PRule) (w : World) (S : Nat → Prop) (hn : NodesR S w nv nodes) (hnb : OneBox w nb nv) (hr : RuleBox w rb r) :
    Calls Tryz.prog 61 #[.pointer (some ⟨nb, 0, none⟩), .pointer (some ⟨rb, 0, none⟩)] w fun e w' => e = .returned (.bool (uniqR nodes r)) ∧ Grow w w' := by
  have HN := Lib.hid hn
  obtain ⟨hnl, d0⟩ := hnb.cell
  obtain ⟨hrl, c1, c2, c3, c4, c5, c6, c7, c0⟩ := hr.cells
  obtain ⟨_, _, rfl, _⟩ := SlR.open hn
  clear hn hr hnb
  go_enter Tryz.func61, Tryz.ntmps61
  go_wp2_with fail
  refine (ruleUnique nodes _ r _ S HN.out).mono ?_
  rintro e w2 ⟨rfl, hw2⟩
  obtain ⟨b, hb⟩ : ∃ b, uniqR nodes r = b := ⟨_, rfl⟩
  have HX := Lib.hid hb
  rw [hb]
  clear hb
  go_wp2
  go_ret
  exact ⟨by rw [HX.out]; rfl, hw2⟩
theorem entK2 : ∀ args w, (callFunc 61 args).run Tryz.prog w = .ok (.enter 61 args) w := fun args w => enterF Tryz.func61 (by kernel_rfl) rfl args w
theorem entK3 : ∀ args w, (callFunc 63 args).run Tryz.prog w = .ok (.enter 63 args) w := fun args w => enterF Tryz.func63 (by kernel_rfl) rfl args w
theorem entK4 : ∀ args w, (callFunc 66 args).run Tryz.prog w = .ok (.enter 66 args) w := fun args w => enterF Tryz.func66 (by kernel_rfl) rfl args w
theorem entK5 : ∀ args w, (callFunc 70 args).run Tryz.prog w = .ok (.enter 70 args) w := fun args w => enterF Tryz.func70 (by kernel_rfl) rfl args w

set_option maxRecDepth 100000 in
set_option maxHeartbeats 4000000 in
theorem ruleKeeps0 (nodes : List PNode) (edges : List PEdge) (nv ev : Value) (r : PRule) (w : World) (S : Nat → Prop) (hn : NodesR S w nv nodes) (he : EdgesR S w ev edges) (h64 : ∀ e ∈ edges, (Lit.int .i64 e.from_).wf = true) (hf : formR r = false) :
    Calls Tryz.prog 19 #[nv, ev, r.args] w fun e w' => e = .returned (.bool (keepR nodes edges r)) ∧ Grow w w' := by
  have HN := Lib.hid hn; have HE := Lib.hid he; have H64 := Lib.hid h64; have HF := Lib.hid hf
  obtain ⟨_, _, rfl, _⟩ := SlR.open hn
  obtain ⟨_, _, rfl, _⟩ := SlR.open he
  have HG := Lib.hid (show ∀ o1 o2 o3, Grow w (((w.alloc o1).alloc o2).alloc o3) from fun o1 o2 o3 => (((Grow.rfl' w).allocd o1).allocd o2).allocd o3)
  have HB := Lib.hid (boxes3k w)
  have hmm := @run_makeMap Tryz.prog
  clear hn he h64 hf
  go_enter Tryz.func19, Tryz.ntmps19
  go_wp2_with fail
  refine (ruleForm r _).mono ?_
  rintro e w2 ⟨rfl, hw2⟩
  rw [HF.out]
  obtain ⟨b1, b2, b3⟩ := HB.out _ _ _ w2 hw2
  have HG2 := Lib.hid ((HG.out _ _ _).step hw2)
  have HRB := Lib.hid (show RuleBox w2 (w.heap.size + 1 + 1) r from b3)
  have HNB := Lib.hid (show OneBox w2 w.heap.size _ from ⟨_, b1⟩)
  have HEB := Lib.hid (show OneBox w2 (w.heap.size + 1) _ from ⟨_, b2⟩)
  clear b1 b2 b3 hw2
  generalize w.heap.size + 1 + 1 = rb at *
  go_wp2
  go_ret
  exact ⟨by unfold keepR; rw [HF.out]; rfl, HG2.out⟩

set_option maxRecDepth 100000 in
set_option maxHeartbeats 4000000 in
theorem ruleKeeps1 (nodes : List PNode) (edges : List PEdge) (nv ev : Value) (r : PRule) (w : World) (S : Nat → Prop) (hn : NodesR S w nv nodes) (he : EdgesR S w ev edges) (h64 : ∀ e ∈ edges, (Lit.int .i64 e.from_).wf = true) (hf : formR r = true) (hk : r.kind = 1) :
    Calls Tryz.prog 19 #[nv, ev, r.args] w fun e w' => e = .returned (.bool (keepR nodes edges r)) ∧ Grow w w' := by
  have HN := Lib.hid hn; have HE := Lib.hid he; have H64 := Lib.hid h64; have HF := Lib.hid hf
  obtain ⟨_, _, rfl, _⟩ := SlR.open hn
  obtain ⟨_, _, rfl, _⟩ := SlR.open he
  have HG := Lib.hid (show ∀ o1 o2 o3, Grow w (((w.alloc o1).alloc o2).alloc o3) from fun o1 o2 o3 => (((Grow.rfl' w).allocd o1).allocd o2).allocd o3)
  have HB := Lib.hid (boxes3k w)
  have hmm := @run_makeMap Tryz.prog
  have HK := Lib.hid hk
  clear hn he h64 hf hk
  go_enter Tryz.func19, Tryz.ntmps19
  go_wp2_with fail
  refine (ruleForm r _).mono ?_
  rintro e w2 ⟨rfl, hw2⟩
  rw [HF.out]
  obtain ⟨b1, b2, b3⟩ := HB.out _ _ _ w2 hw2
  have HG2 := Lib.hid ((HG.out _ _ _).step hw2)
  have HRB := Lib.hid (show RuleBox w2 (w.heap.size + 1 + 1) r from b3)
  have HNB := Lib.hid (show OneBox w2 w.heap.size _ from ⟨_, b1⟩)
  have HEB := Lib.hid (show OneBox w2 (w.heap.size + 1) _ from ⟨_, b2⟩)
  clear b1 b2 b3 hw2
  generalize w.heap.size + 1 + 1 = rb at *
  have hsz : (w2.alloc (.cells #[ofV (rb)] 109)).heap.size = w2.heap.size + 1 := by simp
  have hT : Tryz.prog.underlying 117 = some (.map 3 30) := Tryz.underlying117
  have hI : Tryz.prog.underlying 3 = some (.int .i64) := Tryz.underlying3
  have i1 := run_ins _ _ hsz hT hI #[] 0 1 (.func (.func 61) #[] #[.pointer (some ⟨w.heap.size, 0, none⟩), .pointer (some ⟨rb, 0, none⟩)]) rfl
  have i2 := run_ins _ _ hsz hT hI #[{ key := .int .i64 1, val := (.func (.func 61) #[] #[.pointer (some ⟨w.heap.size, 0, none⟩), .pointer (some ⟨rb, 0, none⟩)]), born := 0 }] 1 2 (.func (.func 63) #[] #[.pointer (some ⟨w.heap.size, 0, none⟩), .pointer (some ⟨rb, 0, none⟩), .pointer (some ⟨w2.heap.size, 0, none⟩)]) rfl
  have i3 := run_ins _ _ hsz hT hI #[{ key := .int .i64 1, val := (.func (.func 61) #[] #[.pointer (some ⟨w.heap.size, 0, none⟩), .pointer (some ⟨rb, 0, none⟩)]), born := 0 }, { key := .int .i64 2, val := (.func (.func 63) #[] #[.pointer (some ⟨w.heap.size, 0, none⟩), .pointer (some ⟨rb, 0, none⟩), .pointer (some ⟨w2.heap.size, 0, none⟩)]), born := 1 }] 2 3 (.func (.func 66) #[] #[.pointer (some ⟨w.heap.size + 1, 0, none⟩), .pointer (some ⟨w.heap.size, 0, none⟩), .pointer (some ⟨w2.heap.size, 0, none⟩), .pointer (some ⟨rb, 0, none⟩)]) rfl
  have i4 := run_ins _ _ hsz hT hI #[{ key := .int .i64 1, val := (.func (.func 61) #[] #[.pointer (some ⟨w.heap.size, 0, none⟩), .pointer (some ⟨rb, 0, none⟩)]), born := 0 }, { key := .int .i64 2, val := (.func (.func 63) #[] #[.pointer (some ⟨w.heap.size, 0, none⟩), .pointer (some ⟨rb, 0, none⟩), .pointer (some ⟨w2.heap.size, 0, none⟩)]), born := 1 }, { key := .int .i64 3, val := (.func (.func 66) #[] #[.pointer (some ⟨w.heap.size + 1, 0, none⟩), .pointer (some ⟨w.heap.size, 0, none⟩), .pointer (some ⟨w2.heap.size, 0, none⟩), .pointer (some ⟨rb, 0, none⟩)]), born := 2 }] 3 4 (.func (.func 70) #[] #[.pointer (some ⟨w.heap.size + 1, 0, none⟩), .pointer (some ⟨w2.heap.size, 0, none⟩), .pointer (some ⟨rb, 0, none⟩)]) rfl
  simp only [List.push_toArray, List.cons_append, List.nil_append, Nat.reduceAdd] at i1 i2 i3 i4
  have lk := run_look_hit1 _ _ hsz hT hI #[{ key := .int .i64 1, val := (.func (.func 61) #[] #[.pointer (some ⟨w.heap.size, 0, none⟩), .pointer (some ⟨rb, 0, none⟩)]), born := 0 }, { key := .int .i64 2, val := (.func (.func 63) #[] #[.pointer (some ⟨w.heap.size, 0, none⟩), .pointer (some ⟨rb, 0, none⟩), .pointer (some ⟨w2.heap.size, 0, none⟩)]), born := 1 }, { key := .int .i64 3, val := (.func (.func 66) #[] #[.pointer (some ⟨w.heap.size + 1, 0, none⟩), .pointer (some ⟨w.heap.size, 0, none⟩), .pointer (some ⟨w2.heap.size, 0, none⟩), .pointer (some ⟨rb, 0, none⟩)]), born := 2 }, { key := .int .i64 4, val := (.func (.func 70) #[] #[.pointer (some ⟨w.heap.size + 1, 0, none⟩), .pointer (some ⟨w2.heap.size, 0, none⟩), .pointer (some ⟨rb, 0, none⟩)]), born := 3 }] 4 1 0 (.func (.func 61) #[] #[.pointer (some ⟨w.heap.size, 0, none⟩), .pointer (some ⟨rb, 0, none⟩)]) rfl
  have HG3 := Lib.hid (show ∀ o1 o2, Grow w2 ((w2.alloc o1).alloc o2) from fun o1 o2 => ((Grow.rfl' w2).allocd o1).allocd o2)
  have HG4 := Lib.hid (show ∀ o1 o2, Grow w ((w2.alloc o1).alloc o2) from fun o1 o2 => HG2.out.step (HG3.out o1 o2))
  have HFB := Lib.hid (show ∀ o2, OneBox ((w2.alloc (.cells #[ofV (rb)] 109)).alloc o2) w2.heap.size (ofV (rb)) from fun o2 => ⟨_, by
    rw [((Grow.rfl' (w2.alloc (.cells #[ofV (rb)] 109))).allocd o2).heapEq (by simp)]
    exact heap_alloc_new w2 _⟩)
  obtain ⟨hrl, -, c2, c3, c4, c5, c6, c7, c0⟩ := HRB.out.cells
  have c1 : w2.cell? ⟨rb, 1, none⟩ = some (.int .i64 1) := by rw [HRB.out.cells.2.1, HK.out]
  have entK2 := entK2
  clear hsz c2 c3 c4 c5 c6 c7 c0
  go_wp2_with fail
  refine (keepsUniq nodes _ _ _ r _ S (HN.out.grow (HG4.out _ _)) (HNB.out.grow (HG3.out _ _)) (HRB.out.grow (HG3.out _ _))).mono ?_
  rintro e w3 ⟨rfl, hw3⟩
  obtain ⟨b, hb⟩ : ∃ b, (uniqR nodes r) = b := ⟨_, rfl⟩
  have HX := Lib.hid (show keepR nodes edges r = b by unfold keepR holdR; rw [HF.out, HK.out]; simpa using hb)
  rw [hb]
  clear hb
  go_wp2
  go_ret
  exact ⟨by rw [HX.out]; rfl, (HG4.out _ _).step hw3⟩

set_option maxRecDepth 100000 in
set_option maxHeartbeats 4000000 in
theorem ruleKeeps2 (nodes : List PNode) (edges : List PEdge) (nv ev : Value) (r : PRule) (w : World) (S : Nat → Prop) (hn : NodesR S w nv nodes) (he : EdgesR S w ev edges) (h64 : ∀ e ∈ edges, (Lit.int .i64 e.from_).wf = true) (hf : formR r = true) (hk : r.kind = 2) :
    Calls Tryz.prog 19 #[nv, ev, r.args] w fun e w' => e = .returned (.bool (keepR nodes edges r)) ∧ Grow w w' := by
  have HN := Lib.hid hn; have HE := Lib.hid he; have H64 := Lib.hid h64; have HF := Lib.hid hf
  obtain ⟨_, _, rfl, _⟩ := SlR.open hn
  obtain ⟨_, _, rfl, _⟩ := SlR.open he
  have HG := Lib.hid (show ∀ o1 o2 o3, Grow w (((w.alloc o1).alloc o2).alloc o3) from fun o1 o2 o3 => (((Grow.rfl' w).allocd o1).allocd o2).allocd o3)
  have HB := Lib.hid (boxes3k w)
  have hmm := @run_makeMap Tryz.prog
  have HK := Lib.hid hk
  clear hn he h64 hf hk
  go_enter Tryz.func19, Tryz.ntmps19
  go_wp2_with fail
  refine (ruleForm r _).mono ?_
  rintro e w2 ⟨rfl, hw2⟩
  rw [HF.out]
  obtain ⟨b1, b2, b3⟩ := HB.out _ _ _ w2 hw2
  have HG2 := Lib.hid ((HG.out _ _ _).step hw2)
  have HRB := Lib.hid (show RuleBox w2 (w.heap.size + 1 + 1) r from b3)
  have HNB := Lib.hid (show OneBox w2 w.heap.size _ from ⟨_, b1⟩)
  have HEB := Lib.hid (show OneBox w2 (w.heap.size + 1) _ from ⟨_, b2⟩)
  clear b1 b2 b3 hw2
  generalize w.heap.size + 1 + 1 = rb at *
  have hsz : (w2.alloc (.cells #[ofV (rb)] 109)).heap.size = w2.heap.size + 1 := by simp
  have hT : Tryz.prog.underlying 117 = some (.map 3 30) := Tryz.underlying117
  have hI : Tryz.prog.underlying 3 = some (.int .i64) := Tryz.underlying3
  have i1 := run_ins _ _ hsz hT hI #[] 0 1 (.func (.func 61) #[] #[.pointer (some ⟨w.heap.size, 0, none⟩), .pointer (some ⟨rb, 0, none⟩)]) rfl
  have i2 := run_ins _ _ hsz hT hI #[{ key := .int .i64 1, val := (.func (.func 61) #[] #[.pointer (some ⟨w.heap.size, 0, none⟩), .pointer (some ⟨rb, 0, none⟩)]), born := 0 }] 1 2 (.func (.func 63) #[] #[.pointer (some ⟨w.heap.size, 0, none⟩), .pointer (some ⟨rb, 0, none⟩), .pointer (some ⟨w2.heap.size, 0, none⟩)]) rfl
  have i3 := run_ins _ _ hsz hT hI #[{ key := .int .i64 1, val := (.func (.func 61) #[] #[.pointer (some ⟨w.heap.size, 0, none⟩), .pointer (some ⟨rb, 0, none⟩)]), born := 0 }, { key := .int .i64 2, val := (.func (.func 63) #[] #[.pointer (some ⟨w.heap.size, 0, none⟩), .pointer (some ⟨rb, 0, none⟩), .pointer (some ⟨w2.heap.size, 0, none⟩)]), born := 1 }] 2 3 (.func (.func 66) #[] #[.pointer (some ⟨w.heap.size + 1, 0, none⟩), .pointer (some ⟨w.heap.size, 0, none⟩), .pointer (some ⟨w2.heap.size, 0, none⟩), .pointer (some ⟨rb, 0, none⟩)]) rfl
  have i4 := run_ins _ _ hsz hT hI #[{ key := .int .i64 1, val := (.func (.func 61) #[] #[.pointer (some ⟨w.heap.size, 0, none⟩), .pointer (some ⟨rb, 0, none⟩)]), born := 0 }, { key := .int .i64 2, val := (.func (.func 63) #[] #[.pointer (some ⟨w.heap.size, 0, none⟩), .pointer (some ⟨rb, 0, none⟩), .pointer (some ⟨w2.heap.size, 0, none⟩)]), born := 1 }, { key := .int .i64 3, val := (.func (.func 66) #[] #[.pointer (some ⟨w.heap.size + 1, 0, none⟩), .pointer (some ⟨w.heap.size, 0, none⟩), .pointer (some ⟨w2.heap.size, 0, none⟩), .pointer (some ⟨rb, 0, none⟩)]), born := 2 }] 3 4 (.func (.func 70) #[] #[.pointer (some ⟨w.heap.size + 1, 0, none⟩), .pointer (some ⟨w2.heap.size, 0, none⟩), .pointer (some ⟨rb, 0, none⟩)]) rfl
  simp only [List.push_toArray, List.cons_append, List.nil_append, Nat.reduceAdd] at i1 i2 i3 i4
  have lk := run_look_hit1 _ _ hsz hT hI #[{ key := .int .i64 1, val := (.func (.func 61) #[] #[.pointer (some ⟨w.heap.size, 0, none⟩), .pointer (some ⟨rb, 0, none⟩)]), born := 0 }, { key := .int .i64 2, val := (.func (.func 63) #[] #[.pointer (some ⟨w.heap.size, 0, none⟩), .pointer (some ⟨rb, 0, none⟩), .pointer (some ⟨w2.heap.size, 0, none⟩)]), born := 1 }, { key := .int .i64 3, val := (.func (.func 66) #[] #[.pointer (some ⟨w.heap.size + 1, 0, none⟩), .pointer (some ⟨w.heap.size, 0, none⟩), .pointer (some ⟨w2.heap.size, 0, none⟩), .pointer (some ⟨rb, 0, none⟩)]), born := 2 }, { key := .int .i64 4, val := (.func (.func 70) #[] #[.pointer (some ⟨w.heap.size + 1, 0, none⟩), .pointer (some ⟨w2.heap.size, 0, none⟩), .pointer (some ⟨rb, 0, none⟩)]), born := 3 }] 4 2 1 (.func (.func 63) #[] #[.pointer (some ⟨w.heap.size, 0, none⟩), .pointer (some ⟨rb, 0, none⟩), .pointer (some ⟨w2.heap.size, 0, none⟩)]) rfl
  have HG3 := Lib.hid (show ∀ o1 o2, Grow w2 ((w2.alloc o1).alloc o2) from fun o1 o2 => ((Grow.rfl' w2).allocd o1).allocd o2)
  have HG4 := Lib.hid (show ∀ o1 o2, Grow w ((w2.alloc o1).alloc o2) from fun o1 o2 => HG2.out.step (HG3.out o1 o2))
  have HFB := Lib.hid (show ∀ o2, OneBox ((w2.alloc (.cells #[ofV (rb)] 109)).alloc o2) w2.heap.size (ofV (rb)) from fun o2 => ⟨_, by
    rw [((Grow.rfl' (w2.alloc (.cells #[ofV (rb)] 109))).allocd o2).heapEq (by simp)]
    exact heap_alloc_new w2 _⟩)
  obtain ⟨hrl, -, c2, c3, c4, c5, c6, c7, c0⟩ := HRB.out.cells
  have c1 : w2.cell? ⟨rb, 1, none⟩ = some (.int .i64 2) := by rw [HRB.out.cells.2.1, HK.out]
  have entK3 := entK3
  clear hsz c2 c3 c4 c5 c6 c7 c0
  go_wp2_with fail
  refine (keepsExists nodes _ _ _ _ r _ S (HN.out.grow (HG4.out _ _)) (HNB.out.grow (HG3.out _ _)) (HRB.out.grow (HG3.out _ _)) (HFB.out _)).mono ?_
  rintro e w3 ⟨rfl, hw3⟩
  obtain ⟨b, hb⟩ : ∃ b, (!nodes.any (lacksR r)) = b := ⟨_, rfl⟩
  have HX := Lib.hid (show keepR nodes edges r = b by unfold keepR holdR; rw [HF.out, HK.out]; simpa using hb)
  rw [hb]
  clear hb
  go_wp2
  go_ret
  exact ⟨by rw [HX.out]; rfl, (HG4.out _ _).step hw3⟩

set_option maxRecDepth 100000 in
set_option maxHeartbeats 4000000 in
theorem ruleKeeps3 (nodes : List PNode) (edges : List PEdge) (nv ev : Value) (r : PRule) (w : World) (S : Nat → Prop) (hn : NodesR S w nv nodes) (he : EdgesR S w ev edges) (h64 : ∀ e ∈ edges, (Lit.int .i64 e.from_).wf = true) (hf : formR r = true) (hk : r.kind = 3) :
    Calls Tryz.prog 19 #[nv, ev, r.args] w fun e w' => e = .returned (.bool (keepR nodes edges r)) ∧ Grow w w' := by
  have HN := Lib.hid hn; have HE := Lib.hid he; have H64 := Lib.hid h64; have HF := Lib.hid hf
  obtain ⟨_, _, rfl, _⟩ := SlR.open hn
  obtain ⟨_, _, rfl, _⟩ := SlR.open he
  have HG := Lib.hid (show ∀ o1 o2 o3, Grow w (((w.alloc o1).alloc o2).alloc o3) from fun o1 o2 o3 => (((Grow.rfl' w).allocd o1).allocd o2).allocd o3)
  have HB := Lib.hid (boxes3k w)
  have hmm := @run_makeMap Tryz.prog
  have HK := Lib.hid hk
  clear hn he h64 hf hk
  go_enter Tryz.func19, Tryz.ntmps19
  go_wp2_with fail
  refine (ruleForm r _).mono ?_
  rintro e w2 ⟨rfl, hw2⟩
  rw [HF.out]
  obtain ⟨b1, b2, b3⟩ := HB.out _ _ _ w2 hw2
  have HG2 := Lib.hid ((HG.out _ _ _).step hw2)
  have HRB := Lib.hid (show RuleBox w2 (w.heap.size + 1 + 1) r from b3)
  have HNB := Lib.hid (show OneBox w2 w.heap.size _ from ⟨_, b1⟩)
  have HEB := Lib.hid (show OneBox w2 (w.heap.size + 1) _ from ⟨_, b2⟩)
  clear b1 b2 b3 hw2
  generalize w.heap.size + 1 + 1 = rb at *
  have hsz : (w2.alloc (.cells #[ofV (rb)] 109)).heap.size = w2.heap.size + 1 := by simp
  have hT : Tryz.prog.underlying 117 = some (.map 3 30) := Tryz.underlying117
  have hI : Tryz.prog.underlying 3 = some (.int .i64) := Tryz.underlying3
  have i1 := run_ins _ _ hsz hT hI #[] 0 1 (.func (.func 61) #[] #[.pointer (some ⟨w.heap.size, 0, none⟩), .pointer (some ⟨rb, 0, none⟩)]) rfl
  have i2 := run_ins _ _ hsz hT hI #[{ key := .int .i64 1, val := (.func (.func 61) #[] #[.pointer (some ⟨w.heap.size, 0, none⟩), .pointer (some ⟨rb, 0, none⟩)]), born := 0 }] 1 2 (.func (.func 63) #[] #[.pointer (some ⟨w.heap.size, 0, none⟩), .pointer (some ⟨rb, 0, none⟩), .pointer (some ⟨w2.heap.size, 0, none⟩)]) rfl
  have i3 := run_ins _ _ hsz hT hI #[{ key := .int .i64 1, val := (.func (.func 61) #[] #[.pointer (some ⟨w.heap.size, 0, none⟩), .pointer (some ⟨rb, 0, none⟩)]), born := 0 }, { key := .int .i64 2, val := (.func (.func 63) #[] #[.pointer (some ⟨w.heap.size, 0, none⟩), .pointer (some ⟨rb, 0, none⟩), .pointer (some ⟨w2.heap.size, 0, none⟩)]), born := 1 }] 2 3 (.func (.func 66) #[] #[.pointer (some ⟨w.heap.size + 1, 0, none⟩), .pointer (some ⟨w.heap.size, 0, none⟩), .pointer (some ⟨w2.heap.size, 0, none⟩), .pointer (some ⟨rb, 0, none⟩)]) rfl
  have i4 := run_ins _ _ hsz hT hI #[{ key := .int .i64 1, val := (.func (.func 61) #[] #[.pointer (some ⟨w.heap.size, 0, none⟩), .pointer (some ⟨rb, 0, none⟩)]), born := 0 }, { key := .int .i64 2, val := (.func (.func 63) #[] #[.pointer (some ⟨w.heap.size, 0, none⟩), .pointer (some ⟨rb, 0, none⟩), .pointer (some ⟨w2.heap.size, 0, none⟩)]), born := 1 }, { key := .int .i64 3, val := (.func (.func 66) #[] #[.pointer (some ⟨w.heap.size + 1, 0, none⟩), .pointer (some ⟨w.heap.size, 0, none⟩), .pointer (some ⟨w2.heap.size, 0, none⟩), .pointer (some ⟨rb, 0, none⟩)]), born := 2 }] 3 4 (.func (.func 70) #[] #[.pointer (some ⟨w.heap.size + 1, 0, none⟩), .pointer (some ⟨w2.heap.size, 0, none⟩), .pointer (some ⟨rb, 0, none⟩)]) rfl
  simp only [List.push_toArray, List.cons_append, List.nil_append, Nat.reduceAdd] at i1 i2 i3 i4
  have lk := run_look_hit1 _ _ hsz hT hI #[{ key := .int .i64 1, val := (.func (.func 61) #[] #[.pointer (some ⟨w.heap.size, 0, none⟩), .pointer (some ⟨rb, 0, none⟩)]), born := 0 }, { key := .int .i64 2, val := (.func (.func 63) #[] #[.pointer (some ⟨w.heap.size, 0, none⟩), .pointer (some ⟨rb, 0, none⟩), .pointer (some ⟨w2.heap.size, 0, none⟩)]), born := 1 }, { key := .int .i64 3, val := (.func (.func 66) #[] #[.pointer (some ⟨w.heap.size + 1, 0, none⟩), .pointer (some ⟨w.heap.size, 0, none⟩), .pointer (some ⟨w2.heap.size, 0, none⟩), .pointer (some ⟨rb, 0, none⟩)]), born := 2 }, { key := .int .i64 4, val := (.func (.func 70) #[] #[.pointer (some ⟨w.heap.size + 1, 0, none⟩), .pointer (some ⟨w2.heap.size, 0, none⟩), .pointer (some ⟨rb, 0, none⟩)]), born := 3 }] 4 3 2 (.func (.func 66) #[] #[.pointer (some ⟨w.heap.size + 1, 0, none⟩), .pointer (some ⟨w.heap.size, 0, none⟩), .pointer (some ⟨w2.heap.size, 0, none⟩), .pointer (some ⟨rb, 0, none⟩)]) rfl
  have HG3 := Lib.hid (show ∀ o1 o2, Grow w2 ((w2.alloc o1).alloc o2) from fun o1 o2 => ((Grow.rfl' w2).allocd o1).allocd o2)
  have HG4 := Lib.hid (show ∀ o1 o2, Grow w ((w2.alloc o1).alloc o2) from fun o1 o2 => HG2.out.step (HG3.out o1 o2))
  have HFB := Lib.hid (show ∀ o2, OneBox ((w2.alloc (.cells #[ofV (rb)] 109)).alloc o2) w2.heap.size (ofV (rb)) from fun o2 => ⟨_, by
    rw [((Grow.rfl' (w2.alloc (.cells #[ofV (rb)] 109))).allocd o2).heapEq (by simp)]
    exact heap_alloc_new w2 _⟩)
  obtain ⟨hrl, -, c2, c3, c4, c5, c6, c7, c0⟩ := HRB.out.cells
  have c1 : w2.cell? ⟨rb, 1, none⟩ = some (.int .i64 3) := by rw [HRB.out.cells.2.1, HK.out]
  have entK4 := entK4
  clear hsz c2 c3 c4 c5 c6 c7 c0
  go_wp2_with fail
  refine (keepsEnds nodes edges _ _ _ _ _ _ r _ S (HN.out.grow (HG4.out _ _)) (HE.out.grow (HG4.out _ _)) (HNB.out.grow (HG3.out _ _)) (HEB.out.grow (HG3.out _ _)) (HRB.out.grow (HG3.out _ _)) (HFB.out _)).mono ?_
  rintro e w3 ⟨rfl, hw3⟩
  obtain ⟨b, hb⟩ : ∃ b, (!edges.any (wrongR nodes r)) = b := ⟨_, rfl⟩
  have HX := Lib.hid (show keepR nodes edges r = b by unfold keepR holdR; rw [HF.out, HK.out]; simpa using hb)
  rw [hb]
  clear hb
  go_wp2
  go_ret
  exact ⟨by rw [HX.out]; rfl, (HG4.out _ _).step hw3⟩

set_option maxRecDepth 100000 in
set_option maxHeartbeats 4000000 in
theorem ruleKeeps4 (nodes : List PNode) (edges : List PEdge) (nv ev : Value) (r : PRule) (w : World) (S : Nat → Prop) (hn : NodesR S w nv nodes) (he : EdgesR S w ev edges) (h64 : ∀ e ∈ edges, (Lit.int .i64 e.from_).wf = true) (hf : formR r = true) (hk : r.kind = 4) :
    Calls Tryz.prog 19 #[nv, ev, r.args] w fun e w' => e = .returned (.bool (keepR nodes edges r)) ∧ Grow w w' := by
  have HN := Lib.hid hn; have HE := Lib.hid he; have H64 := Lib.hid h64; have HF := Lib.hid hf
  obtain ⟨_, _, rfl, _⟩ := SlR.open hn
  obtain ⟨_, _, rfl, _⟩ := SlR.open he
  have HG := Lib.hid (show ∀ o1 o2 o3, Grow w (((w.alloc o1).alloc o2).alloc o3) from fun o1 o2 o3 => (((Grow.rfl' w).allocd o1).allocd o2).allocd o3)
  have HB := Lib.hid (boxes3k w)
  have hmm := @run_makeMap Tryz.prog
  have HK := Lib.hid hk
  clear hn he h64 hf hk
  go_enter Tryz.func19, Tryz.ntmps19
  go_wp2_with fail
  refine (ruleForm r _).mono ?_
  rintro e w2 ⟨rfl, hw2⟩
  rw [HF.out]
  obtain ⟨b1, b2, b3⟩ := HB.out _ _ _ w2 hw2
  have HG2 := Lib.hid ((HG.out _ _ _).step hw2)
  have HRB := Lib.hid (show RuleBox w2 (w.heap.size + 1 + 1) r from b3)
  have HNB := Lib.hid (show OneBox w2 w.heap.size _ from ⟨_, b1⟩)
  have HEB := Lib.hid (show OneBox w2 (w.heap.size + 1) _ from ⟨_, b2⟩)
  clear b1 b2 b3 hw2
  generalize w.heap.size + 1 + 1 = rb at *
  have hsz : (w2.alloc (.cells #[ofV (rb)] 109)).heap.size = w2.heap.size + 1 := by simp
  have hT : Tryz.prog.underlying 117 = some (.map 3 30) := Tryz.underlying117
  have hI : Tryz.prog.underlying 3 = some (.int .i64) := Tryz.underlying3
  have i1 := run_ins _ _ hsz hT hI #[] 0 1 (.func (.func 61) #[] #[.pointer (some ⟨w.heap.size, 0, none⟩), .pointer (some ⟨rb, 0, none⟩)]) rfl
  have i2 := run_ins _ _ hsz hT hI #[{ key := .int .i64 1, val := (.func (.func 61) #[] #[.pointer (some ⟨w.heap.size, 0, none⟩), .pointer (some ⟨rb, 0, none⟩)]), born := 0 }] 1 2 (.func (.func 63) #[] #[.pointer (some ⟨w.heap.size, 0, none⟩), .pointer (some ⟨rb, 0, none⟩), .pointer (some ⟨w2.heap.size, 0, none⟩)]) rfl
  have i3 := run_ins _ _ hsz hT hI #[{ key := .int .i64 1, val := (.func (.func 61) #[] #[.pointer (some ⟨w.heap.size, 0, none⟩), .pointer (some ⟨rb, 0, none⟩)]), born := 0 }, { key := .int .i64 2, val := (.func (.func 63) #[] #[.pointer (some ⟨w.heap.size, 0, none⟩), .pointer (some ⟨rb, 0, none⟩), .pointer (some ⟨w2.heap.size, 0, none⟩)]), born := 1 }] 2 3 (.func (.func 66) #[] #[.pointer (some ⟨w.heap.size + 1, 0, none⟩), .pointer (some ⟨w.heap.size, 0, none⟩), .pointer (some ⟨w2.heap.size, 0, none⟩), .pointer (some ⟨rb, 0, none⟩)]) rfl
  have i4 := run_ins _ _ hsz hT hI #[{ key := .int .i64 1, val := (.func (.func 61) #[] #[.pointer (some ⟨w.heap.size, 0, none⟩), .pointer (some ⟨rb, 0, none⟩)]), born := 0 }, { key := .int .i64 2, val := (.func (.func 63) #[] #[.pointer (some ⟨w.heap.size, 0, none⟩), .pointer (some ⟨rb, 0, none⟩), .pointer (some ⟨w2.heap.size, 0, none⟩)]), born := 1 }, { key := .int .i64 3, val := (.func (.func 66) #[] #[.pointer (some ⟨w.heap.size + 1, 0, none⟩), .pointer (some ⟨w.heap.size, 0, none⟩), .pointer (some ⟨w2.heap.size, 0, none⟩), .pointer (some ⟨rb, 0, none⟩)]), born := 2 }] 3 4 (.func (.func 70) #[] #[.pointer (some ⟨w.heap.size + 1, 0, none⟩), .pointer (some ⟨w2.heap.size, 0, none⟩), .pointer (some ⟨rb, 0, none⟩)]) rfl
  simp only [List.push_toArray, List.cons_append, List.nil_append, Nat.reduceAdd] at i1 i2 i3 i4
  have lk := run_look_hit1 _ _ hsz hT hI #[{ key := .int .i64 1, val := (.func (.func 61) #[] #[.pointer (some ⟨w.heap.size, 0, none⟩), .pointer (some ⟨rb, 0, none⟩)]), born := 0 }, { key := .int .i64 2, val := (.func (.func 63) #[] #[.pointer (some ⟨w.heap.size, 0, none⟩), .pointer (some ⟨rb, 0, none⟩), .pointer (some ⟨w2.heap.size, 0, none⟩)]), born := 1 }, { key := .int .i64 3, val := (.func (.func 66) #[] #[.pointer (some ⟨w.heap.size + 1, 0, none⟩), .pointer (some ⟨w.heap.size, 0, none⟩), .pointer (some ⟨w2.heap.size, 0, none⟩), .pointer (some ⟨rb, 0, none⟩)]), born := 2 }, { key := .int .i64 4, val := (.func (.func 70) #[] #[.pointer (some ⟨w.heap.size + 1, 0, none⟩), .pointer (some ⟨w2.heap.size, 0, none⟩), .pointer (some ⟨rb, 0, none⟩)]), born := 3 }] 4 4 3 (.func (.func 70) #[] #[.pointer (some ⟨w.heap.size + 1, 0, none⟩), .pointer (some ⟨w2.heap.size, 0, none⟩), .pointer (some ⟨rb, 0, none⟩)]) rfl
  have HG3 := Lib.hid (show ∀ o1 o2, Grow w2 ((w2.alloc o1).alloc o2) from fun o1 o2 => ((Grow.rfl' w2).allocd o1).allocd o2)
  have HG4 := Lib.hid (show ∀ o1 o2, Grow w ((w2.alloc o1).alloc o2) from fun o1 o2 => HG2.out.step (HG3.out o1 o2))
  have HFB := Lib.hid (show ∀ o2, OneBox ((w2.alloc (.cells #[ofV (rb)] 109)).alloc o2) w2.heap.size (ofV (rb)) from fun o2 => ⟨_, by
    rw [((Grow.rfl' (w2.alloc (.cells #[ofV (rb)] 109))).allocd o2).heapEq (by simp)]
    exact heap_alloc_new w2 _⟩)
  obtain ⟨hrl, -, c2, c3, c4, c5, c6, c7, c0⟩ := HRB.out.cells
  have c1 : w2.cell? ⟨rb, 1, none⟩ = some (.int .i64 4) := by rw [HRB.out.cells.2.1, HK.out]
  have entK5 := entK5
  clear hsz c2 c3 c4 c5 c6 c7 c0
  go_wp2_with fail
  refine (keepsMost edges _ _ _ _ r _ S (HE.out.grow (HG4.out _ _)) H64.out (HEB.out.grow (HG3.out _ _)) (HRB.out.grow (HG3.out _ _)) (HFB.out _)).mono ?_
  rintro e w3 ⟨rfl, hw3⟩
  obtain ⟨b, hb⟩ : ∃ b, (mostR edges r) = b := ⟨_, rfl⟩
  have HX := Lib.hid (show keepR nodes edges r = b by unfold keepR holdR; rw [HF.out, HK.out]; simpa using hb)
  rw [hb]
  clear hb
  go_wp2
  go_ret
  exact ⟨by rw [HX.out]; rfl, (HG4.out _ _).step hw3⟩

theorem ruleKeeps (nodes : List PNode) (edges : List PEdge) (nv ev : Value) (r : PRule) (w : World) (S : Nat → Prop) (hn : NodesR S w nv nodes) (he : EdgesR S w ev edges) (h64 : ∀ e ∈ edges, (Lit.int .i64 e.from_).wf = true) :
    Calls Tryz.prog 19 #[nv, ev, r.args] w fun e w' => e = .returned (.bool (keepR nodes edges r)) ∧ Grow w w' := by
  cases hf : formR r with
  | false => exact ruleKeeps0 nodes edges nv ev r w S hn he h64 hf
  | true =>
    rcases formR_kind hf with hk | hk | hk | hk
    · exact ruleKeeps1 nodes edges nv ev r w S hn he h64 hf hk
    · exact ruleKeeps2 nodes edges nv ev r w S hn he h64 hf hk
    · exact ruleKeeps3 nodes edges nv ev r w S hn he h64 hf hk
    · exact ruleKeeps4 nodes edges nv ev r w S hn he h64 hf hk
end Go.Hg

namespace Go.Hg
open Go.RowKit Go.Proofs

def badR (nodes : List PNode) (edges : List PEdge) (r : PRule) : Bool := decide (r.state = 2) && !keepR nodes edges r
def firstS (nodes : List PNode) (edges : List PEdge) (acc : Option Int) (r : PRule) : Option Int :=
  if badR nodes edges r = true then (match acc with | none => some r.id | some m => if r.id < m then some r.id else some m) else acc
def firstR (nodes : List PNode) (edges : List PEdge) (l : List PRule) : Option Int := l.foldl (firstS nodes edges) none
theorem firstR_snoc (nodes : List PNode) (edges : List PEdge) (l : List PRule) (r : PRule) : firstR nodes edges (l ++ [r]) = firstS nodes edges (firstR nodes edges l) r := by
  unfold firstR
  rw [List.foldl_append]
  rfl

set_option maxRecDepth 100000 in
set_option maxHeartbeats 2000000 in
theorem ruleFirst (nodes : List PNode) (edges : List PEdge) (l : List PRule) (nv ev lv : Value) (w : World) (S : Nat → Prop) (hn : NodesR S w nv nodes) (he : EdgesR S w ev edges) (hl : SlR S w 8 RRule lv l) (h64 : ∀ e ∈ edges, (Lit.int .i64 e.from_).wf = true) :
    Calls Tryz.prog 122 #[nv, ev, lv] w fun e w' => e = .returned (.tuple #[.int .i64 ((firstR nodes edges l).getD 0), .bool (firstR nodes edges l).isSome]) ∧ Grow w w' := by
  have HN := Lib.hid hn; have HE := Lib.hid he; have H64 := Lib.hid h64
  obtain ⟨_, _, rfl, _⟩ := SlR.open hn
  obtain ⟨_, _, rfl, _⟩ := SlR.open he
  obtain ⟨aa, ca, rfl, hal, hac, hA⟩ := SlR.open hl
  unfold maxLen at hac
  have HA := Lib.hid hA
  clear hn he hl h64 hA
  go_enter Tryz.func122, Tryz.ntmps122
  go_wp2
  go_loopg [8, 9, 14] l.length (fun g v8 v9 i wr => ∃ (k : Nat) (acc : Option Int), k ≤ l.length ∧ g = l.length - k ∧ i = .int .i64 k ∧ v8 = .int .i64 (acc.getD 0) ∧ v9 = .bool acc.isSome ∧ firstR nodes edges (l.take k) = acc ∧ Grow w wr)
  case atStart => exact ⟨0, none, by omega, by omega, rfl, rfl, rfl, rfl, Grow.rfl' w⟩
  case round =>
    obtain ⟨k, acc, hk, rfl, rfl, rfl, rfl, hacc, hgr⟩ := hrel
    have HACC := Lib.hid hacc; have HGR := Lib.hid hgr
    clear hacc
    by_cases hkl : k < l.length
    · obtain ⟨ba, oa, ra, rfl, hSa, hba, hRa, hca⟩ := HA.out k l[k] (List.getElem?_eq_getElem hkl)
      have HT := Lib.hid (show l.take (k + 1) = l.take k ++ [l[k]] from List.take_succ_eq_append_getElem hkl)
      generalize l[k] = x at *
      unfold RRule at hRa
      subst hRa
      have hba' : ba < wr.heap.size := Nat.lt_of_lt_of_le hba hgr.size
      have ec : ∀ o, wr.cell? ⟨ba, o, none⟩ = w.cell? ⟨ba, o, none⟩ := fun o => hgr.cell (p := ⟨ba, o, none⟩) hba
      have a0 : wr.cell? ⟨ba, oa + k * 8, none⟩ = some (.int .i64 x.id) := (ec _).trans (hca 0 _ rfl)
      have a1 := (ec _).trans (hca 1 _ rfl)
      have a2 := (ec _).trans (hca 2 _ rfl)
      have a3 := (ec _).trans (hca 3 _ rfl)
      have a4 := (ec _).trans (hca 4 _ rfl)
      have a5 := (ec _).trans (hca 5 _ rfl)
      have a6 := (ec _).trans (hca 6 _ rfl)
      have a7 := (ec _).trans (hca 7 _ rfl)
      clear hca ec hSa hba hgr
      have HW := Lib.hid (show ∀ o1, Grow w (wr.alloc o1) from fun o1 => HGR.out.allocd o1)
      have HNB := Lib.hid (show ∀ o1 w', Grow (wr.alloc o1) w' → w'.heap[wr.heap.size]? = some o1 from fun o1 w' hg => by rw [hg.heapEq (by simp)]; exact heap_alloc_new wr _)
      obtain ⟨kp, hkp⟩ : ∃ b, keepR nodes edges x = b := ⟨_, rfl⟩
      have HKP := Lib.hid hkp
      clear hkp
      by_cases hst : x.state = 2
      · have hs : (x.state == 2) = true := by simpa using hst
        have HB := Lib.hid (show badR nodes edges x = !kp by unfold badR; rw [HKP.out, hst]; rfl)
        clear hst
        go_wp2_with fail
        refine (ruleKeeps nodes edges _ _ x _ S (HN.out.grow (HW.out _)) (HE.out.grow (HW.out _)) H64.out).mono ?_
        rintro e w2 ⟨rfl, hw2⟩
        rw [HKP.out]
        have HG2 := Lib.hid ((HW.out _).step hw2)
        have hnb := HNB.out _ w2 hw2
        have hnl := blk_lt hnb
        have n0 : w2.cell? ⟨wr.heap.size, 0, none⟩ = some (.int .i64 x.id) := by rw [blk_cell hnb]; rfl
        clear hnb hw2 a0 a1 a2 a3 a4 a5 a6 a7
        cases kp
        · cases acc with
          | none =>
            simp only [Option.isSome, Option.getD]
            go_wp2
            go_roundg (l.length - (k + 1))
            case measure => omega
            case rel => exact ⟨k + 1, some x.id, by omega, rfl, by go_num, rfl, rfl, by rw [HT.out, firstR_snoc, HACC.out]; unfold firstS; rw [HB.out]; rfl, HG2.out⟩
          | some m =>
            simp only [Option.isSome, Option.getD]
            by_cases hlt : x.id < m
            · go_wp2
              go_roundg (l.length - (k + 1))
              case measure => omega
              case rel => exact ⟨k + 1, some x.id, by omega, rfl, by go_num, rfl, rfl, by rw [HT.out, firstR_snoc, HACC.out]; unfold firstS; rw [HB.out]; simp [hlt], HG2.out⟩
            · go_wp2
              go_roundg (l.length - (k + 1))
              case measure => omega
              case rel => exact ⟨k + 1, some m, by omega, rfl, by go_num, rfl, rfl, (by rw [HT.out, firstR_snoc, HACC.out]; unfold firstS; rw [HB.out]; simp; omega), HG2.out⟩
        · have HF := Lib.hid (show firstR nodes edges (l.take (k + 1)) = acc by rw [HT.out, firstR_snoc, HACC.out]; unfold firstS; rw [HB.out]; simp)
          go_wp2
          go_roundg (l.length - (k + 1))
          case measure => omega
          case rel => exact ⟨k + 1, acc, by omega, rfl, by go_num, rfl, rfl, HF.out, HG2.out⟩
      · have hs : (x.state == 2) = false := by simpa using hst
        have HF := Lib.hid (show firstR nodes edges (l.take (k + 1)) = acc by rw [HT.out, firstR_snoc, HACC.out]; unfold firstS badR; simp [hst])
        clear hst
        go_wp2
        go_roundg (l.length - (k + 1))
        case measure => omega
        case rel => exact ⟨k + 1, acc, by omega, rfl, by go_num, rfl, rfl, HF.out, HW.out _⟩
    · have hkk : l.take k = l := List.take_of_length_le (by omega)
      rw [hkk] at HACC
      clear hkk
      go_wp2
      go_ret2
      exact ⟨by rw [HACC.out]; rfl, HGR.out⟩
end Go.Hg

namespace Go.Hg
open Go.RowKit Go.Proofs

theorem rulesGrow {S : Nat → Prop} {w w' : World} {v : Value} {l : List PRule} (h : SlR S w 8 RRule v l) (g : Grow w w') : SlR S w' 8 RRule v l :=
  SlR.keep h (fun _ _ hb => g.heapEq hb) g.size (fun _ _ _ hR => hR)

def errR (o : Option Int) : Int := if o.isSome then 210 else 0
set_option maxRecDepth 100000 in
set_option maxHeartbeats 1000000 in
theorem checkFirst (gv : Value) (N : List PNode) (E : List PEdge) (l : List PRule) (lv : Value) (w : World) (S : Nat → Prop) (hg : GAt gv N E w) (hl : SlR S w 8 RRule lv l) (h64 : ∀ e ∈ E, (Lit.int .i64 e.from_).wf = true) :
    Calls Tryz.prog 76 #[gv, lv] w fun e w' => e = .returned (.tuple #[.int .i64 ((firstR N E l).getD 0), .int .i64 (errR (firstR N E l))]) ∧ Grow w w' := by
  have HG := Lib.hid hg; have HL := Lib.hid (SlR.sub hl (S' := fun _ => True) (R' := RRule) (fun _ _ => trivial) (fun _ _ _ h => h)); have H64 := Lib.hid h64
  obtain ⟨_, _, rfl, _⟩ := SlR.open hl
  clear hg hl h64
  go_enter Tryz.func76, Tryz.ntmps76
  go_wp2_with fail
  refine (HG.out _ (Grow.rfl' _)).1.mono ?_
  rintro e w2 ⟨v2, rfl, hn, g2⟩
  have HN := Lib.hid hn; have HG2 := Lib.hid g2
  clear hn g2
  go_wp2_with fail
  refine (HG.out _ HG2.out).2.mono ?_
  rintro e w3 ⟨v3, rfl, he, g3⟩
  have HE := Lib.hid he; have HG3 := Lib.hid g3
  clear he g3
  go_wp2_with fail
  refine (ruleFirst N E l _ _ _ _ _ (nodesT (HN.out.grow HG3.out)) (edgesT HE.out) (rulesGrow HL.out (HG2.out.step HG3.out)) H64.out).mono ?_
  rintro e w4 ⟨rfl, g4⟩
  have HG4 := Lib.hid ((HG2.out.step HG3.out).step g4)
  clear g4
  obtain ⟨o, ho⟩ : ∃ o, firstR N E l = o := ⟨_, rfl⟩
  have HO := Lib.hid ho
  rw [ho]
  clear ho
  cases o with
  | none =>
    simp only [Option.isSome, Option.getD]
    go_wp2
    go_ret2
    exact ⟨by rw [HO.out]; rfl, HG4.out⟩
  | some m =>
    simp only [Option.isSome, Option.getD]
    go_wp2
    go_ret2
    exact ⟨by rw [HO.out]; rfl, HG4.out⟩
set_option maxRecDepth 100000 in
set_option maxHeartbeats 1000000 in
theorem checkWhole (gv : Value) (N : List PNode) (E : List PEdge) (l : List PRule) (nv ev rv iv nx : Value) (w : World) (S : Nat → Prop) (hg : GAt gv N E w) (hl : SlR S w 8 RRule rv l) (h64 : ∀ e ∈ E, (Lit.int .i64 e.from_).wf = true) (hv : (∃ a n c, nv = .slice a n c) ∧ (∃ a n c, ev = .slice a n c) ∧ (∃ a n c, iv = .slice a n c) ∧ ∃ n, nx = .int .i64 n) :
    Calls Tryz.prog 25 #[.agg #[nv, ev, rv, iv, nx], gv] w fun e w' => e = .returned (.tuple #[.int .i64 ((firstR N E l).getD 0), .int .i64 (errR (firstR N E l))]) ∧ Grow w w' := by
  have HG := Lib.hid hg; have HL := Lib.hid hl; have H64 := Lib.hid h64
  obtain ⟨⟨_, _, _, rfl⟩, ⟨_, _, _, rfl⟩, ⟨_, _, _, rfl⟩, ⟨_, rfl⟩⟩ := hv
  obtain ⟨_, _, rfl, _⟩ := SlR.open hl
  have HW := Lib.hid (show ∀ o1, Grow w (w.alloc o1) from fun o1 => (Grow.rfl' w).allocd o1)
  clear hg hl h64
  go_enter Tryz.func25, Tryz.ntmps25
  go_wp2_with fail
  refine (checkFirst gv N E l _ _ S (HG.out.grow (HW.out _)) (rulesGrow HL.out (HW.out _)) H64.out).mono ?_
  rintro e w2 ⟨rfl, g2⟩
  have HG2 := Lib.hid ((HW.out _).step g2)
  clear g2
  go_wp2
  go_ret2
  exact ⟨rfl, HG2.out⟩
end Go.Hg
