/- Keys that are structs of three plain cells: told apart by their cells; rule.unique; rule.Keeps; check.first, Whole; build.ids: a graph's Ids from one on, rising; A row of structs of one's own, made since a block: the law of append; append of a whole slice to an empty one: a copy of one's own; append at a row of structs, as a step of a drawn region. Conditions: those that each theorem names. -/
import Derived.WalkKit
import Derived.WalkSpells
import Derived.WalkLawsBesides
import Derived.Lib.Hide
import Derived.BigQuiet
import Derived.Deep.LoopGhost
import Derived.Test.YtfachjfohhhgeaaGreatDoorRows
import Derived.Lib.SliceRun
import Derived.WideMake
import Derived.Deep.RegionLaw
import Derived.Lib.Overlaps
import Derived.Deep.RegionHeld3
import Derived.Laws.ResultCell
import Derived.Shelf.SortM.Plain
import Derived.Shelf.SortM.SortNone
import Derived.Shelf.SlicesE.DeleteFunc
import Derived.Maps.OwnOps
import Derived.Maps.OwnSet
import Derived.Carry
import Derived.Lib.SlKeysI
import Derived.Shelf.SlIterI.Nil
import Derived.Conc.LoneCalls
import Derived.Conc.SmallLaws
import Derived.Deep.CutBlock
import Derived.Deep.DeepCutAuto
import Derived.Laws.EntriesVeiled
import Derived.Maps.RangeWalk
import Derived.Lib.SlMapFilter
import Derived.Test.YtfachjfohhhgeaaGreatDoorBpH
namespace Go.Hg
open MapKept

def PlainT (P : Program) (t : TypeId) (x : Value) : Prop := (∃ n, x = .int .i64 n ∧ P.underlying t = some (.int .i64)) ∨ ∃ s, x = .string s ∧ P.underlying t = some .string
def plainEq : Value → Value → Bool
  | .int .i64 a, .int .i64 b => a == b
  | .string a, .string b => a == b
  | _, _ => false
section
variable {P : Program} {t : TypeId}
theorem run_plainEq {x y : Value} (hx : PlainT P t x) (hy : PlainT P t y) (d : Nat) (w : World) : (Op.equalIn (d + 1) t x y).run P w = .ok (plainEq x y) w := by
  rcases hx with ⟨a, rfl, hx⟩ | ⟨a, rfl, hx⟩ <;> rcases hy with ⟨b, rfl, hy⟩ | ⟨b, rfl, hy⟩
  · simp [Op.equalIn, run_underlying hx, plainEq, Result.andThen]
  · rw [hx] at hy; cases hy
  · rw [hx] at hy; cases hy
  · simp [Op.equalIn, run_underlying hx, plainEq, Result.andThen]
theorem plainEq_iff {x y : Value} (hx : PlainT P t x) (hy : PlainT P t y) : plainEq x y = true ↔ x = y := by
  rcases hx with ⟨a, rfl, hx⟩ | ⟨a, rfl, hx⟩ <;> rcases hy with ⟨b, rfl, hy⟩ | ⟨b, rfl, hy⟩
  · simp [plainEq]
  · rw [hx] at hy; cases hy
  · rw [hx] at hy; cases hy
  · simp only [plainEq, Value.string.injEq]
    exact bytes_beq a b
theorem run_partP {x : Value} (hx : PlainT P t x) {cs : Array Value} {o : Nat} (ho : cs[o]? = some x) (w : World) : (part t cs o).run P w = .ok x w := by
  rcases hx with ⟨a, rfl, hx⟩ | ⟨a, rfl, hx⟩ <;> simp [part, isAgg, run_underlying hx, ho, Result.andThen]
theorem run_checkP {x : Value} (hx : PlainT P t x) (d : Nat) (e : Bool) (w : World) : (Instr.checkKey e (d + 1) t x).run P w = .ok () w := by
  rcases hx with ⟨a, rfl, hx⟩ | ⟨a, rfl, hx⟩
  · exact MapKept.run_checkKey hx (by simp [IsKey]) e d
  · exact MapKept.run_checkKey hx (by simp [IsKey]) e d
variable {f0 f1 f2 : Field} {x0 x1 x2 y0 y1 y2 : Value}
theorem run_equal3 (hu : P.underlying t = some (.struct #[f0, f1, f2])) (hs : P.stoodInHeld t = false) (n0 : f0.name ≠ "_") (n1 : f1.name ≠ "_") (n2 : f2.name ≠ "_") (o0 : f0.offset = 0) (o1 : f1.offset = 1) (o2 : f2.offset = 2)
    (hx0 : PlainT P f0.type x0) (hx1 : PlainT P f1.type x1) (hx2 : PlainT P f2.type x2) (hy0 : PlainT P f0.type y0) (hy1 : PlainT P f1.type y1) (hy2 : PlainT P f2.type y2) (w : World) :
    (Op.equal t (.agg #[x0, x1, x2]) (.agg #[y0, y1, y2])).run P w = .ok (plainEq x0 y0 && (plainEq x1 y1 && plainEq x2 y2)) w := by
  have p0 := run_partP (P := P) hx0 (cs := #[x0, x1, x2]) (o := 0) rfl
  have p1 := run_partP (P := P) hx1 (cs := #[x0, x1, x2]) (o := 1) rfl
  have p2 := run_partP (P := P) hx2 (cs := #[x0, x1, x2]) (o := 2) rfl
  have q0 := run_partP (P := P) hy0 (cs := #[y0, y1, y2]) (o := 0) rfl
  have q1 := run_partP (P := P) hy1 (cs := #[y0, y1, y2]) (o := 1) rfl
  have q2 := run_partP (P := P) hy2 (cs := #[y0, y1, y2]) (o := 2) rfl
  have e0 := fun w => run_plainEq hx0 hy0 9998 w
  have e1 := fun w => run_plainEq hx1 hy1 9998 w
  have e2 := fun w => run_plainEq hx2 hy2 9998 w
  unfold Op.equal Op.maxDepth Op.equalIn
  simp only [Sem.run_bind, run_underlying hu, Result.andThen_ok]
  have hp : ∀ w, (program : Sem Program).run P w = .ok P w := fun w => rfl
  cases h0 : plainEq x0 y0 <;> cases h1 : plainEq x1 y1 <;> cases h2 : plainEq x2 y2 <;>
    simp [hp, hs, n0, n1, n2, o0, o1, o2, p0, p1, p2, q0, q1, q2, e0, e1, e2, h0, h1, h2, Result.andThen, Sem.run_bind]
theorem run_check3 (hu : P.underlying t = some (.struct #[f0, f1, f2])) (n0 : f0.name ≠ "_") (n1 : f1.name ≠ "_") (n2 : f2.name ≠ "_") (o0 : f0.offset = 0) (o1 : f1.offset = 1) (o2 : f2.offset = 2)
    (hx0 : PlainT P f0.type x0) (hx1 : PlainT P f1.type x1) (hx2 : PlainT P f2.type x2) (e : Bool) (w : World) : (Instr.checkKey e 10000 t (.agg #[x0, x1, x2])).run P w = .ok () w := by
  have p0 := run_partP (P := P) hx0 (cs := #[x0, x1, x2]) (o := 0) rfl
  have p1 := run_partP (P := P) hx1 (cs := #[x0, x1, x2]) (o := 1) rfl
  have p2 := run_partP (P := P) hx2 (cs := #[x0, x1, x2]) (o := 2) rfl
  have e0 := fun w => run_checkP hx0 9998 e w
  have e1 := fun w => run_checkP hx1 9998 e w
  have e2 := fun w => run_checkP hx2 9998 e w
  unfold Instr.checkKey
  simp only [Sem.run_bind, run_underlying hu, Result.andThen_ok]
  simp [n0, n1, n2, o0, o1, o2, p0, p1, p2, e0, e1, e2, Result.andThen, Sem.run_bind]
theorem findAsking3 {κ : Type} {c0 c1 c2 : κ → Value} (hu : P.underlying t = some (.struct #[f0, f1, f2])) (hs : P.stoodInHeld t = false) (n0 : f0.name ≠ "_") (n1 : f1.name ≠ "_") (n2 : f2.name ≠ "_") (o0 : f0.offset = 0) (o1 : f1.offset = 1) (o2 : f2.offset = 2)
    (h0 : ∀ k, PlainT P f0.type (c0 k)) (h1 : ∀ k, PlainT P f1.type (c1 k)) (h2 : ∀ k, PlainT P f2.type (c2 k)) (w : World) (k : κ) : ∀ (es : List MapEntry) (i : Nat), (∀ x ∈ es, ∃ q, x.key = .agg #[c0 q, c1 q, c2 q]) →
    ((Instr.findAsking t (.agg #[c0 k, c1 k, c2 k]) es i).run P w = .ok none w ∧ ∀ x ∈ es, x.key ≠ .agg #[c0 k, c1 k, c2 k]) ∨
    ∃ j e, (Instr.findAsking t (.agg #[c0 k, c1 k, c2 k]) es i).run P w = .ok (some (i + j, e.val)) w ∧ es[j]? = some e ∧ e.key = .agg #[c0 k, c1 k, c2 k]
  | [], i, _ => .inl ⟨by simp [Instr.findAsking], by simp⟩
  | e :: es, i, hall => by
    obtain ⟨q, hq⟩ := hall e (.head _)
    have hr := run_equal3 hu hs n0 n1 n2 o0 o1 o2 (h0 k) (h1 k) (h2 k) (h0 q) (h1 q) (h2 q) w
    cases hb : (plainEq (c0 k) (c0 q) && (plainEq (c1 k) (c1 q) && plainEq (c2 k) (c2 q)))
    · have hne : e.key ≠ .agg #[c0 k, c1 k, c2 k] := by
        rw [hq]
        intro he
        simp only [Value.agg.injEq] at he
        have e0 : c0 q = c0 k := by have := congrArg (fun a : Array Value => a[0]?) he; simpa using this
        have e1 : c1 q = c1 k := by have := congrArg (fun a : Array Value => a[1]?) he; simpa using this
        have e2 : c2 q = c2 k := by have := congrArg (fun a : Array Value => a[2]?) he; simpa using this
        rw [(plainEq_iff (h0 k) (h0 q)).2 e0.symm, (plainEq_iff (h1 k) (h1 q)).2 e1.symm, (plainEq_iff (h2 k) (h2 q)).2 e2.symm] at hb
        cases hb
      rw [hb] at hr
      rcases findAsking3 hu hs n0 n1 n2 o0 o1 o2 h0 h1 h2 w k es (i + 1) (fun x hx => hall x (.tail _ hx)) with ⟨g1, g2⟩ | ⟨j, e', g1, g2, g3⟩
      · refine .inl ⟨by simp [Instr.findAsking, hq, hr, g1, Result.andThen], fun x hx => ?_⟩
        rcases List.mem_cons.1 hx with rfl | hx
        · exact hne
        · exact g2 x hx
      · exact .inr ⟨j + 1, e', by simp [Instr.findAsking, hq, hr, g1, Result.andThen, Nat.add_assoc, Nat.add_comm 1 j], by simpa using g2, g3⟩
    · rw [hb] at hr
      rw [Bool.and_eq_true, Bool.and_eq_true] at hb
      have e0 := (plainEq_iff (h0 k) (h0 q)).1 hb.1
      have e1 := (plainEq_iff (h1 k) (h1 q)).1 hb.2.1
      have e2 := (plainEq_iff (h2 k) (h2 q)).1 hb.2.2
      exact .inr ⟨0, e, by simp [Instr.findAsking, hq, hr, Result.andThen], rfl, by rw [hq, e0, e1, e2]⟩
theorem keyK_struct3 {κ : Type} {c0 c1 c2 : κ → Value} (hu : P.underlying t = some (.struct #[f0, f1, f2])) (hs : P.stoodInHeld t = false) (n0 : f0.name ≠ "_") (n1 : f1.name ≠ "_") (n2 : f2.name ≠ "_") (o0 : f0.offset = 0) (o1 : f1.offset = 1) (o2 : f2.offset = 2)
    (h0 : ∀ k, PlainT P f0.type (c0 k)) (h1 : ∀ k, PlainT P f1.type (c1 k)) (h2 : ∀ k, PlainT P f2.type (c2 k)) (inj : ∀ {a b}, c0 a = c0 b → c1 a = c1 b → c2 a = c2 b → a = b) : KeyK P t (fun k : κ => .agg #[c0 k, c1 k, c2 k]) where
  inj he := by
    simp only [Value.agg.injEq] at he
    refine inj ?_ ?_ ?_
    · have := congrArg (fun a : Array Value => a[0]?) he; simpa using this
    · have := congrArg (fun a : Array Value => a[1]?) he; simpa using this
    · have := congrArg (fun a : Array Value => a[2]?) he; simpa using this
  check w e k := run_check3 hu n0 n1 n2 o0 o1 o2 (h0 k) (h1 k) (h2 k) e w
  find w k es hes := by
    have hn : es = [] ∨ Instr.findNow (.struct #[f0, f1, f2]) (.agg #[c0 k, c1 k, c2 k]) es 0 = none := by
      cases es with
      | nil => exact .inl rfl
      | cons e t => exact .inr (by simp [Instr.findNow, Instr.sameNow])
    rcases hn with rfl | hn
    · exact .inl ⟨by simp [Instr.findKey, run_underlying hu, Instr.findNow, Result.andThen], by simp⟩
    · have hf : (Instr.findKey t (.agg #[c0 k, c1 k, c2 k]) es).run P w = (Instr.findAsking t (.agg #[c0 k, c1 k, c2 k]) es 0).run P w := by
        simp [Instr.findKey, run_underlying hu, hn, Result.andThen]
      rw [hf]
      rcases findAsking3 hu hs n0 n1 n2 o0 o1 o2 h0 h1 h2 w k es 0 hes with h | ⟨j, e, g1, g2, g3⟩
      · exact .inl h
      · exact .inr ⟨j, e, by simpa using g1, g2, g3⟩
  stays w k := by
    have hb : ∀ (m : Nat) (f : Field) (x : Value), PlainT P f.type x → Instr.sameBits m x x = true := by
      intro m f x hx
      rcases hx with ⟨a, rfl, -⟩ | ⟨a, rfl, -⟩
      · simp [Instr.sameBits]
      · simp only [Instr.sameBits]
        exact (bytes_beq a a).2 rfl
    have h : Instr.sameBits 10000 (.agg #[c0 k, c1 k, c2 k]) (.agg #[c0 k, c1 k, c2 k]) = true := by
      simp [Instr.sameBits, hb 9999 f0 _ (h0 k), hb 9999 f1 _ (h1 k), hb 9999 f2 _ (h2 k)]
    simp [Instr.keyThatStays, h]
end
end Go.Hg

namespace Go.Hg
open Go.RowKit Go.Proofs MapKept Go.Maps

theorem keyV : KeyK Tryz.prog 48 PVal.args := by
  refine keyK_struct3 (c0 := fun v : PVal => .int .i64 v.kind) (c1 := fun v => .int .i64 v.n) (c2 := fun v => .string v.s) Tryz.underlying48 (by kernel_rfl) (by decide) (by decide) (by decide) rfl rfl rfl (fun v => .inl ⟨_, rfl, Tryz.underlying3⟩) (fun v => .inl ⟨_, rfl, Tryz.underlying2⟩) (fun v => .inr ⟨_, rfl, Tryz.underlying9⟩) ?_
  intro a b h0 h1 h2
  cases a; cases b
  simp only [Value.int.injEq, Value.string.injEq, true_and] at h0 h1 h2
  rw [h0, h1, h2]

set_option maxRecDepth 100000 in
set_option maxHeartbeats 4000000 in
theorem ruleUnique (nodes : List PNode) (nv : Value) (r : PRule) (w : World) (S : Nat → Prop) (hn : NodesR S w nv nodes) :
    Calls Tryz.prog 68 #[nv, r.args] w fun e w' => e = .returned (.bool (uniqR nodes r)) ∧ Grow w w' := by
  obtain ⟨aa, ca, rfl, hal, hac, hA⟩ := SlR.open hn
  unfold maxLen at hac
  have HA := Lib.hid hA
  have HG := Lib.hid (show ∀ o1 o2, Grow w ((w.alloc o1).alloc o2) from fun o1 o2 => ((Grow.rfl' w).allocd o1).allocd o2)
  have HM0 := Lib.hid (show ∀ o1, MapK PVal.args ((w.alloc o1).alloc (.map #[] 0)) (w.heap.size + 1) (cntK ([] : List PVal)) 0 from fun o1 => by
    have h := MapK.made (kv := PVal.args) (w.alloc o1)
    rw [World.size_alloc] at h
    exact h)
  have HR0 := Lib.hid (show ∀ o2, RuleBox ((w.alloc (.cells #[.int .i64 r.id, .int .i64 r.kind, .string r.typ, .string r.name, .string r.from_, .string r.to_, .int .i64 r.n, .int .i64 r.state] 23 (0, 0))).alloc o2) w.heap.size r from fun o2 => by
    unfold RuleBox
    rw [((Grow.rfl' (w.alloc _)).allocd o2).heapEq (by simp)]
    exact heap_alloc_new w _)
  clear hn hA
  have hmm := @run_makeMap Tryz.prog
  go_enter Tryz.func68, Tryz.ntmps68
  go_wp2
  clear hmm
  go_loopg [13] nodes.length (fun g i wr => ∃ k : Nat, k ≤ nodes.length ∧ g = nodes.length - k ∧ i = .int .i64 k ∧ MapK PVal.args wr (w.heap.size + 1) (cntK ((nodes.take k).filterMap (valR r))) k ∧ ((nodes.take k).filterMap (valR r)).Nodup ∧ RuleBox wr w.heap.size r ∧ Grow w wr)
  case atStart => exact ⟨0, by omega, by omega, rfl, HM0.out _, by simp, HR0.out _, HG.out _ _⟩
  case round =>
    obtain ⟨k, hk, rfl, rfl, hm, hno, hrb, hgr⟩ := hrel
    have HM := Lib.hid hm; have HGR := Lib.hid hgr; have HNO := Lib.hid hno; have HRB0 := Lib.hid hrb
    have hml := hm.lt
    obtain ⟨hrl, c1, c2, c3, c4, c5, c6, c7, c0⟩ := hrb.cells
    clear hm hno hrb c1 c4 c5 c6 c7 c0
    by_cases hkl : k < nodes.length
    · obtain ⟨ba, oa, ra, rfl, hSa, hba, hRa, hca⟩ := HA.out k nodes[k] (List.getElem?_eq_getElem hkl)
      obtain ⟨pva, hba', a0, a1, a2, hpa⟩ := hRa.at hba hgr hca
      clear hca hRa hSa hba
      have HT := Lib.hid (show nodes.take (k + 1) = nodes.take k ++ [nodes[k]] from List.take_succ_eq_append_getElem hkl)
      generalize nodes[k] = x at *
      have HPA := Lib.hid hpa
      obtain ⟨_, _, rfl⟩ := hpa.isSlice
      have HW := Lib.hid (show ∀ o1, Grow wr (wr.alloc o1) from fun o1 => (Grow.rfl' wr).allocd o1)
      have HNB := Lib.hid (show ∀ o1 w', Grow (wr.alloc o1) w' → w'.heap[wr.heap.size]? = some o1 from fun o1 w' hg => by rw [hg.heapEq (by simp)]; exact heap_alloc_new wr _)
      obtain ⟨gv, hgv⟩ : ∃ gv, getV x.props r.name = gv := ⟨_, rfl⟩
      obtain ⟨bo, hbo⟩ : ∃ bo, (getP x.props r.name).isSome = bo := ⟨_, rfl⟩
      obtain ⟨bt, hbt⟩ : ∃ b, decide (x.typ = r.typ) = b := ⟨_, rfl⟩
      have HV := Lib.hid (show valR r x = if (bo && bt) = true then some gv else none by
        unfold valR
        rw [← hgv, ← hbo, ← hbt]
        unfold getV
        by_cases h : x.typ = r.typ
        · cases hp : getP x.props r.name <;> simp [h]
        · simp [h])
      have HGV := Lib.hid hgv; have HBO := Lib.hid hbo
      clear hpa hgr hgv hbo
      go_wp2_with fail
      refine (valGet S _ x.props r.name _ (HPA.out.grow (HW.out _))).mono ?_
      rintro e w2 ⟨rfl, hw2⟩
      rw [HGV.out, HBO.out]
      have HG2 := Lib.hid (HGR.out.step ((HW.out _).step hw2))
      have HWR2 := Lib.hid ((HW.out _).step hw2)
      have hnb := HNB.out _ w2 hw2
      have hnl := blk_lt hnb
      have n1 : w2.cell? ⟨wr.heap.size, 1, none⟩ = some (.string x.typ) := by rw [blk_cell hnb]; rfl
      have hrb2 := HRB0.out.grow HWR2.out
      obtain ⟨hrl2, c1, c2', c3', c4, c5, c6, c7, c0⟩ := hrb2.cells
      have hml2 := (HM.out.grow HWR2.out).lt
      have hsz := HGR.out.size
      clear hnb hw2 hrb2 c1 c3' c4 c5 c6 c7 c0 c2 c3 a0 a1 a2 hrl hml hba'
      have HM3 := Lib.hid (show MapK PVal.args (w2.alloc (.cells #[.int .i64 gv.kind, .int .i64 gv.n, .string gv.s] 48 (0, 0))).drew (w.heap.size + 1) (cntK ((nodes.take k).filterMap (valR r))) k from (HM.out.grow HWR2.out).grow (((Grow.rfl' w2).allocd _).drewd))
      have HG3 := Lib.hid (show Grow w (w2.alloc (.cells #[.int .i64 gv.kind, .int .i64 gv.n, .string gv.s] 48 (0, 0))) from HG2.out.allocd _)
      have HSTAY := Lib.hid (show ∀ o1, Grow w (w2.alloc o1) ∧ RuleBox (w2.alloc o1) w.heap.size r ∧ MapK PVal.args (w2.alloc o1) (w.heap.size + 1) (cntK ((nodes.take k).filterMap (valR r))) k from fun o1 => ⟨HG2.out.allocd o1, (HRB0.out.grow HWR2.out).grow ((Grow.rfl' w2).allocd o1), (HM.out.grow HWR2.out).grow ((Grow.rfl' w2).allocd o1)⟩)
      cases bo
      · have HV' := Lib.hid (show valR r x = none by rw [HV.out]; rfl)
        go_wp2
        go_roundg (nodes.length - (k + 1))
        case measure => omega
        case rel =>
          refine ⟨k + 1, by omega, rfl, by go_num, ?_, ?_, (HSTAY.out _).2.1, (HSTAY.out _).1⟩
          · rw [HT.out, List.filterMap_append, List.filterMap_cons_none HV'.out]
            simpa using (HSTAY.out _).2.2.mono (by omega)
          · rw [HT.out, List.filterMap_append, List.filterMap_cons_none HV'.out]
            simpa using HNO.out
      · cases bt
        · have HV' := Lib.hid (show valR r x = none by rw [HV.out]; rfl)
          go_wp2
          go_roundg (nodes.length - (k + 1))
          case measure => omega
          case rel =>
            refine ⟨k + 1, by omega, rfl, by go_num, ?_, ?_, (HSTAY.out _).2.1, (HSTAY.out _).1⟩
            · rw [HT.out, List.filterMap_append, List.filterMap_cons_none HV'.out]
              simpa using (HSTAY.out _).2.2.mono (by omega)
            · rw [HT.out, List.filterMap_append, List.filterMap_cons_none HV'.out]
              simpa using HNO.out
        · have HVS := Lib.hid (show valR r x = some gv by rw [HV.out]; rfl)
          clear HV
          have HV := HVS
          go_wp2_with fail
          have hnew : ∀ w' : World, (w'.heap[w2.heap.size]? = some (.cells #[.int .i64 gv.kind, .int .i64 gv.n, .string gv.s] 48 (0, 0))) → w'.cell? ⟨w2.heap.size, 0, none⟩ = some (.int .i64 gv.kind) ∧ w'.cell? ⟨w2.heap.size, 1, none⟩ = some (.int .i64 gv.n) ∧ w'.cell? ⟨w2.heap.size, 2, none⟩ = some (.string gv.s) := fun w' h => ⟨by rw [blk_cell h]; rfl, by rw [blk_cell h]; rfl, by rw [blk_cell h]; rfl⟩
          have hbx : (w2.alloc (.cells #[.int .i64 gv.kind, .int .i64 gv.n, .string gv.s] 48 (0, 0))).drew.heap[w2.heap.size]? = some (.cells #[.int .i64 gv.kind, .int .i64 gv.n, .string gv.s] 48 (0, 0)) := heap_alloc_new w2 _
          have KEEP0 := Lib.hid (hnew _ hbx)
          have KEEP5 := Lib.hid (show ∀ w5 : World, Mod (fun q => q = w.heap.size + 1) (w2.alloc (.cells #[.int .i64 gv.kind, .int .i64 gv.n, .string gv.s] 48 (0, 0))).drew w5 → _ from fun w5 h => hnew w5 ((h.block _ (blk_lt hbx) (by show ¬ w2.heap.size = w.heap.size + 1; omega)).trans hbx))
          have HRB := Lib.hid (show ∀ w5 : World, Mod (fun q => q = w.heap.size + 1) (w2.alloc (.cells #[.int .i64 gv.kind, .int .i64 gv.n, .string gv.s] 48 (0, 0))).drew w5 → RuleBox w5 w.heap.size r from fun w5 h => (h.block _ (by have := (HSTAY.out (.cells #[.int .i64 gv.kind, .int .i64 gv.n, .string gv.s] 48 (0, 0))).2.1.cells.1; exact this) (by show ¬ w.heap.size = w.heap.size + 1; omega)).trans (HSTAY.out _).2.1)
          clear hnew hbx
          have HWR := Lib.hid (show IntKind.i64.wrap ((((nodes.take k).filterMap (valR r)).count gv : Int) + 1) = (((nodes.take k).filterMap (valR r)).count gv : Int) + 1 by
            have h1 := List.count_le_length (a := gv) (l := (nodes.take k).filterMap (valR r))
            have h2 := List.length_filterMap_le (valR r) (nodes.take k)
            rw [List.length_take] at h2
            rw [IntKind.wrap_i64] <;> omega)
          refine wp_region_noPanic ?_
          refine wp_region_held_drew (S := fun w' => w'.cell? ⟨w2.heap.size, 0, none⟩ = some (.int .i64 gv.kind) ∧ w'.cell? ⟨w2.heap.size, 1, none⟩ = some (.int .i64 gv.n) ∧ w'.cell? ⟨w2.heap.size, 2, none⟩ = some (.string gv.s)) (by kernel_rfl) ?_ (fun hHeld => ?_)
          · exact KEEP0.out
          refine' wpAnyH_take (i := 0) (oi := ?o1) (v := _) (by simp only [List.getElem?_toArray, List.getElem?_cons_zero]; rfl) (by kernel_rfl) (by kernel_rfl) (by kernel_rfl) (fun _ _ _ h => h) (Or.inl ⟨by rfl, ?y1⟩) (by assumption) ?r1
          case y1 =>
            intro wS hSw
            try dsimp only at hSw
            go_simp
            all_goals with_reducible rfl
          simp only [Act.put, List.setIfInBounds_toArray, List.set_cons_zero, List.set_cons_succ]
          refine' wpAnyH_take (i := 1) (oi := ?o2) (v := _) (by simp only [List.getElem?_toArray, List.getElem?_cons_succ, List.getElem?_cons_zero]; rfl) (by kernel_rfl) (by kernel_rfl) (by kernel_rfl) (fun _ _ _ h => h) (Or.inl ⟨by rfl, ?y2⟩) (by assumption) ?r2
          case y2 =>
            intro wS hSw
            try dsimp only at hSw
            go_simp
            all_goals with_reducible rfl
          simp only [Act.put, List.setIfInBounds_toArray, List.set_cons_zero, List.set_cons_succ]
          refine wpAnyH_ready (rs := [2, 4]) (by kernel_rfl) (by simp) ?_
          refine' AllReadyH.cons (o := ?o3) (by simp only [List.getElem?_toArray, List.getElem?_cons_succ, List.getElem?_cons_zero]; rfl) (fun K hK => ?s3) ?m3
          rotate_left
          · refine' AllReadyH.cons (o := ?o4) (by simp only [List.getElem?_toArray, List.getElem?_cons_succ, List.getElem?_cons_zero]; rfl) (fun K hK => ?s4) ?m4
            case m4 => exact AllReadyH.nil
            refine step_entryK rfl (.tmp 33) (.tmp 34) 152 rfl 48 3 Tryz.underlying152 keyV (.int .i64 0) zeroIntV (by rfl) HM3.out gv (by rfl) _ (cntK_getD _ gv) ?_
            intro w5 s5 q1 q2 q3 q4
            refine hK.out _ _ ?_ (fun hHeld => ?_)
            · exact KEEP5.out w5 q3
            clear hK K
            try simp only [Act.put, List.setIfInBounds_toArray, List.set_cons_zero, List.set_cons_succ]
            refine' wpAnyH_take (i := 5) (oi := ?o5) (v := _) (by simp only [List.getElem?_toArray, List.getElem?_cons_succ, List.getElem?_cons_zero]; rfl) (by kernel_rfl) (by kernel_rfl) (by kernel_rfl) (fun _ _ _ h => h) (Or.inl ⟨by rfl, ?y5⟩) (by assumption) ?r5
            case y5 =>
              intro wS hSw
              try dsimp only at hSw
              go_simp
              all_goals with_reducible rfl
            simp only [Act.put, List.setIfInBounds_toArray, List.set_cons_zero, List.set_cons_succ]
            refine wpAnyH_ready (rs := [2]) (by kernel_rfl) (by simp) ?_
            refine' AllReadyH.cons (o := ?o6) (by simp only [List.getElem?_toArray, List.getElem?_cons_succ, List.getElem?_cons_zero]; rfl) (fun K hK => ?s6) ?m6
            case m6 => exact AllReadyH.nil
            refine step_lookK rfl (.tmp 33) (.tmp 34) 152 rfl 48 3 Tryz.underlying152 keyV (.int .i64 0) (zeroIntV _) (by rfl) q1 gv (by rfl) (.int .i64 (((nodes.take k).filterMap (valR r)).count gv : Int)) (by rw [kput_same]; rfl) ?_
            refine hK.out _ _ ?_ (fun hHeld => ?_)
            · exact KEEP5.out w5 q3
            clear hK K
            try simp only [Act.put, List.setIfInBounds_toArray, List.set_cons_zero, List.set_cons_succ]
            refine' wpAnyH_take (i := 3) (oi := ?o7) (v := _) (by simp only [List.getElem?_toArray, List.getElem?_cons_succ, List.getElem?_cons_zero]; rfl) (by kernel_rfl) (by kernel_rfl) (by kernel_rfl) (fun _ _ _ h => h) (Or.inl ⟨by rfl, ?y7⟩) (by assumption) ?r7
            case y7 =>
              intro wS hSw
              try dsimp only at hSw
              go_simp
              all_goals with_reducible rfl
            simp only [Act.put, List.setIfInBounds_toArray, List.set_cons_zero, List.set_cons_succ]
            refine wpAnyH_ready (rs := [6]) (by kernel_rfl) (by simp) ?_
            refine' AllReadyH.cons (o := ?o8) (by simp only [List.getElem?_toArray, List.getElem?_cons_succ, List.getElem?_cons_zero]; rfl) (fun K hK => ?s8) ?m8
            case m8 => exact AllReadyH.nil
            refine step_storeK rfl (.tmp 33) (.tmp 38) (.tmp 36) 152 rfl 48 keyV (by rfl) q1 gv s5 (by rfl) q2 (.int .i64 ((((nodes.take k).filterMap (valR r)).count gv : Int) + 1)) (by simp [Act.eval, HWR.out]) ?_
            intro w6 p1 p3 p4
            rw [kput_twice, ← kput_twice _ _ (.int .i64 0), cntK_step] at p1
            refine hK.out _ _ ?_ (fun hHeld => ?_)
            · exact KEEP5.out w6 (q3.step p3)
            clear hK K
            try simp only [Act.put]
            refine wpAnyH_done (by kernel_rfl) ?_ _
            refine NoPanic.normal ?_
            obtain ⟨y0, y1, y2⟩ := KEEP5.out w6 (q3.step p3)
            have HM6 := Lib.hid p1
            have HG6 := Lib.hid ((HG3.out.drewd).modd (q3.step p3) (fun q hq => by rw [hq]; omega))
            have HB6 := Lib.hid (HRB.out w6 (q3.step p3))
            clear q1 q2 q3 q4 p1 p3 p4
            by_cases hc : ((nodes.take k).filterMap (valR r)).count gv = 0
            · have HL := Lib.hid (show (cntK ((nodes.take k).filterMap (valR r) ++ [gv]) gv).getD (.int .i64 0) = .int .i64 1 by rw [cntK_getD, List.count_append, hc]; simp)
              have HND := Lib.hid (show ((nodes.take k).filterMap (valR r) ++ [gv]).Nodup by
                rw [List.nodup_append]
                refine ⟨HNO.out, by simp, ?_⟩
                intro a ha b hb hab
                rw [List.mem_singleton] at hb
                subst hb
                subst hab
                rw [List.count_eq_zero] at hc
                exact hc ha)
              clear hc
              go_wp2_with (at_lookup; go_must (refine wpList_lookK _ rfl (.tmp 39) (.tmp 40) 152 rfl 48 3 Tryz.underlying152 keyV (.int .i64 0) (zeroIntV _) _ _ _ rfl HM6.out gv rfl _ HL.out ?_))
              go_roundg (nodes.length - (k + 1))
              case measure => omega
              case rel =>
                refine ⟨k + 1, by omega, rfl, by go_num, ?_, ?_, HB6.out, HG6.out⟩
                · rw [HT.out, List.filterMap_append, List.filterMap_cons_some HV.out]
                  exact HM6.out
                · rw [HT.out, List.filterMap_append, List.filterMap_cons_some HV.out]
                  exact HND.out
            · have HL := Lib.hid (show (cntK ((nodes.take k).filterMap (valR r) ++ [gv]) gv).getD (.int .i64 0) = .int .i64 ((((nodes.take k).filterMap (valR r)).count gv : Int) + 1) by rw [cntK_getD, List.count_append]; simp)
              have HX := Lib.hid (show uniqR nodes r = false by
                unfold uniqR
                refine decide_eq_false fun hn => ?_
                have h1 : ((nodes.take (k + 1)).filterMap (valR r)).Nodup := hn.sublist ((List.take_sublist _ _).filterMap _)
                rw [HT.out, List.filterMap_append, List.filterMap_cons_some HV.out] at h1
                have h2 := (List.nodup_append.1 h1).2.2 gv (List.count_pos_iff.1 (by omega)) gv (by simp)
                exact h2 rfl)
              generalize ((nodes.take k).filterMap (valR r)).count gv = c at *
              go_wp2_with (at_lookup; go_must (refine wpList_lookK _ rfl (.tmp 39) (.tmp 40) 152 rfl 48 3 Tryz.underlying152 keyV (.int .i64 0) (zeroIntV _) _ _ _ rfl HM6.out gv rfl _ HL.out ?_))
              go_ret
              exact ⟨by rw [HX.out]; rfl, HG6.out⟩
          refine step_lookK rfl (.tmp 33) (.tmp 34) 152 rfl 48 3 Tryz.underlying152 keyV (.int .i64 0) (zeroIntV _) (by rfl) HM3.out gv (by rfl) _ (cntK_getD _ gv) ?_
          refine hK.out _ _ ?_ (fun hHeld => ?_)
          · exact KEEP0.out
          clear hK K
          try simp only [Act.put, List.setIfInBounds_toArray, List.set_cons_zero, List.set_cons_succ]
          refine' wpAnyH_take (i := 3) (oi := ?o9) (v := _) (by simp only [List.getElem?_toArray, List.getElem?_cons_succ, List.getElem?_cons_zero]; rfl) (by kernel_rfl) (by kernel_rfl) (by kernel_rfl) (fun _ _ _ h => h) (Or.inl ⟨by rfl, ?y9⟩) (by assumption) ?r9
          case y9 =>
            intro wS hSw
            try dsimp only at hSw
            go_simp
            all_goals with_reducible rfl
          simp only [Act.put, List.setIfInBounds_toArray, List.set_cons_zero, List.set_cons_succ]
          refine wpAnyH_ready (rs := [4]) (by kernel_rfl) (by simp) ?_
          refine' AllReadyH.cons (o := ?o10) (by simp only [List.getElem?_toArray, List.getElem?_cons_succ, List.getElem?_cons_zero]; rfl) (fun K hK => ?s10) ?m10
          case m10 => exact AllReadyH.nil
          refine step_entryK rfl (.tmp 33) (.tmp 34) 152 rfl 48 3 Tryz.underlying152 keyV (.int .i64 0) zeroIntV (by rfl) HM3.out gv (by rfl) _ (cntK_getD _ gv) ?_
          intro w5 s5 q1 q2 q3 q4
          refine hK.out _ _ ?_ (fun hHeld => ?_)
          · exact KEEP5.out w5 q3
          clear hK K
          try simp only [Act.put, List.setIfInBounds_toArray, List.set_cons_zero, List.set_cons_succ]
          refine' wpAnyH_take (i := 5) (oi := ?o11) (v := _) (by simp only [List.getElem?_toArray, List.getElem?_cons_succ, List.getElem?_cons_zero]; rfl) (by kernel_rfl) (by kernel_rfl) (by kernel_rfl) (fun _ _ _ h => h) (Or.inl ⟨by rfl, ?y11⟩) (by assumption) ?r11
          case y11 =>
            intro wS hSw
            try dsimp only at hSw
            go_simp
            all_goals with_reducible rfl
          simp only [Act.put, List.setIfInBounds_toArray, List.set_cons_zero, List.set_cons_succ]
          refine wpAnyH_ready (rs := [6]) (by kernel_rfl) (by simp) ?_
          refine' AllReadyH.cons (o := ?o12) (by simp only [List.getElem?_toArray, List.getElem?_cons_succ, List.getElem?_cons_zero]; rfl) (fun K hK => ?s12) ?m12
          case m12 => exact AllReadyH.nil
          refine step_storeK rfl (.tmp 33) (.tmp 38) (.tmp 36) 152 rfl 48 keyV (by rfl) q1 gv s5 (by rfl) q2 (.int .i64 ((((nodes.take k).filterMap (valR r)).count gv : Int) + 1)) (by simp [Act.eval, HWR.out]) ?_
          intro w6 p1 p3 p4
          rw [kput_twice, ← kput_twice _ _ (.int .i64 0), cntK_step] at p1
          refine hK.out _ _ ?_ (fun hHeld => ?_)
          · exact KEEP5.out w6 (q3.step p3)
          clear hK K
          try simp only [Act.put]
          refine wpAnyH_done (by kernel_rfl) ?_ _
          refine NoPanic.normal ?_
          obtain ⟨y0, y1, y2⟩ := KEEP5.out w6 (q3.step p3)
          have HM6 := Lib.hid p1
          have HG6 := Lib.hid ((HG3.out.drewd).modd (q3.step p3) (fun q hq => by rw [hq]; omega))
          have HB6 := Lib.hid (HRB.out w6 (q3.step p3))
          clear q1 q2 q3 q4 p1 p3 p4
          by_cases hc : ((nodes.take k).filterMap (valR r)).count gv = 0
          · have HL := Lib.hid (show (cntK ((nodes.take k).filterMap (valR r) ++ [gv]) gv).getD (.int .i64 0) = .int .i64 1 by rw [cntK_getD, List.count_append, hc]; simp)
            have HND := Lib.hid (show ((nodes.take k).filterMap (valR r) ++ [gv]).Nodup by
              rw [List.nodup_append]
              refine ⟨HNO.out, by simp, ?_⟩
              intro a ha b hb hab
              rw [List.mem_singleton] at hb
              subst hb
              subst hab
              rw [List.count_eq_zero] at hc
              exact hc ha)
            clear hc
            go_wp2_with (at_lookup; go_must (refine wpList_lookK _ rfl (.tmp 39) (.tmp 40) 152 rfl 48 3 Tryz.underlying152 keyV (.int .i64 0) (zeroIntV _) _ _ _ rfl HM6.out gv rfl _ HL.out ?_))
            go_roundg (nodes.length - (k + 1))
            case measure => omega
            case rel =>
              refine ⟨k + 1, by omega, rfl, by go_num, ?_, ?_, HB6.out, HG6.out⟩
              · rw [HT.out, List.filterMap_append, List.filterMap_cons_some HV.out]
                exact HM6.out
              · rw [HT.out, List.filterMap_append, List.filterMap_cons_some HV.out]
                exact HND.out
          · have HL := Lib.hid (show (cntK ((nodes.take k).filterMap (valR r) ++ [gv]) gv).getD (.int .i64 0) = .int .i64 ((((nodes.take k).filterMap (valR r)).count gv : Int) + 1) by rw [cntK_getD, List.count_append]; simp)
            have HX := Lib.hid (show uniqR nodes r = false by
              unfold uniqR
              refine decide_eq_false fun hn => ?_
              have h1 : ((nodes.take (k + 1)).filterMap (valR r)).Nodup := hn.sublist ((List.take_sublist _ _).filterMap _)
              rw [HT.out, List.filterMap_append, List.filterMap_cons_some HV.out] at h1
              have h2 := (List.nodup_append.1 h1).2.2 gv (List.count_pos_iff.1 (by omega)) gv (by simp)
              exact h2 rfl)
            generalize ((nodes.take k).filterMap (valR r)).count gv = c at *
            go_wp2_with (at_lookup; go_must (refine wpList_lookK _ rfl (.tmp 39) (.tmp 40) 152 rfl 48 3 Tryz.underlying152 keyV (.int .i64 0) (zeroIntV _) _ _ _ rfl HM6.out gv rfl _ HL.out ?_))
            go_ret
            exact ⟨by rw [HX.out]; rfl, HG6.out⟩
    · have hkk : nodes.take k = nodes := List.take_of_length_le (by omega)
      rw [hkk] at HNO
      have HX := Lib.hid (show uniqR nodes r = true by unfold uniqR; exact decide_eq_true HNO.out)
      clear hkk
      go_wp2
      go_ret
      exact ⟨by rw [HX.out]; rfl, HGR.out⟩
end Go.Hg

namespace Go.Hg
open Go.RowKit Go.Proofs MapKept

theorem boxes3k (w : World) (o1 o2 o3 : Obj) (w' : World) (hg : Grow (((w.alloc o1).alloc o2).alloc o3) w') : w'.heap[w.heap.size]? = some o1 ∧ w'.heap[w.heap.size + 1]? = some o2 ∧ w'.heap[w.heap.size + 2]? = some o3 := by
  have h1 : (w.alloc o1).heap[w.heap.size]? = some o1 := heap_alloc_new w o1
  have h2 : ((w.alloc o1).alloc o2).heap[w.heap.size + 1]? = some o2 := by simpa using heap_alloc_new (w.alloc o1) o2
  have h3 : (((w.alloc o1).alloc o2).alloc o3).heap[w.heap.size + 2]? = some o3 := by simpa using heap_alloc_new ((w.alloc o1).alloc o2) o3
  have g1 : Grow (w.alloc o1) w' := (((Grow.rfl' (w.alloc o1)).allocd o2).allocd o3).step hg
  have g2 : Grow ((w.alloc o1).alloc o2) w' := ((Grow.rfl' ((w.alloc o1).alloc o2)).allocd o3).step hg
  exact ⟨(g1.heapEq (blk_lt h1)).trans h1, (g2.heapEq (blk_lt h2)).trans h2, (hg.heapEq (blk_lt h3)).trans h3⟩
theorem run_look_hit1 {P : Program} (W : World) (r : Nat) (hr : W.heap.size = r) {mty kt et : TypeId} (hm : P.underlying mty = some (.map kt et)) (hk : P.underlying kt = some (.int .i64)) (es : Array MapEntry) (c : Nat) (k : Int) (i : Nat) (v : Value) (hf : Instr.findNow (.int .i64) (.int .i64 k) es.toList 0 = some (some (i, v))) :
    (Instr.lookup mty (.map (some r)) (.int .i64 k) false).run P (W.alloc (.map es c)) = .ok v (W.alloc (.map es c)) := by
  subst hr
  have hb : (W.alloc (.map es c)).heap[W.heap.size]? = some (.map es c) := heap_alloc_new W _
  have hc : (Instr.checkKey es.isEmpty 10000 kt (.int .i64 k)).run P (W.alloc (.map es c)) = .ok () (W.alloc (.map es c)) := MapKept.run_checkKey (k := .int .i64 k) hk (by simp [MapKept.IsKey]) es.isEmpty 9999
  have hf' := MapKept.run_findKey (P := P) (w := W.alloc (.map es c)) hk hf
  simp [Instr.lookup, run_underlying hm, MapKept.run_getObj_map hb, Result.andThen]
  rw [hc]
  simp [hf']

set_option maxRecDepth 100000 in
set_option maxHeartbeats 1000000 in
/-- rule 'unique' -/
theorem keepsUniq (nodes : List PNode) (nv : Value) (nb rb : Nat) (r : PRule) (w : World) (S : Nat → Prop) (hn : NodesR S w nv nodes) (hnb : OneBox w nb nv) (hr : RuleBox w rb r) :
    Calls Tryz.prog 67 #[.pointer (some ⟨nb, 0, none⟩), .pointer (some ⟨rb, 0, none⟩)] w fun e w' => e = .returned (.bool (uniqR nodes r)) ∧ Grow w w' := by
  have HN := Lib.hid hn
  obtain ⟨hnl, d0⟩ := hnb.cell
  obtain ⟨hrl, c1, c2, c3, c4, c5, c6, c7, c0⟩ := hr.cells
  obtain ⟨_, _, rfl, _⟩ := SlR.open hn
  clear hn hr hnb
  go_enter Tryz.func67, Tryz.ntmps67
  go_wp2_with fail
  refine (ruleUnique nodes _ r _ S HN.out).mono ?_
  rintro e w2 ⟨rfl, hw2⟩
  obtain ⟨b, hb⟩ : ∃ b, uniqR nodes r = b := ⟨_, rfl⟩
  have HX := Lib.hid hb
  rw [hb]
  clear hb
  go_wp2
  go_ret
  exact ⟨by rw [HX.out]; rfl, hw2⟩
theorem entK2 : ∀ args w, (callFunc 67 args).run Tryz.prog w = .ok (.enter 67 args) w := fun args w => enterF Tryz.func67 (by kernel_rfl) rfl args w
theorem entK3 : ∀ args w, (callFunc 69 args).run Tryz.prog w = .ok (.enter 69 args) w := fun args w => enterF Tryz.func69 (by kernel_rfl) rfl args w
theorem entK4 : ∀ args w, (callFunc 73 args).run Tryz.prog w = .ok (.enter 73 args) w := fun args w => enterF Tryz.func73 (by kernel_rfl) rfl args w
theorem entK5 : ∀ args w, (callFunc 77 args).run Tryz.prog w = .ok (.enter 77 args) w := fun args w => enterF Tryz.func77 (by kernel_rfl) rfl args w

set_option maxRecDepth 100000 in
set_option maxHeartbeats 4000000 in
theorem ruleKeeps0 (nodes : List PNode) (edges : List PEdge) (nv ev : Value) (r : PRule) (w : World) (S : Nat → Prop) (hn : NodesR S w nv nodes) (he : EdgesR S w ev edges) (h64 : ∀ e ∈ edges, (Lit.int .i64 e.from_).wf = true) (hf : formR r = false) :
    Calls Tryz.prog 45 #[nv, ev, r.args] w fun e w' => e = .returned (.bool (keepR nodes edges r)) ∧ Grow w w' := by
  have HN := Lib.hid hn; have HE := Lib.hid he; have H64 := Lib.hid h64; have HF := Lib.hid hf
  obtain ⟨_, _, rfl, _⟩ := SlR.open hn
  obtain ⟨_, _, rfl, _⟩ := SlR.open he
  have HG := Lib.hid (show ∀ o1 o2 o3, Grow w (((w.alloc o1).alloc o2).alloc o3) from fun o1 o2 o3 => (((Grow.rfl' w).allocd o1).allocd o2).allocd o3)
  have HB := Lib.hid (boxes3k w)
  have hmm := @run_makeMap Tryz.prog
  clear hn he h64 hf
  go_enter Tryz.func45, Tryz.ntmps45
  go_wp2_with fail
  refine (ruleForm r _).mono ?_
  rintro e w2 ⟨rfl, hw2⟩
  rw [HF.out]
  obtain ⟨b1, b2, b3⟩ := HB.out _ _ _ w2 hw2
  have HG2 := Lib.hid ((HG.out _ _ _).step hw2)
  have HRB := Lib.hid (show RuleBox w2 (w.heap.size + 1 + 1) r from b3)
  have HNB := Lib.hid (show OneBox w2 w.heap.size _ from ⟨_, b1⟩)
  have HEB := Lib.hid (show OneBox w2 (w.heap.size + 1) _ from ⟨_, b2⟩)
  clear b1 b2 b3 hw2
  generalize w.heap.size + 1 + 1 = rb at *
  go_wp2
  go_ret
  exact ⟨by unfold keepR; rw [HF.out]; rfl, HG2.out⟩

set_option maxRecDepth 100000 in
set_option maxHeartbeats 4000000 in
theorem ruleKeeps1 (nodes : List PNode) (edges : List PEdge) (nv ev : Value) (r : PRule) (w : World) (S : Nat → Prop) (hn : NodesR S w nv nodes) (he : EdgesR S w ev edges) (h64 : ∀ e ∈ edges, (Lit.int .i64 e.from_).wf = true) (hf : formR r = true) (hk : r.kind = 1) :
    Calls Tryz.prog 45 #[nv, ev, r.args] w fun e w' => e = .returned (.bool (keepR nodes edges r)) ∧ Grow w w' := by
  have HN := Lib.hid hn; have HE := Lib.hid he; have H64 := Lib.hid h64; have HF := Lib.hid hf
  obtain ⟨_, _, rfl, _⟩ := SlR.open hn
  obtain ⟨_, _, rfl, _⟩ := SlR.open he
  have HG := Lib.hid (show ∀ o1 o2 o3, Grow w (((w.alloc o1).alloc o2).alloc o3) from fun o1 o2 o3 => (((Grow.rfl' w).allocd o1).allocd o2).allocd o3)
  have HB := Lib.hid (boxes3k w)
  have hmm := @run_makeMap Tryz.prog
  have HK := Lib.hid hk
  clear hn he h64 hf hk
  go_enter Tryz.func45, Tryz.ntmps45
  go_wp2_with fail
  refine (ruleForm r _).mono ?_
  rintro e w2 ⟨rfl, hw2⟩
  rw [HF.out]
  obtain ⟨b1, b2, b3⟩ := HB.out _ _ _ w2 hw2
  have HG2 := Lib.hid ((HG.out _ _ _).step hw2)
  have HRB := Lib.hid (show RuleBox w2 (w.heap.size + 1 + 1) r from b3)
  have HNB := Lib.hid (show OneBox w2 w.heap.size _ from ⟨_, b1⟩)
  have HEB := Lib.hid (show OneBox w2 (w.heap.size + 1) _ from ⟨_, b2⟩)
  clear b1 b2 b3 hw2
  generalize w.heap.size + 1 + 1 = rb at *
  have hsz : (w2.alloc (.cells #[ofV (rb)] 84)).heap.size = w2.heap.size + 1 := by simp
  have hT : Tryz.prog.underlying 131 = some (.map 3 32) := Tryz.underlying131
  have hI : Tryz.prog.underlying 3 = some (.int .i64) := Tryz.underlying3
  have i1 := run_ins _ _ hsz hT hI #[] 0 1 (.func (.func 67) #[] #[.pointer (some ⟨w.heap.size, 0, none⟩), .pointer (some ⟨rb, 0, none⟩)]) rfl
  have i2 := run_ins _ _ hsz hT hI #[{ key := .int .i64 1, val := (.func (.func 67) #[] #[.pointer (some ⟨w.heap.size, 0, none⟩), .pointer (some ⟨rb, 0, none⟩)]), born := 0 }] 1 2 (.func (.func 69) #[] #[.pointer (some ⟨w.heap.size, 0, none⟩), .pointer (some ⟨rb, 0, none⟩), .pointer (some ⟨w2.heap.size, 0, none⟩)]) rfl
  have i3 := run_ins _ _ hsz hT hI #[{ key := .int .i64 1, val := (.func (.func 67) #[] #[.pointer (some ⟨w.heap.size, 0, none⟩), .pointer (some ⟨rb, 0, none⟩)]), born := 0 }, { key := .int .i64 2, val := (.func (.func 69) #[] #[.pointer (some ⟨w.heap.size, 0, none⟩), .pointer (some ⟨rb, 0, none⟩), .pointer (some ⟨w2.heap.size, 0, none⟩)]), born := 1 }] 2 3 (.func (.func 73) #[] #[.pointer (some ⟨w.heap.size + 1, 0, none⟩), .pointer (some ⟨w.heap.size, 0, none⟩), .pointer (some ⟨w2.heap.size, 0, none⟩), .pointer (some ⟨rb, 0, none⟩)]) rfl
  have i4 := run_ins _ _ hsz hT hI #[{ key := .int .i64 1, val := (.func (.func 67) #[] #[.pointer (some ⟨w.heap.size, 0, none⟩), .pointer (some ⟨rb, 0, none⟩)]), born := 0 }, { key := .int .i64 2, val := (.func (.func 69) #[] #[.pointer (some ⟨w.heap.size, 0, none⟩), .pointer (some ⟨rb, 0, none⟩), .pointer (some ⟨w2.heap.size, 0, none⟩)]), born := 1 }, { key := .int .i64 3, val := (.func (.func 73) #[] #[.pointer (some ⟨w.heap.size + 1, 0, none⟩), .pointer (some ⟨w.heap.size, 0, none⟩), .pointer (some ⟨w2.heap.size, 0, none⟩), .pointer (some ⟨rb, 0, none⟩)]), born := 2 }] 3 4 (.func (.func 77) #[] #[.pointer (some ⟨w.heap.size + 1, 0, none⟩), .pointer (some ⟨w2.heap.size, 0, none⟩), .pointer (some ⟨rb, 0, none⟩)]) rfl
  simp only [List.push_toArray, List.cons_append, List.nil_append, Nat.reduceAdd] at i1 i2 i3 i4
  have lk := run_look_hit1 _ _ hsz hT hI #[{ key := .int .i64 1, val := (.func (.func 67) #[] #[.pointer (some ⟨w.heap.size, 0, none⟩), .pointer (some ⟨rb, 0, none⟩)]), born := 0 }, { key := .int .i64 2, val := (.func (.func 69) #[] #[.pointer (some ⟨w.heap.size, 0, none⟩), .pointer (some ⟨rb, 0, none⟩), .pointer (some ⟨w2.heap.size, 0, none⟩)]), born := 1 }, { key := .int .i64 3, val := (.func (.func 73) #[] #[.pointer (some ⟨w.heap.size + 1, 0, none⟩), .pointer (some ⟨w.heap.size, 0, none⟩), .pointer (some ⟨w2.heap.size, 0, none⟩), .pointer (some ⟨rb, 0, none⟩)]), born := 2 }, { key := .int .i64 4, val := (.func (.func 77) #[] #[.pointer (some ⟨w.heap.size + 1, 0, none⟩), .pointer (some ⟨w2.heap.size, 0, none⟩), .pointer (some ⟨rb, 0, none⟩)]), born := 3 }] 4 1 0 (.func (.func 67) #[] #[.pointer (some ⟨w.heap.size, 0, none⟩), .pointer (some ⟨rb, 0, none⟩)]) rfl
  have HG3 := Lib.hid (show ∀ o1 o2, Grow w2 ((w2.alloc o1).alloc o2) from fun o1 o2 => ((Grow.rfl' w2).allocd o1).allocd o2)
  have HG4 := Lib.hid (show ∀ o1 o2, Grow w ((w2.alloc o1).alloc o2) from fun o1 o2 => HG2.out.step (HG3.out o1 o2))
  have HFB := Lib.hid (show ∀ o2, OneBox ((w2.alloc (.cells #[ofV (rb)] 84)).alloc o2) w2.heap.size (ofV (rb)) from fun o2 => ⟨_, by
    rw [((Grow.rfl' (w2.alloc (.cells #[ofV (rb)] 84))).allocd o2).heapEq (by simp)]
    exact heap_alloc_new w2 _⟩)
  obtain ⟨hrl, -, c2, c3, c4, c5, c6, c7, c0⟩ := HRB.out.cells
  have c1 : w2.cell? ⟨rb, 1, none⟩ = some (.int .i64 1) := by rw [HRB.out.cells.2.1, HK.out]
  have entK2 := entK2
  clear hsz c2 c3 c4 c5 c6 c7 c0
  go_wp2_with fail
  refine (keepsUniq nodes _ _ _ r _ S (HN.out.grow (HG4.out _ _)) (HNB.out.grow (HG3.out _ _)) (HRB.out.grow (HG3.out _ _))).mono ?_
  rintro e w3 ⟨rfl, hw3⟩
  obtain ⟨b, hb⟩ : ∃ b, (uniqR nodes r) = b := ⟨_, rfl⟩
  have HX := Lib.hid (show keepR nodes edges r = b by unfold keepR holdR; rw [HF.out, HK.out]; simpa using hb)
  rw [hb]
  clear hb
  go_wp2
  go_ret
  exact ⟨by rw [HX.out]; rfl, (HG4.out _ _).step hw3⟩

set_option maxRecDepth 100000 in
set_option maxHeartbeats 4000000 in
theorem ruleKeeps2 (nodes : List PNode) (edges : List PEdge) (nv ev : Value) (r : PRule) (w : World) (S : Nat → Prop) (hn : NodesR S w nv nodes) (he : EdgesR S w ev edges) (h64 : ∀ e ∈ edges, (Lit.int .i64 e.from_).wf = true) (hf : formR r = true) (hk : r.kind = 2) :
    Calls Tryz.prog 45 #[nv, ev, r.args] w fun e w' => e = .returned (.bool (keepR nodes edges r)) ∧ Grow w w' := by
  have HN := Lib.hid hn; have HE := Lib.hid he; have H64 := Lib.hid h64; have HF := Lib.hid hf
  obtain ⟨_, _, rfl, _⟩ := SlR.open hn
  obtain ⟨_, _, rfl, _⟩ := SlR.open he
  have HG := Lib.hid (show ∀ o1 o2 o3, Grow w (((w.alloc o1).alloc o2).alloc o3) from fun o1 o2 o3 => (((Grow.rfl' w).allocd o1).allocd o2).allocd o3)
  have HB := Lib.hid (boxes3k w)
  have hmm := @run_makeMap Tryz.prog
  have HK := Lib.hid hk
  clear hn he h64 hf hk
  go_enter Tryz.func45, Tryz.ntmps45
  go_wp2_with fail
  refine (ruleForm r _).mono ?_
  rintro e w2 ⟨rfl, hw2⟩
  rw [HF.out]
  obtain ⟨b1, b2, b3⟩ := HB.out _ _ _ w2 hw2
  have HG2 := Lib.hid ((HG.out _ _ _).step hw2)
  have HRB := Lib.hid (show RuleBox w2 (w.heap.size + 1 + 1) r from b3)
  have HNB := Lib.hid (show OneBox w2 w.heap.size _ from ⟨_, b1⟩)
  have HEB := Lib.hid (show OneBox w2 (w.heap.size + 1) _ from ⟨_, b2⟩)
  clear b1 b2 b3 hw2
  generalize w.heap.size + 1 + 1 = rb at *
  have hsz : (w2.alloc (.cells #[ofV (rb)] 84)).heap.size = w2.heap.size + 1 := by simp
  have hT : Tryz.prog.underlying 131 = some (.map 3 32) := Tryz.underlying131
  have hI : Tryz.prog.underlying 3 = some (.int .i64) := Tryz.underlying3
  have i1 := run_ins _ _ hsz hT hI #[] 0 1 (.func (.func 67) #[] #[.pointer (some ⟨w.heap.size, 0, none⟩), .pointer (some ⟨rb, 0, none⟩)]) rfl
  have i2 := run_ins _ _ hsz hT hI #[{ key := .int .i64 1, val := (.func (.func 67) #[] #[.pointer (some ⟨w.heap.size, 0, none⟩), .pointer (some ⟨rb, 0, none⟩)]), born := 0 }] 1 2 (.func (.func 69) #[] #[.pointer (some ⟨w.heap.size, 0, none⟩), .pointer (some ⟨rb, 0, none⟩), .pointer (some ⟨w2.heap.size, 0, none⟩)]) rfl
  have i3 := run_ins _ _ hsz hT hI #[{ key := .int .i64 1, val := (.func (.func 67) #[] #[.pointer (some ⟨w.heap.size, 0, none⟩), .pointer (some ⟨rb, 0, none⟩)]), born := 0 }, { key := .int .i64 2, val := (.func (.func 69) #[] #[.pointer (some ⟨w.heap.size, 0, none⟩), .pointer (some ⟨rb, 0, none⟩), .pointer (some ⟨w2.heap.size, 0, none⟩)]), born := 1 }] 2 3 (.func (.func 73) #[] #[.pointer (some ⟨w.heap.size + 1, 0, none⟩), .pointer (some ⟨w.heap.size, 0, none⟩), .pointer (some ⟨w2.heap.size, 0, none⟩), .pointer (some ⟨rb, 0, none⟩)]) rfl
  have i4 := run_ins _ _ hsz hT hI #[{ key := .int .i64 1, val := (.func (.func 67) #[] #[.pointer (some ⟨w.heap.size, 0, none⟩), .pointer (some ⟨rb, 0, none⟩)]), born := 0 }, { key := .int .i64 2, val := (.func (.func 69) #[] #[.pointer (some ⟨w.heap.size, 0, none⟩), .pointer (some ⟨rb, 0, none⟩), .pointer (some ⟨w2.heap.size, 0, none⟩)]), born := 1 }, { key := .int .i64 3, val := (.func (.func 73) #[] #[.pointer (some ⟨w.heap.size + 1, 0, none⟩), .pointer (some ⟨w.heap.size, 0, none⟩), .pointer (some ⟨w2.heap.size, 0, none⟩), .pointer (some ⟨rb, 0, none⟩)]), born := 2 }] 3 4 (.func (.func 77) #[] #[.pointer (some ⟨w.heap.size + 1, 0, none⟩), .pointer (some ⟨w2.heap.size, 0, none⟩), .pointer (some ⟨rb, 0, none⟩)]) rfl
  simp only [List.push_toArray, List.cons_append, List.nil_append, Nat.reduceAdd] at i1 i2 i3 i4
  have lk := run_look_hit1 _ _ hsz hT hI #[{ key := .int .i64 1, val := (.func (.func 67) #[] #[.pointer (some ⟨w.heap.size, 0, none⟩), .pointer (some ⟨rb, 0, none⟩)]), born := 0 }, { key := .int .i64 2, val := (.func (.func 69) #[] #[.pointer (some ⟨w.heap.size, 0, none⟩), .pointer (some ⟨rb, 0, none⟩), .pointer (some ⟨w2.heap.size, 0, none⟩)]), born := 1 }, { key := .int .i64 3, val := (.func (.func 73) #[] #[.pointer (some ⟨w.heap.size + 1, 0, none⟩), .pointer (some ⟨w.heap.size, 0, none⟩), .pointer (some ⟨w2.heap.size, 0, none⟩), .pointer (some ⟨rb, 0, none⟩)]), born := 2 }, { key := .int .i64 4, val := (.func (.func 77) #[] #[.pointer (some ⟨w.heap.size + 1, 0, none⟩), .pointer (some ⟨w2.heap.size, 0, none⟩), .pointer (some ⟨rb, 0, none⟩)]), born := 3 }] 4 2 1 (.func (.func 69) #[] #[.pointer (some ⟨w.heap.size, 0, none⟩), .pointer (some ⟨rb, 0, none⟩), .pointer (some ⟨w2.heap.size, 0, none⟩)]) rfl
  have HG3 := Lib.hid (show ∀ o1 o2, Grow w2 ((w2.alloc o1).alloc o2) from fun o1 o2 => ((Grow.rfl' w2).allocd o1).allocd o2)
  have HG4 := Lib.hid (show ∀ o1 o2, Grow w ((w2.alloc o1).alloc o2) from fun o1 o2 => HG2.out.step (HG3.out o1 o2))
  have HFB := Lib.hid (show ∀ o2, OneBox ((w2.alloc (.cells #[ofV (rb)] 84)).alloc o2) w2.heap.size (ofV (rb)) from fun o2 => ⟨_, by
    rw [((Grow.rfl' (w2.alloc (.cells #[ofV (rb)] 84))).allocd o2).heapEq (by simp)]
    exact heap_alloc_new w2 _⟩)
  obtain ⟨hrl, -, c2, c3, c4, c5, c6, c7, c0⟩ := HRB.out.cells
  have c1 : w2.cell? ⟨rb, 1, none⟩ = some (.int .i64 2) := by rw [HRB.out.cells.2.1, HK.out]
  have entK3 := entK3
  clear hsz c2 c3 c4 c5 c6 c7 c0
  go_wp2_with fail
  refine (keepsExists nodes _ _ _ _ r _ S (HN.out.grow (HG4.out _ _)) (HNB.out.grow (HG3.out _ _)) (HRB.out.grow (HG3.out _ _)) (HFB.out _)).mono ?_
  rintro e w3 ⟨rfl, hw3⟩
  obtain ⟨b, hb⟩ : ∃ b, (!nodes.any (lacksR r)) = b := ⟨_, rfl⟩
  have HX := Lib.hid (show keepR nodes edges r = b by unfold keepR holdR; rw [HF.out, HK.out]; simpa using hb)
  rw [hb]
  clear hb
  go_wp2
  go_ret
  exact ⟨by rw [HX.out]; rfl, (HG4.out _ _).step hw3⟩

set_option maxRecDepth 100000 in
set_option maxHeartbeats 4000000 in
theorem ruleKeeps3 (nodes : List PNode) (edges : List PEdge) (nv ev : Value) (r : PRule) (w : World) (S : Nat → Prop) (hn : NodesR S w nv nodes) (he : EdgesR S w ev edges) (h64 : ∀ e ∈ edges, (Lit.int .i64 e.from_).wf = true) (hf : formR r = true) (hk : r.kind = 3) :
    Calls Tryz.prog 45 #[nv, ev, r.args] w fun e w' => e = .returned (.bool (keepR nodes edges r)) ∧ Grow w w' := by
  have HN := Lib.hid hn; have HE := Lib.hid he; have H64 := Lib.hid h64; have HF := Lib.hid hf
  obtain ⟨_, _, rfl, _⟩ := SlR.open hn
  obtain ⟨_, _, rfl, _⟩ := SlR.open he
  have HG := Lib.hid (show ∀ o1 o2 o3, Grow w (((w.alloc o1).alloc o2).alloc o3) from fun o1 o2 o3 => (((Grow.rfl' w).allocd o1).allocd o2).allocd o3)
  have HB := Lib.hid (boxes3k w)
  have hmm := @run_makeMap Tryz.prog
  have HK := Lib.hid hk
  clear hn he h64 hf hk
  go_enter Tryz.func45, Tryz.ntmps45
  go_wp2_with fail
  refine (ruleForm r _).mono ?_
  rintro e w2 ⟨rfl, hw2⟩
  rw [HF.out]
  obtain ⟨b1, b2, b3⟩ := HB.out _ _ _ w2 hw2
  have HG2 := Lib.hid ((HG.out _ _ _).step hw2)
  have HRB := Lib.hid (show RuleBox w2 (w.heap.size + 1 + 1) r from b3)
  have HNB := Lib.hid (show OneBox w2 w.heap.size _ from ⟨_, b1⟩)
  have HEB := Lib.hid (show OneBox w2 (w.heap.size + 1) _ from ⟨_, b2⟩)
  clear b1 b2 b3 hw2
  generalize w.heap.size + 1 + 1 = rb at *
  have hsz : (w2.alloc (.cells #[ofV (rb)] 84)).heap.size = w2.heap.size + 1 := by simp
  have hT : Tryz.prog.underlying 131 = some (.map 3 32) := Tryz.underlying131
  have hI : Tryz.prog.underlying 3 = some (.int .i64) := Tryz.underlying3
  have i1 := run_ins _ _ hsz hT hI #[] 0 1 (.func (.func 67) #[] #[.pointer (some ⟨w.heap.size, 0, none⟩), .pointer (some ⟨rb, 0, none⟩)]) rfl
  have i2 := run_ins _ _ hsz hT hI #[{ key := .int .i64 1, val := (.func (.func 67) #[] #[.pointer (some ⟨w.heap.size, 0, none⟩), .pointer (some ⟨rb, 0, none⟩)]), born := 0 }] 1 2 (.func (.func 69) #[] #[.pointer (some ⟨w.heap.size, 0, none⟩), .pointer (some ⟨rb, 0, none⟩), .pointer (some ⟨w2.heap.size, 0, none⟩)]) rfl
  have i3 := run_ins _ _ hsz hT hI #[{ key := .int .i64 1, val := (.func (.func 67) #[] #[.pointer (some ⟨w.heap.size, 0, none⟩), .pointer (some ⟨rb, 0, none⟩)]), born := 0 }, { key := .int .i64 2, val := (.func (.func 69) #[] #[.pointer (some ⟨w.heap.size, 0, none⟩), .pointer (some ⟨rb, 0, none⟩), .pointer (some ⟨w2.heap.size, 0, none⟩)]), born := 1 }] 2 3 (.func (.func 73) #[] #[.pointer (some ⟨w.heap.size + 1, 0, none⟩), .pointer (some ⟨w.heap.size, 0, none⟩), .pointer (some ⟨w2.heap.size, 0, none⟩), .pointer (some ⟨rb, 0, none⟩)]) rfl
  have i4 := run_ins _ _ hsz hT hI #[{ key := .int .i64 1, val := (.func (.func 67) #[] #[.pointer (some ⟨w.heap.size, 0, none⟩), .pointer (some ⟨rb, 0, none⟩)]), born := 0 }, { key := .int .i64 2, val := (.func (.func 69) #[] #[.pointer (some ⟨w.heap.size, 0, none⟩), .pointer (some ⟨rb, 0, none⟩), .pointer (some ⟨w2.heap.size, 0, none⟩)]), born := 1 }, { key := .int .i64 3, val := (.func (.func 73) #[] #[.pointer (some ⟨w.heap.size + 1, 0, none⟩), .pointer (some ⟨w.heap.size, 0, none⟩), .pointer (some ⟨w2.heap.size, 0, none⟩), .pointer (some ⟨rb, 0, none⟩)]), born := 2 }] 3 4 (.func (.func 77) #[] #[.pointer (some ⟨w.heap.size + 1, 0, none⟩), .pointer (some ⟨w2.heap.size, 0, none⟩), .pointer (some ⟨rb, 0, none⟩)]) rfl
  simp only [List.push_toArray, List.cons_append, List.nil_append, Nat.reduceAdd] at i1 i2 i3 i4
  have lk := run_look_hit1 _ _ hsz hT hI #[{ key := .int .i64 1, val := (.func (.func 67) #[] #[.pointer (some ⟨w.heap.size, 0, none⟩), .pointer (some ⟨rb, 0, none⟩)]), born := 0 }, { key := .int .i64 2, val := (.func (.func 69) #[] #[.pointer (some ⟨w.heap.size, 0, none⟩), .pointer (some ⟨rb, 0, none⟩), .pointer (some ⟨w2.heap.size, 0, none⟩)]), born := 1 }, { key := .int .i64 3, val := (.func (.func 73) #[] #[.pointer (some ⟨w.heap.size + 1, 0, none⟩), .pointer (some ⟨w.heap.size, 0, none⟩), .pointer (some ⟨w2.heap.size, 0, none⟩), .pointer (some ⟨rb, 0, none⟩)]), born := 2 }, { key := .int .i64 4, val := (.func (.func 77) #[] #[.pointer (some ⟨w.heap.size + 1, 0, none⟩), .pointer (some ⟨w2.heap.size, 0, none⟩), .pointer (some ⟨rb, 0, none⟩)]), born := 3 }] 4 3 2 (.func (.func 73) #[] #[.pointer (some ⟨w.heap.size + 1, 0, none⟩), .pointer (some ⟨w.heap.size, 0, none⟩), .pointer (some ⟨w2.heap.size, 0, none⟩), .pointer (some ⟨rb, 0, none⟩)]) rfl
  have HG3 := Lib.hid (show ∀ o1 o2, Grow w2 ((w2.alloc o1).alloc o2) from fun o1 o2 => ((Grow.rfl' w2).allocd o1).allocd o2)
  have HG4 := Lib.hid (show ∀ o1 o2, Grow w ((w2.alloc o1).alloc o2) from fun o1 o2 => HG2.out.step (HG3.out o1 o2))
  have HFB := Lib.hid (show ∀ o2, OneBox ((w2.alloc (.cells #[ofV (rb)] 84)).alloc o2) w2.heap.size (ofV (rb)) from fun o2 => ⟨_, by
    rw [((Grow.rfl' (w2.alloc (.cells #[ofV (rb)] 84))).allocd o2).heapEq (by simp)]
    exact heap_alloc_new w2 _⟩)
  obtain ⟨hrl, -, c2, c3, c4, c5, c6, c7, c0⟩ := HRB.out.cells
  have c1 : w2.cell? ⟨rb, 1, none⟩ = some (.int .i64 3) := by rw [HRB.out.cells.2.1, HK.out]
  have entK4 := entK4
  clear hsz c2 c3 c4 c5 c6 c7 c0
  go_wp2_with fail
  refine (keepsEnds nodes edges _ _ _ _ _ _ r _ S (HN.out.grow (HG4.out _ _)) (HE.out.grow (HG4.out _ _)) (HNB.out.grow (HG3.out _ _)) (HEB.out.grow (HG3.out _ _)) (HRB.out.grow (HG3.out _ _)) (HFB.out _)).mono ?_
  rintro e w3 ⟨rfl, hw3⟩
  obtain ⟨b, hb⟩ : ∃ b, (!edges.any (wrongR nodes r)) = b := ⟨_, rfl⟩
  have HX := Lib.hid (show keepR nodes edges r = b by unfold keepR holdR; rw [HF.out, HK.out]; simpa using hb)
  rw [hb]
  clear hb
  go_wp2
  go_ret
  exact ⟨by rw [HX.out]; rfl, (HG4.out _ _).step hw3⟩

set_option maxRecDepth 100000 in
set_option maxHeartbeats 4000000 in
theorem ruleKeeps4 (nodes : List PNode) (edges : List PEdge) (nv ev : Value) (r : PRule) (w : World) (S : Nat → Prop) (hn : NodesR S w nv nodes) (he : EdgesR S w ev edges) (h64 : ∀ e ∈ edges, (Lit.int .i64 e.from_).wf = true) (hf : formR r = true) (hk : r.kind = 4) :
    Calls Tryz.prog 45 #[nv, ev, r.args] w fun e w' => e = .returned (.bool (keepR nodes edges r)) ∧ Grow w w' := by
  have HN := Lib.hid hn; have HE := Lib.hid he; have H64 := Lib.hid h64; have HF := Lib.hid hf
  obtain ⟨_, _, rfl, _⟩ := SlR.open hn
  obtain ⟨_, _, rfl, _⟩ := SlR.open he
  have HG := Lib.hid (show ∀ o1 o2 o3, Grow w (((w.alloc o1).alloc o2).alloc o3) from fun o1 o2 o3 => (((Grow.rfl' w).allocd o1).allocd o2).allocd o3)
  have HB := Lib.hid (boxes3k w)
  have hmm := @run_makeMap Tryz.prog
  have HK := Lib.hid hk
  clear hn he h64 hf hk
  go_enter Tryz.func45, Tryz.ntmps45
  go_wp2_with fail
  refine (ruleForm r _).mono ?_
  rintro e w2 ⟨rfl, hw2⟩
  rw [HF.out]
  obtain ⟨b1, b2, b3⟩ := HB.out _ _ _ w2 hw2
  have HG2 := Lib.hid ((HG.out _ _ _).step hw2)
  have HRB := Lib.hid (show RuleBox w2 (w.heap.size + 1 + 1) r from b3)
  have HNB := Lib.hid (show OneBox w2 w.heap.size _ from ⟨_, b1⟩)
  have HEB := Lib.hid (show OneBox w2 (w.heap.size + 1) _ from ⟨_, b2⟩)
  clear b1 b2 b3 hw2
  generalize w.heap.size + 1 + 1 = rb at *
  have hsz : (w2.alloc (.cells #[ofV (rb)] 84)).heap.size = w2.heap.size + 1 := by simp
  have hT : Tryz.prog.underlying 131 = some (.map 3 32) := Tryz.underlying131
  have hI : Tryz.prog.underlying 3 = some (.int .i64) := Tryz.underlying3
  have i1 := run_ins _ _ hsz hT hI #[] 0 1 (.func (.func 67) #[] #[.pointer (some ⟨w.heap.size, 0, none⟩), .pointer (some ⟨rb, 0, none⟩)]) rfl
  have i2 := run_ins _ _ hsz hT hI #[{ key := .int .i64 1, val := (.func (.func 67) #[] #[.pointer (some ⟨w.heap.size, 0, none⟩), .pointer (some ⟨rb, 0, none⟩)]), born := 0 }] 1 2 (.func (.func 69) #[] #[.pointer (some ⟨w.heap.size, 0, none⟩), .pointer (some ⟨rb, 0, none⟩), .pointer (some ⟨w2.heap.size, 0, none⟩)]) rfl
  have i3 := run_ins _ _ hsz hT hI #[{ key := .int .i64 1, val := (.func (.func 67) #[] #[.pointer (some ⟨w.heap.size, 0, none⟩), .pointer (some ⟨rb, 0, none⟩)]), born := 0 }, { key := .int .i64 2, val := (.func (.func 69) #[] #[.pointer (some ⟨w.heap.size, 0, none⟩), .pointer (some ⟨rb, 0, none⟩), .pointer (some ⟨w2.heap.size, 0, none⟩)]), born := 1 }] 2 3 (.func (.func 73) #[] #[.pointer (some ⟨w.heap.size + 1, 0, none⟩), .pointer (some ⟨w.heap.size, 0, none⟩), .pointer (some ⟨w2.heap.size, 0, none⟩), .pointer (some ⟨rb, 0, none⟩)]) rfl
  have i4 := run_ins _ _ hsz hT hI #[{ key := .int .i64 1, val := (.func (.func 67) #[] #[.pointer (some ⟨w.heap.size, 0, none⟩), .pointer (some ⟨rb, 0, none⟩)]), born := 0 }, { key := .int .i64 2, val := (.func (.func 69) #[] #[.pointer (some ⟨w.heap.size, 0, none⟩), .pointer (some ⟨rb, 0, none⟩), .pointer (some ⟨w2.heap.size, 0, none⟩)]), born := 1 }, { key := .int .i64 3, val := (.func (.func 73) #[] #[.pointer (some ⟨w.heap.size + 1, 0, none⟩), .pointer (some ⟨w.heap.size, 0, none⟩), .pointer (some ⟨w2.heap.size, 0, none⟩), .pointer (some ⟨rb, 0, none⟩)]), born := 2 }] 3 4 (.func (.func 77) #[] #[.pointer (some ⟨w.heap.size + 1, 0, none⟩), .pointer (some ⟨w2.heap.size, 0, none⟩), .pointer (some ⟨rb, 0, none⟩)]) rfl
  simp only [List.push_toArray, List.cons_append, List.nil_append, Nat.reduceAdd] at i1 i2 i3 i4
  have lk := run_look_hit1 _ _ hsz hT hI #[{ key := .int .i64 1, val := (.func (.func 67) #[] #[.pointer (some ⟨w.heap.size, 0, none⟩), .pointer (some ⟨rb, 0, none⟩)]), born := 0 }, { key := .int .i64 2, val := (.func (.func 69) #[] #[.pointer (some ⟨w.heap.size, 0, none⟩), .pointer (some ⟨rb, 0, none⟩), .pointer (some ⟨w2.heap.size, 0, none⟩)]), born := 1 }, { key := .int .i64 3, val := (.func (.func 73) #[] #[.pointer (some ⟨w.heap.size + 1, 0, none⟩), .pointer (some ⟨w.heap.size, 0, none⟩), .pointer (some ⟨w2.heap.size, 0, none⟩), .pointer (some ⟨rb, 0, none⟩)]), born := 2 }, { key := .int .i64 4, val := (.func (.func 77) #[] #[.pointer (some ⟨w.heap.size + 1, 0, none⟩), .pointer (some ⟨w2.heap.size, 0, none⟩), .pointer (some ⟨rb, 0, none⟩)]), born := 3 }] 4 4 3 (.func (.func 77) #[] #[.pointer (some ⟨w.heap.size + 1, 0, none⟩), .pointer (some ⟨w2.heap.size, 0, none⟩), .pointer (some ⟨rb, 0, none⟩)]) rfl
  have HG3 := Lib.hid (show ∀ o1 o2, Grow w2 ((w2.alloc o1).alloc o2) from fun o1 o2 => ((Grow.rfl' w2).allocd o1).allocd o2)
  have HG4 := Lib.hid (show ∀ o1 o2, Grow w ((w2.alloc o1).alloc o2) from fun o1 o2 => HG2.out.step (HG3.out o1 o2))
  have HFB := Lib.hid (show ∀ o2, OneBox ((w2.alloc (.cells #[ofV (rb)] 84)).alloc o2) w2.heap.size (ofV (rb)) from fun o2 => ⟨_, by
    rw [((Grow.rfl' (w2.alloc (.cells #[ofV (rb)] 84))).allocd o2).heapEq (by simp)]
    exact heap_alloc_new w2 _⟩)
  obtain ⟨hrl, -, c2, c3, c4, c5, c6, c7, c0⟩ := HRB.out.cells
  have c1 : w2.cell? ⟨rb, 1, none⟩ = some (.int .i64 4) := by rw [HRB.out.cells.2.1, HK.out]
  have entK5 := entK5
  clear hsz c2 c3 c4 c5 c6 c7 c0
  go_wp2_with fail
  refine (keepsMost edges _ _ _ _ r _ S (HE.out.grow (HG4.out _ _)) H64.out (HEB.out.grow (HG3.out _ _)) (HRB.out.grow (HG3.out _ _)) (HFB.out _)).mono ?_
  rintro e w3 ⟨rfl, hw3⟩
  obtain ⟨b, hb⟩ : ∃ b, (mostR edges r) = b := ⟨_, rfl⟩
  have HX := Lib.hid (show keepR nodes edges r = b by unfold keepR holdR; rw [HF.out, HK.out]; simpa using hb)
  rw [hb]
  clear hb
  go_wp2
  go_ret
  exact ⟨by rw [HX.out]; rfl, (HG4.out _ _).step hw3⟩

theorem ruleKeeps (nodes : List PNode) (edges : List PEdge) (nv ev : Value) (r : PRule) (w : World) (S : Nat → Prop) (hn : NodesR S w nv nodes) (he : EdgesR S w ev edges) (h64 : ∀ e ∈ edges, (Lit.int .i64 e.from_).wf = true) :
    Calls Tryz.prog 45 #[nv, ev, r.args] w fun e w' => e = .returned (.bool (keepR nodes edges r)) ∧ Grow w w' := by
  cases hf : formR r with
  | false => exact ruleKeeps0 nodes edges nv ev r w S hn he h64 hf
  | true =>
    rcases formR_kind hf with hk | hk | hk | hk
    · exact ruleKeeps1 nodes edges nv ev r w S hn he h64 hf hk
    · exact ruleKeeps2 nodes edges nv ev r w S hn he h64 hf hk
    · exact ruleKeeps3 nodes edges nv ev r w S hn he h64 hf hk
    · exact ruleKeeps4 nodes edges nv ev r w S hn he h64 hf hk
end Go.Hg

namespace Go.Hg
open Go.RowKit Go.Proofs

def GAt (gv : Value) (N : List PNode) (E : List PEdge) (w : World) : Prop := ∀ w', Grow w w' →
  (Calls Tryz.prog 46 #[gv] w' fun e w2 => ∃ v, e = .returned v ∧ NodesR (fun b => w'.heap.size ≤ b) w2 v N ∧ Grow w' w2) ∧
  (Calls Tryz.prog 47 #[gv] w' fun e w2 => ∃ v, e = .returned v ∧ EdgesR (fun b => w'.heap.size ≤ b) w2 v E ∧ Grow w' w2)
theorem GAt.grow {gv : Value} {N : List PNode} {E : List PEdge} {w w1 : World} (h : GAt gv N E w) (g : Grow w w1) : GAt gv N E w1 := fun w' g' => h w' (g.step g')
theorem gAt_of {S : Nat → Prop} {B : Nat} {G : PGraph} {w : World} (h : GraphRd 106 S w B G) (hi : GInv G) : GAt (.pointer (some ⟨B, 0, none⟩)) G.nodes G.edges w := fun w' g =>
  ⟨(graphNodes S B G w' (h.grow g) (by have := hi.items; omega) (fun x hx => by have := (hi.nodesB x hx).2.2; omega)).mono fun e w2 ⟨v, ob, he, ho, hob, hg⟩ =>
    ⟨v, he, SlR.sub (ho.toSl (S := fun b => w'.heap.size ≤ b) hob) (fun _ h => h) (fun x r _ hR => hR.sub (fun b hb => hb.1)), hg⟩,
   (graphEdges S B G w' (h.grow g) (by have := hi.items; omega) (fun x hx => by have := (hi.edgesB x hx).2.2; omega)).mono fun e w2 ⟨v, ob, he, ho, hob, hg⟩ =>
    ⟨v, he, SlR.sub (ho.toSl (S := fun b => w'.heap.size ≤ b) hob) (fun _ h => h) (fun x r _ hR => hR.sub (fun b hb => hb.1)), hg⟩⟩
theorem nodesT {S : Nat → Prop} {w : World} {v : Value} {l : List PNode} (h : NodesR S w v l) : NodesR (fun _ => True) w v l := SlR.sub h (fun _ _ => trivial) (fun _ _ _ hR => hR.sub (fun _ _ => trivial))
theorem edgesT {S : Nat → Prop} {w : World} {v : Value} {l : List PEdge} (h : EdgesR S w v l) : EdgesR (fun _ => True) w v l := SlR.sub h (fun _ _ => trivial) (fun _ _ _ hR => hR.sub (fun _ _ => trivial))
end Go.Hg

namespace Go.Hg
open Go.RowKit Go.Proofs

def IdsP (P : Nat → Prop) (w : World) (v : Value) (l : List Int) : Prop := ∃ ob, IdsO w v l ob ∧ ∀ q, ob = some q → P q
theorem IdsP.nil (P : Nat → Prop) (w : World) : IdsP P w (.slice none 0 0) [] := ⟨none, OwnS.nil w _ 1, by simp⟩
theorem IdsP.grow {P : Nat → Prop} {w w' : World} {v : Value} {l : List Int} (h : IdsP P w v l) (g : Grow w w') : IdsP P w' v l := by
  obtain ⟨ob, h1, h2⟩ := h
  exact ⟨ob, OwnS.grow h1 g, h2⟩
theorem IdsP.imp {P P' : Nat → Prop} {w : World} {v : Value} {l : List Int} (h : IdsP P w v l) (hP : ∀ b, b < w.heap.size → P b → P' b) : IdsP P' w v l := by
  obtain ⟨ob, h1, h2⟩ := h
  exact ⟨ob, h1, fun q hq => hP q (OwnS.lt h1 q hq) (h2 q hq)⟩
theorem IdsP.isSlice {P : Nat → Prop} {w : World} {v : Value} {l : List Int} (h : IdsP P w v l) : ∃ oa cap, v = .slice oa l.length cap ∧ l.length ≤ cap ∧ cap ≤ maxLen := by
  obtain ⟨ob, h1, -⟩ := h
  exact OwnS.isSlice h1
theorem IdsP.toW {P : Nat → Prop} {w : World} {v : Value} {l : List Int} {n : Nat} (h : IdsP P w v l) (hn : ∀ b, P b → n ≤ b) : IdsW n w v l := by
  obtain ⟨ob, h1, h2⟩ := h
  exact ⟨ob, h1, fun q hq => hn q (h2 q hq)⟩
theorem wpList_append_P {w : World} {ops : Array Oper} {rest : List Oper} {o : Oper} {a : Act} {Q : Exit → Act → World → Prop} (hgd : o.guard = none) (s x : Operand) (t : TypeId)
    (ho : o.op = .call { callee := .builtin .append, args := #[s, x], argTypes := #[t, t] }) (ht : Tryz.prog.underlying t = some (.slice 2)) (P : Nat → Prop) (v : Value) (l : List Int) (hs : a.eval s = v) (h : IdsP P w v l)
    (y : Int) (nb : Nat) (hx : a.eval x = .slice (some ⟨nb, 0, none⟩) 1 1) (hrd : Rd w 1 (.slice (some ⟨nb, 0, none⟩) 1 1) 1 [.int .i64 y]) (hP : ∀ b, w.heap.size ≤ b → P b) (hl : l.length + 1 ≤ 8796093022208)
    (hK : ∀ v' w', IdsP P w' v' (l ++ [y]) → Mod P w w' → w.heap.size ≤ w'.heap.size → wpList Tryz.prog ops Q rest (a.put o.dst v') w') : wpList Tryz.prog ops Q (o :: rest) a w := by
  obtain ⟨iP, hiP, hzP0, hzP1, hzP2⟩ := info_parts infoInt
  obtain ⟨ob, h1, h2⟩ := h
  refine wpList_append_S w hgd s x t ho 2 iP _ 1 8 ht hiP hzP0 hzP1 hzP2 rfl (by decide) v l.length _ ob hs h1 _ hx 1 _ hrd (one1 _ rfl) (by unfold maxLen; omega) (by omega) ?_
  intro v' w' ob' k1 k2 k3 _
  refine hK v' w' ⟨ob', ?_, ?_⟩ (k2.mono fun q hq => h2 q hq) k2.size
  · unfold IdsO
    rw [List.length_append, List.map_append]
    exact k1
  · intro q hq
    rcases k3 with k3 | ⟨g, k3, hg⟩
    · exact h2 q (k3 ▸ hq)
    · rw [k3] at hq; cases hq; exact hP _ hg
theorem EdgesR.cut {S : Nat → Prop} {w : World} {v : Value} {l : List PEdge} (h : EdgesR S w v l) : EdgesR (fun b => S b ∧ b < w.heap.size) w v l := by
  obtain ⟨a, cap, rows, h1, h2, h3, h4, h5, h6⟩ := h
  refine ⟨a, cap, rows, h1, h2, h3, h4, fun k x r hx hr => ?_, fun h0 => ?_⟩
  · obtain ⟨pv, e, hp⟩ := h5 k x r hx hr
    exact ⟨pv, e, hp.cut⟩
  · obtain ⟨b, off, e, hS, hb, hc⟩ := h6 h0
    exact ⟨b, off, e, ⟨hS, hb⟩, hb, hc⟩
theorem EdgesR.mod {F S : Nat → Prop} {w w' : World} {v : Value} {l : List PEdge} (h : EdgesR S w v l) (g : Mod F w w') (hd : ∀ b, S b → ¬ F b) : EdgesR S w' v l :=
  SlR.keep h (fun b hS hb => g.block b hb (hd b hS)) g.size (fun _ _ _ hR => hR.mod g hd)

set_option maxRecDepth 100000 in
set_option maxHeartbeats 4000000 in
theorem buildIds (gv : Value) (G : PGraph) (f : Int) (w : World) (hg : GAt gv G.nodes G.edges w) (hb : G.nodes.length + G.edges.length ≤ 4096) :
    Calls Tryz.prog 42 #[gv, .int .i64 f] w fun e w' => ∃ v, e = .returned v ∧ IdsR (fun b => w.heap.size ≤ b) w' v (idsG G f) ∧ Grow w w' := by
  obtain ⟨W1, hW1⟩ : ∃ W1, w.alloc (.cells #[.int .i64 f] 2) = W1 := ⟨_, rfl⟩
  have HG1 := Lib.hid (show Grow w W1 from hW1 ▸ (Grow.rfl' w).allocd _)
  have HZ1 := Lib.hid (show W1.heap.size = w.heap.size + 1 by rw [← hW1]; simp)
  have HFC := Lib.hid (show W1.cell? ⟨w.heap.size, 0, none⟩ = some (.int .i64 f) by rw [← hW1]; exact (blk_cell (heap_alloc_new w _) 0).trans rfl)
  have HGA := Lib.hid (hg.grow HG1.out); have HB := Lib.hid hb
  have HIDG := Lib.hid (show ((G.nodes.map (·.id) ++ G.edges.map (·.id)).filter fun x => decide (f ≤ x)).mergeSort (fun x y => decide (x ≤ y)) = idsG G f from rfl)
  clear hg hb
  obtain ⟨L, hL⟩ : ∃ L, idsG G f = L := ⟨_, rfl⟩
  obtain ⟨N, hN⟩ : ∃ N, G.nodes = N := ⟨_, rfl⟩
  obtain ⟨E, hE⟩ : ∃ E, G.edges = E := ⟨_, rfl⟩
  rw [hN, hE] at HGA HB HIDG
  rw [hL] at HIDG
  rw [hL]
  clear hN hE hL
  go_enter Tryz.func42, Tryz.ntmps42
  go_wp2_with fail
  clear hW1
  refine ((HGA.out W1 (Grow.rfl' _)).1).mono ?_
  rintro e w2 ⟨nv, rfl, hn, g2⟩
  have HG2 := Lib.hid g2
  obtain ⟨na, nc, rfl, hal, hac, hA⟩ := SlR.open hn
  unfold maxLen at hac
  have HA := Lib.hid hA
  have hNl : N.length ≤ 4096 := by have := HB.out; omega
  clear hn hA g2
  go_wp2_with fail
  go_loopg [5, 13] N.length (fun g vo i wr => ∃ k : Nat, k ≤ N.length ∧ g = N.length - k ∧ i = .int .i64 k ∧ IdsP (fun b => w2.heap.size ≤ b) wr vo ((N.take k).map (·.id)) ∧ Grow w2 wr)
  case atStart => exact ⟨0, by omega, by omega, rfl, IdsP.nil _ _, Grow.rfl' w2⟩
  case round =>
    obtain ⟨k, hk, rfl, rfl, hown, hgr⟩ := hrel
    have HOWN := Lib.hid hown; have HGR := Lib.hid hgr
    obtain ⟨oo, co, rfl, hoc, hom⟩ := hown.isSlice
    by_cases hkl : k < N.length
    · obtain ⟨ba, oa, ra, rfl, hSa, hba, hRa, hca⟩ := HA.out k N[k] (List.getElem?_eq_getElem hkl)
      obtain ⟨pva, hba', a0, a1, a2, hpa⟩ := hRa.at hba hgr hca
      obtain ⟨pa, pc, rfl⟩ := hpa.isSlice
      clear hca hRa hSa hba hgr hown hpa hoc hom
      have HT := Lib.hid (show (N.take (k + 1)).map (·.id) = (N.take k).map (·.id) ++ [N[k].id] by rw [List.take_succ_eq_append_getElem hkl, List.map_append]; rfl)
      have HFL := Lib.hid (show ((N.take k).map (·.id)).length ≤ 4096 by simp; omega)
      generalize N[k] = p at *
      generalize (N.take k).map (·.id) = fl at *
      have HW := Lib.hid (show ∀ o1 o2, Grow wr ((wr.alloc o1).alloc o2) from fun o1 o2 => ((Grow.rfl' wr).allocd o1).allocd o2)
      have HSZ := Lib.hid HGR.out.size
      go_wp2_with (at_builtin; go_must (refine wpList_append_P rfl (.tmp 17) (.tmp 20) 25 rfl Tryz.underlying25 (fun b => w2.heap.size ≤ b) _ fl rfl (HOWN.out.grow (HW.out _ _)) p.id (wr.heap.size + 1) rfl (rd1 _ _ _ (by simp)) (by have := HSZ.out; simp; omega) (by have := HFL.out; omega) ?_))
      intro v' w5 h1 h2 h3
      have H5 := Lib.hid (show IdsP (fun b => w2.heap.size ≤ b) w5 v' ((N.take (k + 1)).map (·.id)) by rw [HT.out]; exact h1)
      have HG5 := Lib.hid (show Grow w2 w5 from (HGR.out.step (HW.out _ _)).modd h2 (fun _ h => h))
      clear h1 h2 h3
      go_wp2_with fail
      go_roundg (N.length - (k + 1))
      case measure => omega
      case rel => exact ⟨k + 1, by omega, rfl, by go_num, H5.out, HG5.out⟩
    · have hkk : N.take k = N := List.take_of_length_le (by omega)
      rw [hkk] at HOWN
      clear hown hgr HA
      simp only [hkk, List.length_map] at *
      obtain ⟨wA, hwA⟩ : ∃ wA : World, wA = wr := ⟨_, rfl⟩
      rw [← hwA] at HOWN HGR
      rw [← hwA]
      clear hwA hkk
      go_wp2_with fail
      refine ((HGA.out wA (HG2.out.step HGR.out)).2).mono ?_
      rintro e w3 ⟨ev, rfl, he, g3⟩
      have HG3 := Lib.hid (HGR.out.step g3)
      have hs3 := g3.size
      have hs2 := HGR.out.size
      obtain ⟨P, hP⟩ : ∃ P : Nat → Prop, ∀ b, P b ↔ ((w2.heap.size ≤ b ∧ b < wA.heap.size) ∨ w3.heap.size ≤ b) := ⟨_, fun b => Iff.rfl⟩
      have HP3 := Lib.hid (show ∀ b, w3.heap.size ≤ b → P b from fun b hb => (hP b).2 (.inr hb))
      have HOWN3 := Lib.hid (show IdsP P w3 (.slice oo N.length co) (N.map (·.id)) from (HOWN.out.imp (P' := P) (fun b hb h => (hP b).2 (.inl ⟨h, hb⟩))).grow g3)
      have HP2 := Lib.hid (show ∀ b, P b → w2.heap.size ≤ b from fun b hb => by have := (hP b).1 hb; omega)
      have HEM := Lib.hid (show ∀ w', Mod P w3 w' → EdgesR (fun b => wA.heap.size ≤ b ∧ b < w3.heap.size) w' ev E from fun w' hm => (EdgesR.cut he).mod hm (fun b hb h => by have := (hP b).1 h; omega))
      obtain ⟨ea, ec, rfl, hel, hec, -⟩ := SlR.open he
      unfold maxLen at hec
      have hEl : E.length ≤ 4096 := by have := HB.out; omega
      clear he g3 HGA hP HOWN HGR
      go_wp2_with fail
      go_loopg [5, 26] E.length (fun g vo i wr => ∃ k : Nat, k ≤ E.length ∧ g = E.length - k ∧ i = .int .i64 k ∧ IdsP P wr vo (N.map (·.id) ++ (E.take k).map (·.id)) ∧ Mod P w3 wr)
      case atStart => exact ⟨0, by omega, by omega, rfl, by simpa using HOWN3.out, Mod.rfl' _ w3⟩
      case round =>
        obtain ⟨k, hk, rfl, rfl, hown, hgr⟩ := hrel
        have HOWN := Lib.hid hown; have HGR := Lib.hid hgr
        obtain ⟨oo2, co2, rfl, hoc2, hom2⟩ := hown.isSlice
        by_cases hkl : k < E.length
        · obtain ⟨_, _, hee, -, -, hA⟩ := SlR.open (HEM.out wr hgr)
          cases hee
          obtain ⟨ba, oa, ra, rfl, hSa, hba, hRa, hca⟩ := hA k E[k] (List.getElem?_eq_getElem hkl)
          obtain ⟨pva, hba', a0, a1, a2, a3, a4, hpa⟩ := hRa.at hba (Grow.rfl' wr) hca
          obtain ⟨pa, pc, rfl⟩ := hpa.isSlice
          clear hca hRa hSa hba hgr hown hpa hoc2 hom2 hA
          have HT := Lib.hid (show N.map (·.id) ++ (E.take (k + 1)).map (·.id) = (N.map (·.id) ++ (E.take k).map (·.id)) ++ [E[k].id] by rw [List.take_succ_eq_append_getElem hkl, List.map_append, List.append_assoc]; rfl)
          have HFL := Lib.hid (show (N.map (·.id) ++ (E.take k).map (·.id)).length ≤ 8192 by simp; omega)
          generalize E[k] = p at *
          generalize N.map (·.id) ++ (E.take k).map (·.id) = fl at *
          have HW := Lib.hid (show ∀ o1 o2, Grow wr ((wr.alloc o1).alloc o2) from fun o1 o2 => ((Grow.rfl' wr).allocd o1).allocd o2)
          have HSZ := Lib.hid HGR.out.size
          go_wp2_with (at_builtin; go_must (refine wpList_append_P rfl (.tmp 30) (.tmp 33) 25 rfl Tryz.underlying25 P _ fl rfl (HOWN.out.grow (HW.out _ _)) p.id (wr.heap.size + 1) rfl (rd1 _ _ _ (by simp)) (fun b hb => HP3.out b (by have := HSZ.out; simp at hb; omega)) (by have := HFL.out; omega) ?_))
          intro v' w5 h1 h2 h3
          have H5 := Lib.hid (show IdsP P w5 v' (N.map (·.id) ++ (E.take (k + 1)).map (·.id)) by rw [HT.out]; exact h1)
          have HG5 := Lib.hid (show Mod P w3 w5 from (HGR.out.step (Mod.of_grow (HW.out _ _))).step h2)
          clear h1 h2 h3
          go_wp2_with fail
          go_roundg (E.length - (k + 1))
          case measure => omega
          case rel => exact ⟨k + 1, by omega, rfl, by go_num, H5.out, HG5.out⟩
        · have hYE : N.map (·.id) ++ (E.take k).map (·.id) = N.map (·.id) ++ E.map (·.id) := by rw [List.take_of_length_le (by omega)]
          have HLF := Lib.hid (show ((N.map (·.id) ++ E.map (·.id)).filter fun x => decide (f ≤ x)).length ≤ 1099511627776 from Nat.le_trans (List.length_filter_le _ _) (by simp; omega))
          rw [← hYE] at HLF HIDG
          clear hYE
          generalize N.map (·.id) ++ (E.take k).map (·.id) = Y at *
          have HWR := Lib.hid (show Grow w2 wr from HG3.out.modd hgr HP2.out)
          have HIH := Lib.hid (HOWN.out.toW HP2.out).toH
          have hs2w := HWR.out.size
          have HCF := Lib.hid (show wr.cell? ⟨w.heap.size, 0, none⟩ = some (.int .i64 f) from ((HG2.out.step HWR.out).cell (p := ⟨w.heap.size, 0, none⟩) (by have := HZ1.out; simp; omega)).trans HFC.out)
          have HN1 := Lib.hid (show w.heap.size < w2.heap.size by have := HG2.out.size; have := HZ1.out; omega)
          clear hown hgr HEM
          go_wp2_with fail
          refine (deleteIds w2.heap.size w.heap.size f _ _ wr HIH.out HN1.out hs2w HCF.out).mono ?_
          rintro e w6 ⟨v6, rfl, h6, g6⟩
          have HI6 := Lib.hid h6; have HG6 := Lib.hid (show Grow w2 w6 from HWR.out.modd g6 (fun _ h => h))
          clear h6 g6
          go_wp2_with fail
          refine (sortIds w2.heap.size v6 _ w6 HI6.out HLF.out).mono ?_
          rintro e w7 ⟨rfl, h7, g7⟩
          have HI7 := Lib.hid (show IdsH w2.heap.size w7 v6 L by rw [← HIDG.out]; exact h7)
          have HG7 := Lib.hid (show Grow w2 w7 from HG6.out.modd g7 (fun _ h => h))
          clear h7 g7
          go_wp2
          go_ret
          exact ⟨_, rfl, SlR.sub HI7.out.toR (fun b hb => by have := HN1.out; omega) (fun _ _ _ h => h), HG1.out.step (HG2.out.step HG7.out)⟩
end Go.Hg

namespace Go.Hg
open Go.RowKit Go.Proofs

structure RowT (P : Program) (e : TypeId) (sz bytes : Nat) : Prop where
  info : ∃ i z, P.info? e = some i ∧ i.zero = some z ∧ i.size = sz ∧ i.bytes = bytes ∧ z.cells.size = sz
  pos : 0 < sz
theorem RowT.of {P : Program} {e : TypeId} {z : Value} {sz bytes : Nat} (h : (P.info? e).map (fun i => (i.zero, i.size, i.bytes)) = some (some z, sz, bytes)) (hz : z.cells.size = sz) (hs : 0 < sz) : RowT P e sz bytes := by
  obtain ⟨i, h1, h2, h3, h4⟩ := info_parts h
  exact ⟨⟨i, z, h1, h2, h3, h4, hz⟩, hs⟩
def OwnN {α : Type} (e : TypeId) (sz : Nat) (R : α → List Value → Prop) (n : Nat) (w : World) (v : Value) (l : List α) : Prop := ∃ ob, OwnL w e sz R v l ob ∧ ∀ q, ob = some q → n ≤ q
section
variable {α : Type} {e : TypeId} {sz : Nat} {R : α → List Value → Prop} {n : Nat} {w w' : World} {v : Value} {l : List α}
theorem OwnN.nil (n : Nat) (w : World) : OwnN e sz R n w (.slice none 0 0) [] := ⟨none, OwnL.nil w e sz R, by simp⟩
theorem OwnN.grow (h : OwnN e sz R n w v l) (g : Grow w w') : OwnN e sz R n w' v l := by
  obtain ⟨ob, h1, h2⟩ := h
  exact ⟨ob, h1.keep (fun q hq => g.heapEq (h1.lt q hq)) (fun _ _ _ h => h), h2⟩
theorem OwnN.mod {F : Nat → Prop} (h : OwnN e sz R n w v l) (g : Mod F w w') (hF : ∀ k, n ≤ k → ¬ F k) : OwnN e sz R n w' v l := by
  obtain ⟨ob, h1, h2⟩ := h
  exact ⟨ob, h1.keep (fun q hq => g.block q (h1.lt q hq) (hF q (h2 q hq))) (fun _ _ _ h => h), h2⟩
theorem OwnN.base {m : Nat} (h : OwnN e sz R n w v l) (hm : m ≤ n) : OwnN e sz R m w v l := by
  obtain ⟨ob, h1, h2⟩ := h
  exact ⟨ob, h1, fun q hq => Nat.le_trans hm (h2 q hq)⟩
theorem OwnN.isSlice (h : OwnN e sz R n w v l) : ∃ oa cap, v = .slice oa l.length cap ∧ l.length ≤ cap ∧ cap ≤ maxLen := by
  obtain ⟨ob, ⟨rows, _, _, h1⟩, _⟩ := h
  exact OwnS.isSlice h1
theorem OwnN.toR (h : OwnN e sz R n w v l) : SlR (fun b => n ≤ b) w sz R v l := by
  obtain ⟨ob, h1, h2⟩ := h
  exact h1.toSl h2
theorem OwnN.imp {R' : α → List Value → Prop} (h : OwnN e sz R n w v l) (hR : ∀ x r, x ∈ l → R x r → R' x r) : OwnN e sz R' n w v l := by
  obtain ⟨ob, h1, h2⟩ := h
  exact ⟨ob, h1.keep (fun _ _ => rfl) hR, h2⟩
end
theorem rdK (W : World) (cs : Array Value) (E : TypeId) (sz : Nat) (hs : cs.size = sz) {nb : Nat} (h : W.heap.size = nb) : Rd (W.alloc (.cells cs E)) sz (.slice (some ⟨nb, 0, none⟩) 1 1) 1 cs.toList := by
  subst h
  exact Rd.lit W cs E sz 1 (by omega)
end Go.Hg

namespace Go.Hg
open Go.RowKit Go.Proofs

theorem SlR.rdN {α : Type} {S : Nat → Prop} {w : World} {sz : Nat} {R : α → List Value → Prop} {v : Value} {l : List α} (h : SlR S w sz R v l) (hs : 0 < sz) (hR : ∀ x r, R x r → r.length = sz) :
    ∃ rows : List (List Value), rows.length = l.length ∧ (∀ (k : Nat) x r, l[k]? = some x → rows[k]? = some r → R x r ∧ r.length = sz) ∧ Rd w sz v l.length rows.flatten := by
  obtain ⟨a, cap, rows, rfl, h1, h2, h3, h4, h5⟩ := h
  have hrl : ∀ r ∈ rows, r.length = sz := by
    intro r hr
    obtain ⟨k, hk, e⟩ := List.getElem_of_mem hr
    exact hR (l[k]'(by omega)) r (h4 k _ r (List.getElem?_eq_getElem (by omega)) (by rw [List.getElem?_eq_getElem hk, e]))
  have hfl : rows.flatten.length = l.length * sz := by
    rw [← h3]
    clear h3 h4 h5
    induction rows with
    | nil => simp
    | cons r t ih =>
      rw [List.flatten_cons, List.length_append, hrl r (.head _), ih (fun r hr => hrl r (.tail _ hr)), List.length_cons, Nat.succ_mul]
      omega
  refine ⟨rows, h3, fun k x r hx hr => ⟨h4 k x r hx hr, hrl r (List.mem_of_getElem? hr)⟩, hfl, a, cap, rfl, ?_⟩
  by_cases h0 : l.length = 0
  · exact .inl h0
  · obtain ⟨b, off, rfl, -, -, hc⟩ := h5 (by omega)
    refine .inr ⟨_, rfl, fun i u hi => ?_⟩
    have hil : i < l.length * sz := by rw [← hfl]; exact (List.getElem?_eq_some_iff.1 hi).1
    have hk : i / sz < rows.length := by rw [h3]; exact Nat.div_lt_of_lt_mul (by rw [Nat.mul_comm]; exact hil)
    have hj : i % sz < (rows[i / sz]).length := by rw [hrl _ (List.getElem_mem hk)]; exact Nat.mod_lt _ hs
    have h6 := flatten_at rows sz (i / sz) (i % sz) rows[i / sz] _ hrl (List.getElem?_eq_getElem hk) (List.getElem?_eq_getElem hj)
    have e : i / sz * sz + i % sz = i := by rw [Nat.mul_comm]; exact Nat.div_add_mod i sz
    rw [e, hi] at h6
    have h7 := hc (i / sz) rows[i / sz] (i % sz) _ (List.getElem?_eq_getElem hk) (List.getElem?_eq_getElem hj)
    have hadd : (⟨b, off, none⟩ : Addr).add i = ⟨b, off + i, none⟩ := by unfold Addr.add; split <;> simp_all
    rw [hadd]
    rw [show off + i / sz * sz + i % sz = off + i by omega] at h7
    rw [h7, ← h6]
theorem wpList_append_L {P : Program} {α : Type} {R : α → List Value → Prop} {S : Nat → Prop} {w : World} {ops : Array Oper} {rest : List Oper} {o : Oper} {a : Act} {Q : Exit → Act → World → Prop} (hgd : o.guard = none) (s x : Operand) (t : TypeId)
    (ho : o.op = .call { callee := .builtin .append, args := #[s, x], argTypes := #[t, t] }) {e : TypeId} {sz bytes : Nat} (T : RowT P e sz bytes) (ht : P.underlying t = some (.slice e)) (n : Nat) (nb : Nat) (hs : a.eval s = .slice (some ⟨nb, 0, none⟩) 0 0)
    (xv : Value) (hx : a.eval x = xv) (l : List α) (hl : SlR S w sz R xv l) (hR : ∀ x r, R x r → r.length = sz ∧ ∀ u ∈ r, u.oneCell' = true) (hn : n ≤ w.heap.size) (hlm : l.length ≤ maxLen) (hby : l.length * bytes ≤ 140737488355328)
    (hK : ∀ v' w', OwnN e sz R n w' v' l → Grow w w' → wpList P ops Q rest (a.put o.dst v') w') : wpList P ops Q (o :: rest) a w := by
  obtain ⟨rows, h1, h2, h3⟩ := SlR.rdN hl T.pos (fun x r h => (hR x r h).1)
  obtain ⟨⟨iP, z, hiP, hzP0, hzP1, hzP2, hzz⟩, hpos⟩ := T
  have hone : ∀ u ∈ rows.flatten, u.oneCell' = true := by
    intro u hu
    obtain ⟨r, hr, hur⟩ := List.mem_flatten.1 hu
    obtain ⟨k, hk, e⟩ := List.getElem_of_mem hr
    exact (hR _ r (h2 k (l[k]'(by omega)) r (List.getElem?_eq_getElem (by omega)) (by rw [List.getElem?_eq_getElem hk, e])).1).2 u hur
  refine wpList_append_S w hgd s x t ho e iP z sz bytes ht hiP hzP0 hzP1 hzP2 hzz hpos _ 0 [] none hs ⟨by simp, .inl ⟨_, rfl, rfl, rfl, by simp⟩⟩ _ hx l.length _ h3 hone (by omega) (by rw [Nat.zero_add]; exact hby) ?_
  intro v' w' ob' k1 k2 k3 _
  have hg : Grow w w' := (k2.mono (F' := fun _ => False) (fun q hq => by cases hq)).grow
  refine hK v' w' ⟨ob', ⟨rows, h1, h2, ?_⟩, ?_⟩ hg
  · simpa using k1
  · intro q hq
    rcases k3 with k3 | ⟨g, k3, hg⟩
    · rw [k3] at hq; cases hq
    · rw [k3] at hq; cases hq; omega
end Go.Hg

namespace Go.Hg
open Go.RowKit Go.Proofs
theorem step_append_R {P : Program} {α : Type} {R : α → List Value → Prop} {w : World} {ops : Array Oper} {o : Oper} {a : Act} {K : Act → World → Prop} {Q : Exit → Act → World → Prop} {E : Prop} (hgd : o.guard = none) (s x : Operand) (t : TypeId)
    (ho : o.op = .call { callee := .builtin .append, args := #[s, x], argTypes := #[t, t] }) {e : TypeId} {sz bytes : Nat} (T : RowT P e sz bytes) (ht : P.underlying t = some (.slice e)) (n : Nat) (v : Value) (l : List α) (hs : a.eval s = v) (h : OwnN e sz R n w v l)
    (y : α) (r : List Value) (hr : R y r) (hrl : r.length = sz) (h1 : ∀ u ∈ r, u.oneCell' = true) (nb : Nat) (hx : a.eval x = .slice (some ⟨nb, 0, none⟩) 1 1) (hrd : Rd w sz (.slice (some ⟨nb, 0, none⟩) 1 1) 1 r) (hn : n ≤ w.heap.size) (hl : l.length + 1 ≤ maxLen) (hby : (l.length + 1) * bytes ≤ 140737488355328)
    (hK : ∀ v' w', OwnN e sz R n w' v' (l ++ [y]) → Since n w w' → w.heap.size ≤ w'.heap.size → K (a.put o.dst v') w') : if Region.wanted o (yielded ops a.tmps) = true then Oper.wp P o a w K Q else E := by
  obtain ⟨⟨iP, z, hiP, hzP0, hzP1, hzP2, hzz⟩, hpos⟩ := T
  obtain ⟨ob, hL, h2⟩ := h
  obtain ⟨rows, hlen, hrow, hS⟩ := hL
  refine step_append_S hgd s x t ho e iP z sz bytes ht hiP hzP0 hzP1 hzP2 hzz hpos v l.length _ ob hs hS _ hx 1 _ hrd h1 hl hby ?_
  intro v' w' ob' k1 k2 k3 _
  refine hK v' w' ⟨ob', ?_, ?_⟩ (k2.mono fun q hq => h2 q hq) k2.size
  · refine ⟨rows ++ [r], by simp [hlen], fun k x1 r1 hx1 hr1 => ?_, ?_⟩
    · by_cases hk : k < l.length
      · rw [List.getElem?_append_left hk] at hx1
        rw [List.getElem?_append_left (by omega)] at hr1
        exact hrow k x1 r1 hx1 hr1
      · have hk2 : k = l.length := by
          have := (List.getElem?_eq_some_iff.1 hx1).1
          simp at this
          omega
        subst hk2
        rw [List.getElem?_append_right (by omega)] at hx1
        rw [← hlen, List.getElem?_append_right (by omega)] at hr1
        simp at hx1 hr1
        subst hx1; subst hr1
        exact ⟨hr, hrl⟩
    · rw [List.length_append, List.flatten_append]
      simpa using k1
  · intro q hq
    rcases k3 with k3 | ⟨g, k3, hg⟩
    · exact h2 q (k3 ▸ hq)
    · rw [k3] at hq; cases hq; omega
theorem step_append_L {P : Program} {α : Type} {R : α → List Value → Prop} {S : Nat → Prop} {w : World} {ops : Array Oper} {o : Oper} {a : Act} {K : Act → World → Prop} {Q : Exit → Act → World → Prop} {E : Prop} (hgd : o.guard = none) (s x : Operand) (t : TypeId)
    (ho : o.op = .call { callee := .builtin .append, args := #[s, x], argTypes := #[t, t] }) {e : TypeId} {sz bytes : Nat} (T : RowT P e sz bytes) (ht : P.underlying t = some (.slice e)) (n : Nat) (nb : Nat) (hs : a.eval s = .slice (some ⟨nb, 0, none⟩) 0 0)
    (xv : Value) (hx : a.eval x = xv) (l : List α) (hl : SlR S w sz R xv l) (hR : ∀ x r, R x r → r.length = sz ∧ ∀ u ∈ r, u.oneCell' = true) (hn : n ≤ w.heap.size) (hlm : l.length ≤ maxLen) (hby : l.length * bytes ≤ 140737488355328)
    (hK : ∀ v' w', OwnN e sz R n w' v' l → Grow w w' → K (a.put o.dst v') w') : if Region.wanted o (yielded ops a.tmps) = true then Oper.wp P o a w K Q else E := by
  obtain ⟨rows, h1, h2, h3⟩ := SlR.rdN hl T.pos (fun x r h => (hR x r h).1)
  obtain ⟨⟨iP, z, hiP, hzP0, hzP1, hzP2, hzz⟩, hpos⟩ := T
  have hone : ∀ u ∈ rows.flatten, u.oneCell' = true := by
    intro u hu
    obtain ⟨r, hr, hur⟩ := List.mem_flatten.1 hu
    obtain ⟨k, hk, e⟩ := List.getElem_of_mem hr
    exact (hR _ r (h2 k (l[k]'(by omega)) r (List.getElem?_eq_getElem (by omega)) (by rw [List.getElem?_eq_getElem hk, e])).1).2 u hur
  refine step_append_S hgd s x t ho e iP z sz bytes ht hiP hzP0 hzP1 hzP2 hzz hpos _ 0 [] none hs ⟨by simp, .inl ⟨_, rfl, rfl, rfl, by simp⟩⟩ _ hx l.length _ h3 hone (by omega) (by rw [Nat.zero_add]; exact hby) ?_
  intro v' w' ob' k1 k2 k3 _
  have hg : Grow w w' := (k2.mono (F' := fun _ => False) (fun q hq => by cases hq)).grow
  refine hK v' w' ⟨ob', ⟨rows, h1, h2, ?_⟩, ?_⟩ hg
  · simpa using k1
  · intro q hq
    rcases k3 with k3 | ⟨g, k3, hg⟩
    · rw [k3] at hq; cases hq
    · rw [k3] at hq; cases hq; omega
end Go.Hg
