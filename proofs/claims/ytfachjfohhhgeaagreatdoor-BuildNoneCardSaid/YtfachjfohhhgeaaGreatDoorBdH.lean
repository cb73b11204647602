/- The closures of rule.Keeps but unique and most: of, exists, ends; slices.ContainsFunc at nodes and edges, with any captured variables; Maps with any keys that can be told apart: a function's view; look, update, entry and its store, delete, clear; A map of int64 to int, as the kit's laws of ranges and of maps.DeleteFunc want it, and back; What breaks a rule: the plain words; without it the rule is kept; The closure of rule.Keeps for most: counts in a map, and a range over it; Maps with any keys at a drawn region: look, entry, store; Keys that are structs of three plain cells: told apart by their cells. Conditions: those that each theorem names. -/
import Derived.WalkKit
import Derived.WalkSpells
import Derived.WalkLawsBesides
import Derived.Lib.Hide
import Derived.BigQuiet
import Derived.Deep.LoopGhost
import Derived.Test.YtfachjfohhhgeaaGreatDoorRows
import Derived.Lib.SliceRun
import Derived.WideMake
import Derived.Deep.RegionLaw
import Derived.Lib.Overlaps
import Derived.Deep.RegionHeld3
import Derived.Laws.ResultCell
import Derived.Maps.OwnOps
import Derived.Maps.OwnSet
import Derived.Carry
import Derived.Lib.SlKeysI
import Derived.Laws.EntriesVeiled
import Derived.Maps.RangeWalk
import Derived.Lib.SlMapFilter
import Derived.Test.YtfachjfohhhgeaaGreatDoorBdG
namespace Go.Hg
open Go.RowKit Go.Proofs

def RuleBox (w : World) (b : Nat) (r : PRule) : Prop := w.heap[b]? = some (.cells #[.int .i64 r.id, .int .i64 r.kind, .string r.typ, .string r.name, .string r.from_, .string r.to_, .int .i64 r.n, .int .i64 r.state] 23 (0, 0))
theorem RuleBox.grow {w w' : World} {b : Nat} {r : PRule} (h : RuleBox w b r) (g : Grow w w') : RuleBox w' b r := (g.heapEq (blk_lt h)).trans h
theorem RuleBox.cells {w : World} {b : Nat} {r : PRule} (h : RuleBox w b r) : b < w.heap.size ∧ w.cell? ⟨b, 1, none⟩ = some (.int .i64 r.kind) ∧ w.cell? ⟨b, 2, none⟩ = some (.string r.typ) ∧ w.cell? ⟨b, 3, none⟩ = some (.string r.name) ∧
    w.cell? ⟨b, 4, none⟩ = some (.string r.from_) ∧ w.cell? ⟨b, 5, none⟩ = some (.string r.to_) ∧ w.cell? ⟨b, 6, none⟩ = some (.int .i64 r.n) ∧ w.cell? ⟨b, 7, none⟩ = some (.int .i64 r.state) ∧ w.cell? ⟨b, 0, none⟩ = some (.int .i64 r.id) := by
  unfold RuleBox at h
  exact ⟨blk_lt h, by rw [blk_cell h]; rfl, by rw [blk_cell h]; rfl, by rw [blk_cell h]; rfl, by rw [blk_cell h]; rfl, by rw [blk_cell h]; rfl, by rw [blk_cell h]; rfl, by rw [blk_cell h]; rfl, by rw [blk_cell h]; rfl⟩
def OneBox (w : World) (b : Nat) (v : Value) : Prop := ∃ T, w.heap[b]? = some (.cells #[v] T (0, 0))
theorem OneBox.grow {w w' : World} {b : Nat} {v : Value} (h : OneBox w b v) (g : Grow w w') : OneBox w' b v := by
  obtain ⟨T, h⟩ := h
  exact ⟨T, (g.heapEq (blk_lt h)).trans h⟩
theorem OneBox.cell {w : World} {b : Nat} {v : Value} (h : OneBox w b v) : b < w.heap.size ∧ w.cell? ⟨b, 0, none⟩ = some v := by
  obtain ⟨T, h⟩ := h
  exact ⟨blk_lt h, by rw [blk_cell h]; rfl⟩
abbrev ofV (rb : Nat) : Value := .func (.func 66) #[] #[.pointer (some ⟨rb, 0, none⟩)]

theorem entersOf : ∀ args w, (callFunc 66 args).run Tryz.prog w = .ok (.enter 66 args) w := fun args w => enterF Tryz.func66 (by kernel_rfl) rfl args w
theorem entersNo : ∀ args w, (callFunc 71 args).run Tryz.prog w = .ok (.enter 71 args) w := fun args w => enterF Tryz.func71 (by kernel_rfl) rfl args w
theorem entersEnd : ∀ args w, (callFunc 75 args).run Tryz.prog w = .ok (.enter 75 args) w := fun args w => enterF Tryz.func75 (by kernel_rfl) rfl args w

set_option maxHeartbeats 400000 in
theorem keepsOf {t : ByteArray} {rb : Nat} {r : PRule} {w : World} (h : RuleBox w rb r) {b : Bool} (hb : decide (t = r.typ) = b) :
    Calls Tryz.prog 66 #[.string t, .pointer (some ⟨rb, 0, none⟩)] w fun e w' => e = .returned (.bool b) ∧ w' = w := by
  obtain ⟨hl, c1, c2, c3, c4, c5, c6, c7, c0⟩ := h.cells
  clear h
  go_enter Tryz.func66, Tryz.ntmps66
  go_wp2
  go_ret
  exact ⟨rfl, rfl⟩

theorem app1 (a : Value) (l : List Value) : #[a] ++ l.toArray = (a :: l).toArray := by simp
def AsksN (f : Nat) (caps : Array Value) (p : PNode → Bool) (S : Nat → Prop) (w : World) : Prop :=
  (∀ args w, (callFunc f args).run Tryz.prog w = .ok (.enter f args) w) ∧ ∀ (x : PNode) (pv : Value) (w' : World), Grow w w' → PropsR S w' pv x.props → Calls Tryz.prog f (#[.agg #[.int .i64 x.id, .string x.typ, pv]] ++ caps) w' fun e w2 => e = .returned (.bool (p x)) ∧ Grow w' w2
theorem AsksN.grow {f : Nat} {c : Array Value} {p : PNode → Bool} {S : Nat → Prop} {w w' : World} (h : AsksN f c p S w) (g : Grow w w') : AsksN f c p S w' := ⟨h.1, fun x pv w2 g2 hp => h.2 x pv w2 (g.step g2) hp⟩
def AsksF (f : Nat) (caps : Array Value) (p : PEdge → Bool) (S : Nat → Prop) (w : World) : Prop :=
  (∀ args w, (callFunc f args).run Tryz.prog w = .ok (.enter f args) w) ∧ ∀ (x : PEdge) (pv : Value) (w' : World), Grow w w' → PropsR S w' pv x.props → Calls Tryz.prog f (#[x.args pv] ++ caps) w' fun e w2 => e = .returned (.bool (p x)) ∧ Grow w' w2
theorem AsksF.grow {f : Nat} {c : Array Value} {p : PEdge → Bool} {S : Nat → Prop} {w w' : World} (h : AsksF f c p S w) (g : Grow w w') : AsksF f c p S w' := ⟨h.1, fun x pv w2 g2 hp => h.2 x pv w2 (g.step g2) hp⟩
def IdxA {α : Type} (l : List α) (p : α → Bool) (r : Int) : Prop :=
  (r = -1 ∧ ∀ x ∈ l, p x = false) ∨ ∃ (k : Nat) (x : α), r = k ∧ l[k]? = some x ∧ p x = true ∧ ∀ y ∈ l.take k, p y = false

set_option maxRecDepth 100000 in
set_option maxHeartbeats 1000000 in
theorem indexNodeA (S : Nat → Prop) (v : Value) (l : List PNode) (f : Nat) (caps : Array Value) (p : PNode → Bool) (w : World) (hl : NodesR S w v l) (hp : AsksN f caps p S w) :
    Calls Tryz.prog 102 #[v, .func (.func f) #[] caps] w fun e w' => ∃ r : Int, e = .returned (.int .i64 r) ∧ IdxA l p r ∧ Grow w w' := by
  obtain ⟨aa, ca, rfl, hal, hac, hA⟩ := SlR.open hl
  clear hl
  unfold maxLen at hac
  have HA := Lib.hid hA; clear hA
  have HP := Lib.hid hp.2; have hcf := hp.1; clear hp
  go_enter Tryz.func102, Tryz.ntmps102
  go_wp2
  go_loopg [8] l.length (fun g i wr => ∃ k : Nat, k ≤ l.length ∧ g = l.length - k ∧ i = .int .i64 k ∧ (∀ y ∈ l.take k, p y = false) ∧ Grow w wr)
  case atStart => exact ⟨0, by omega, by omega, rfl, by simp, Grow.rfl' w⟩
  case round =>
    obtain ⟨k, hk, rfl, rfl, hall, hgr⟩ := hrel
    have HALL := Lib.hid hall; clear hall
    by_cases hkl : k < l.length
    · obtain ⟨ba, oa, ra, rfl, hSa, hba, hRa, hca⟩ := HA.out k l[k] (List.getElem?_eq_getElem hkl)
      obtain ⟨pva, hba', a0, a1, a2, hpa⟩ := hRa.at hba hgr hca
      clear hca hRa hSa hba
      have HE := Lib.hid (show l[k]? = some l[k] from List.getElem?_eq_getElem hkl)
      have HT := Lib.hid (show l.take (k + 1) = l.take k ++ [l[k]] from List.take_succ_eq_append_getElem hkl)
      generalize l[k] = x at *
      have HPA := Lib.hid hpa
      obtain ⟨_, _, rfl⟩ := hpa.isSlice
      clear hpa
      cases hn : p x
      all_goals
        go_wp2_with fail
        refine (HP.out x _ _ hgr HPA.out).mono ?_
        rintro e w2 ⟨rfl, hw2⟩
        rw [hn]
        go_wp2
      · go_roundg (l.length - (k + 1))
        case measure => omega
        case rel => exact ⟨k + 1, by omega, rfl, by go_num, by rw [HT.out]; intro y hy; rcases List.mem_append.1 hy with h | h; exact HALL.out y h; simp at h; subst h; exact hn, hgr.step hw2⟩
      · go_ret
        exact ⟨_, rfl, .inr ⟨k, x, rfl, HE.out, hn, HALL.out⟩, hgr.step hw2⟩
    · have HX := Lib.hid (show l.take k = l from List.take_of_length_le (by omega))
      go_wp2
      go_ret
      exact ⟨_, rfl, .inl ⟨rfl, by rw [← HX.out]; exact HALL.out⟩, hgr⟩

set_option maxHeartbeats 400000 in
theorem containsNodeA (S : Nat → Prop) (v : Value) (l : List PNode) (f : Nat) (caps : Array Value) (p : PNode → Bool) (w : World) (hl : NodesR S w v l) (hp : AsksN f caps p S w) :
    Calls Tryz.prog 70 #[v, .func (.func f) #[] caps] w fun e w' => e = .returned (.bool (l.any p)) ∧ Grow w w' := by
  have HL := Lib.hid hl; have HP := Lib.hid hp
  obtain ⟨_, _, rfl, _⟩ := SlR.open hl
  clear hl hp
  go_enter Tryz.func70, Tryz.ntmps70
  go_wp2_with fail
  refine (indexNodeA S _ l f caps p _ HL.out HP.out).mono ?_
  rintro e w2 ⟨r, rfl, hr, hw2⟩
  rcases hr with ⟨rfl, hall⟩ | ⟨k, x, rfl, hx, hpx, hk⟩
  · have HA := Lib.hid (show l.any p = false from List.any_eq_false.2 (fun x hx => by rw [hall x hx]; simp))
    clear hall
    go_wp2
    go_ret
    exact ⟨by rw [HA.out]; rfl, hw2⟩
  · have HA := Lib.hid (show l.any p = true from List.any_eq_true.2 ⟨x, List.mem_of_getElem? hx, hpx⟩)
    clear hx hpx hk
    go_wp2
    go_ret
    exact ⟨by rw [HA.out]; simp, hw2⟩

set_option maxRecDepth 100000 in
set_option maxHeartbeats 1000000 in
theorem indexEdgeA (S : Nat → Prop) (v : Value) (l : List PEdge) (f : Nat) (caps : Array Value) (p : PEdge → Bool) (w : World) (hl : EdgesR S w v l) (hp : AsksF f caps p S w) :
    Calls Tryz.prog 103 #[v, .func (.func f) #[] caps] w fun e w' => ∃ r : Int, e = .returned (.int .i64 r) ∧ IdxA l p r ∧ Grow w w' := by
  obtain ⟨aa, ca, rfl, hal, hac, hA⟩ := SlR.open hl
  clear hl
  unfold maxLen at hac
  have HA := Lib.hid hA; clear hA
  have HP := Lib.hid hp.2; have hcf := hp.1; clear hp
  go_enter Tryz.func103, Tryz.ntmps103
  go_wp2
  go_loopg [8] l.length (fun g i wr => ∃ k : Nat, k ≤ l.length ∧ g = l.length - k ∧ i = .int .i64 k ∧ (∀ y ∈ l.take k, p y = false) ∧ Grow w wr)
  case atStart => exact ⟨0, by omega, by omega, rfl, by simp, Grow.rfl' w⟩
  case round =>
    obtain ⟨k, hk, rfl, rfl, hall, hgr⟩ := hrel
    have HALL := Lib.hid hall; clear hall
    by_cases hkl : k < l.length
    · obtain ⟨ba, oa, ra, rfl, hSa, hba, hRa, hca⟩ := HA.out k l[k] (List.getElem?_eq_getElem hkl)
      obtain ⟨pva, hba', a0, a1, a2, a3, a4, hpa⟩ := hRa.at hba hgr hca
      clear hca hRa hSa hba
      have HE := Lib.hid (show l[k]? = some l[k] from List.getElem?_eq_getElem hkl)
      have HT := Lib.hid (show l.take (k + 1) = l.take k ++ [l[k]] from List.take_succ_eq_append_getElem hkl)
      generalize l[k] = x at *
      have HPA := Lib.hid hpa
      obtain ⟨_, _, rfl⟩ := hpa.isSlice
      clear hpa
      cases hn : p x
      all_goals
        go_wp2_with fail
        refine (HP.out x _ _ hgr HPA.out).mono ?_
        rintro e w2 ⟨rfl, hw2⟩
        rw [hn]
        go_wp2
      · go_roundg (l.length - (k + 1))
        case measure => omega
        case rel => exact ⟨k + 1, by omega, rfl, by go_num, by rw [HT.out]; intro y hy; rcases List.mem_append.1 hy with h | h; exact HALL.out y h; simp at h; subst h; exact hn, hgr.step hw2⟩
      · go_ret
        exact ⟨_, rfl, .inr ⟨k, x, rfl, HE.out, hn, HALL.out⟩, hgr.step hw2⟩
    · have HX := Lib.hid (show l.take k = l from List.take_of_length_le (by omega))
      go_wp2
      go_ret
      exact ⟨_, rfl, .inl ⟨rfl, by rw [← HX.out]; exact HALL.out⟩, hgr⟩

set_option maxHeartbeats 400000 in
theorem containsEdgeA (S : Nat → Prop) (v : Value) (l : List PEdge) (f : Nat) (caps : Array Value) (p : PEdge → Bool) (w : World) (hl : EdgesR S w v l) (hp : AsksF f caps p S w) :
    Calls Tryz.prog 74 #[v, .func (.func f) #[] caps] w fun e w' => e = .returned (.bool (l.any p)) ∧ Grow w w' := by
  have HL := Lib.hid hl; have HP := Lib.hid hp
  obtain ⟨_, _, rfl, _⟩ := SlR.open hl
  clear hl hp
  go_enter Tryz.func74, Tryz.ntmps74
  go_wp2_with fail
  refine (indexEdgeA S _ l f caps p _ HL.out HP.out).mono ?_
  rintro e w2 ⟨r, rfl, hr, hw2⟩
  rcases hr with ⟨rfl, hall⟩ | ⟨k, x, rfl, hx, hpx, hk⟩
  · have HA := Lib.hid (show l.any p = false from List.any_eq_false.2 (fun x hx => by rw [hall x hx]; simp))
    clear hall
    go_wp2
    go_ret
    exact ⟨by rw [HA.out]; rfl, hw2⟩
  · have HA := Lib.hid (show l.any p = true from List.any_eq_true.2 ⟨x, List.mem_of_getElem? hx, hpx⟩)
    clear hx hpx hk
    go_wp2
    go_ret
    exact ⟨by rw [HA.out]; simp, hw2⟩

set_option maxRecDepth 100000 in
set_option maxHeartbeats 1000000 in
/-- the node lacks the property -/
theorem keepsNo (x : PNode) (pv : Value) (rb fb : Nat) (r : PRule) (w : World) (S : Nat → Prop) (hp : PropsR S w pv x.props) (hr : RuleBox w rb r) (hf : OneBox w fb (ofV rb)) :
    Calls Tryz.prog 71 #[.agg #[.int .i64 x.id, .string x.typ, pv], .pointer (some ⟨rb, 0, none⟩), .pointer (some ⟨fb, 0, none⟩)] w fun e w' => e = .returned (.bool (lacksR r x)) ∧ Grow w w' := by
  have HP := Lib.hid hp; have HR := Lib.hid hr; have HF := Lib.hid hf
  obtain ⟨_, _, rfl⟩ := hp.isSlice
  have HG := Lib.hid (show ∀ o1, Grow w (w.alloc o1) from fun o1 => (Grow.rfl' w).allocd o1)
  have HNB := Lib.hid (show ∀ o1 w', Grow (w.alloc o1) w' → w'.heap[w.heap.size]? = some o1 from fun o1 w' hg => by rw [hg.heapEq (by simp)]; exact heap_alloc_new w _)
  obtain ⟨hrl, c1, c2, c3, c4, c5, c6, c7, c0⟩ := hr.cells
  obtain ⟨hfl, d0⟩ := hf.cell
  have entersOf := entersOf
  obtain ⟨bt, hbt⟩ : ∃ b, decide (x.typ = r.typ) = b := ⟨_, rfl⟩
  have HBT := Lib.hid hbt
  obtain ⟨bo, hbo⟩ : ∃ b, (getP x.props r.name).isSome = b := ⟨_, rfl⟩
  have HBO := Lib.hid hbo
  have HX := Lib.hid (show lacksR r x = (bt && !bo) by unfold lacksR; rw [hbt, ← hbo]; cases getP x.props r.name <;> rfl)
  clear hp hr hf c1 c2 c4 c5 c6 c7 c0 hbt hbo
  go_enter Tryz.func71, Tryz.ntmps71
  go_wp2_with fail
  refine (valGet S _ x.props r.name _ (HP.out.grow (HG.out _))).mono ?_
  rintro e w2 ⟨rfl, hw2⟩
  have HG2 := Lib.hid ((HG.out _).step hw2)
  have HG3 := Lib.hid (show ∀ o1, Grow w (w2.alloc o1) from fun o1 => HG2.out.allocd o1)
  have hnb := HNB.out _ w2 hw2
  have hnl := blk_lt hnb
  have n1 : w2.cell? ⟨w.heap.size, 1, none⟩ = some (.string x.typ) := by rw [blk_cell hnb]; rfl
  obtain ⟨hfl2, d2⟩ := (HF.out.grow HG2.out).cell
  clear hnb hw2
  rw [HBO.out]
  cases bo <;> cases bt
  all_goals
    go_wp2_with fail
    refine (keepsOf (HR.out.grow (HG3.out _)) HBT.out).mono ?_
    rintro e w3 ⟨rfl, rfl⟩
    go_wp2
    go_ret
    exact ⟨by rw [HX.out]; rfl, HG3.out _⟩

set_option maxRecDepth 100000 in
set_option maxHeartbeats 1000000 in
/-- rule 'exists' -/
theorem keepsExists (nodes : List PNode) (nv : Value) (nb rb fb : Nat) (r : PRule) (w : World) (S : Nat → Prop) (hn : NodesR S w nv nodes) (hnb : OneBox w nb nv) (hr : RuleBox w rb r) (hf : OneBox w fb (ofV rb)) :
    Calls Tryz.prog 69 #[.pointer (some ⟨nb, 0, none⟩), .pointer (some ⟨rb, 0, none⟩), .pointer (some ⟨fb, 0, none⟩)] w fun e w' => e = .returned (.bool (!nodes.any (lacksR r))) ∧ Grow w w' := by
  have HN := Lib.hid hn; have HR := Lib.hid hr; have HF := Lib.hid hf
  obtain ⟨hnl, d0⟩ := hnb.cell
  obtain ⟨_, _, rfl, _⟩ := SlR.open hn
  clear hn hr hf hnb
  go_enter Tryz.func69, Tryz.ntmps69
  go_wp2_with fail
  refine (containsNodeA S _ nodes 71 #[.pointer (some ⟨rb, 0, none⟩), .pointer (some ⟨fb, 0, none⟩)] (lacksR r) _ HN.out ⟨entersNo, fun x pv w' hg hp => by rw [app1]; exact keepsNo x pv rb fb r w' S hp (HR.out.grow hg) (HF.out.grow hg)⟩).mono ?_
  rintro e w2 ⟨rfl, hw2⟩
  obtain ⟨b, hb⟩ : ∃ b, nodes.any (lacksR r) = b := ⟨_, rfl⟩
  have HX := Lib.hid hb
  rw [hb]
  clear hb
  go_wp2
  go_ret
  exact ⟨by rw [HX.out]; rfl, hw2⟩

set_option maxRecDepth 100000 in
set_option maxHeartbeats 1000000 in
/-- the edge's ends are wrong -/
theorem keepsEnd (x : PEdge) (pv : Value) (nodes : List PNode) (nv : Value) (nb rb fb : Nat) (r : PRule) (w : World) (S : Nat → Prop) (hp : PropsR S w pv x.props) (hn : NodesR S w nv nodes) (hnb : OneBox w nb nv) (hr : RuleBox w rb r) (hf : OneBox w fb (ofV rb)) :
    Calls Tryz.prog 75 #[x.args pv, .pointer (some ⟨nb, 0, none⟩), .pointer (some ⟨fb, 0, none⟩), .pointer (some ⟨rb, 0, none⟩)] w fun e w' => e = .returned (.bool (wrongR nodes r x)) ∧ Grow w w' := by
  have HN := Lib.hid hn; have HR := Lib.hid hr; have HF := Lib.hid hf; have HNV := Lib.hid hnb
  obtain ⟨_, _, rfl⟩ := hp.isSlice
  obtain ⟨_, _, rfl, _⟩ := SlR.open hn
  have HG := Lib.hid (show ∀ o1, Grow w (w.alloc o1) from fun o1 => (Grow.rfl' w).allocd o1)
  have HNB := Lib.hid (show ∀ o1 w', Grow (w.alloc o1) w' → w'.heap[w.heap.size]? = some o1 from fun o1 w' hg => by rw [hg.heapEq (by simp)]; exact heap_alloc_new w _)
  obtain ⟨hnl, d0⟩ := hnb.cell
  have entersOf := entersOf
  clear hp hn hr hf hnb
  go_enter Tryz.func75, Tryz.ntmps75
  go_wp2_with fail
  refine (ruleTypeOf S _ nodes x.from_ _ (HN.out.grow (HG.out _))).mono ?_
  rintro e w2 ⟨rfl, hw2⟩
  have HG2 := Lib.hid ((HG.out _).step hw2)
  have HX2 := Lib.hid (HNB.out _ w2 hw2)
  have hnb2 := HX2.out
  have hnl2 := blk_lt hnb2
  have m3 : w2.cell? ⟨w.heap.size, 3, none⟩ = some (.int .i64 x.to_) := by rw [blk_cell hnb2]; rfl
  obtain ⟨hnl3, d2⟩ := (HNV.out.grow HG2.out).cell
  clear hnb2 hw2 d0 hnl
  obtain ⟨ta, hta⟩ : ∃ t, typeN nodes x.from_ = t := ⟨_, rfl⟩
  have HTA := Lib.hid hta
  rw [hta]
  clear hta
  go_wp2_with fail
  refine (ruleTypeOf S _ nodes x.to_ _ (HN.out.grow HG2.out)).mono ?_
  rintro e w3 ⟨rfl, hw3⟩
  have HG3 := Lib.hid (HG2.out.step hw3)
  have hnb3 := (hw3.heapEq hnl2).trans HX2.out
  have hnl4 := blk_lt hnb3
  have m1 : w3.cell? ⟨w.heap.size, 1, none⟩ = some (.string x.typ) := by rw [blk_cell hnb3]; rfl
  obtain ⟨hfl3, f3⟩ := (HF.out.grow HG3.out).cell
  obtain ⟨hrl, c1, c2, c3, c4, c5, c6, c7, c0⟩ := (HR.out.grow HG3.out).cells
  obtain ⟨tb, htb⟩ : ∃ t, typeN nodes x.to_ = t := ⟨_, rfl⟩
  have HTB := Lib.hid htb
  rw [htb]
  clear htb hnb3 hw3 c1 c2 c3 c6 c7 c0
  obtain ⟨bt, hbt⟩ : ∃ b, decide (x.typ = r.typ) = b := ⟨_, rfl⟩
  have HBT := Lib.hid hbt
  clear hbt
  go_wp2_with fail
  refine (keepsOf (HR.out.grow HG3.out) HBT.out).mono ?_
  rintro e w4 ⟨rfl, rfl⟩
  have HX := Lib.hid (show wrongR nodes r x = (bt && !(decide (ta = some r.from_) && decide (tb = some r.to_))) by unfold wrongR isT; rw [HBT.out, HTA.out, HTB.out])
  cases bt
  · go_wp2
    go_ret
    exact ⟨by rw [HX.out]; rfl, HG3.out⟩
  · cases ta with
    | none =>
      have HX2 := Lib.hid (show wrongR nodes r x = true by rw [HX.out]; simp)
      cases tb
      all_goals
        simp only [Option.isSome, Option.getD] at *
        go_wp2
        go_ret
        exact ⟨by rw [HX2.out]; rfl, HG3.out⟩
    | some ta =>
      simp only [Option.isSome, Option.getD] at *
      cases tb with
      | none =>
        simp only
        go_wp2
        go_ret
        exact ⟨by rw [HX.out]; simp, HG3.out⟩
      | some tb =>
        simp only at *
        by_cases ha : ta = r.from_
        · by_cases hb : tb = r.to_
          · have HX2 := Lib.hid (show wrongR nodes r x = false by rw [HX.out, ha, hb]; simp)
            go_wp2
            go_ret
            exact ⟨by rw [HX2.out]; simp [hb], HG3.out⟩
          · have HX2 := Lib.hid (show wrongR nodes r x = true by rw [HX.out]; simp [hb])
            go_wp2
            go_ret
            exact ⟨by rw [HX2.out]; simp, HG3.out⟩
        · have HX2 := Lib.hid (show wrongR nodes r x = true by rw [HX.out]; simp [ha])
          go_wp2
          go_ret
          exact ⟨by rw [HX2.out]; rfl, HG3.out⟩

set_option maxRecDepth 100000 in
set_option maxHeartbeats 1000000 in
/-- rule 'ends' -/
theorem keepsEnds (nodes : List PNode) (edges : List PEdge) (nv ev : Value) (eb nb rb fb : Nat) (r : PRule) (w : World) (S : Nat → Prop) (hn : NodesR S w nv nodes) (he : EdgesR S w ev edges) (hnb : OneBox w nb nv) (heb : OneBox w eb ev) (hr : RuleBox w rb r) (hf : OneBox w fb (ofV rb)) :
    Calls Tryz.prog 73 #[.pointer (some ⟨eb, 0, none⟩), .pointer (some ⟨nb, 0, none⟩), .pointer (some ⟨fb, 0, none⟩), .pointer (some ⟨rb, 0, none⟩)] w fun e w' => e = .returned (.bool (!edges.any (wrongR nodes r))) ∧ Grow w w' := by
  have HN := Lib.hid hn; have HE := Lib.hid he; have HR := Lib.hid hr; have HF := Lib.hid hf; have HNB := Lib.hid hnb
  obtain ⟨hnl, d0⟩ := heb.cell
  obtain ⟨_, _, rfl, _⟩ := SlR.open he
  clear hn he hr hf hnb heb
  go_enter Tryz.func73, Tryz.ntmps73
  go_wp2_with fail
  refine (containsEdgeA S _ edges 75 #[.pointer (some ⟨nb, 0, none⟩), .pointer (some ⟨fb, 0, none⟩), .pointer (some ⟨rb, 0, none⟩)] (wrongR nodes r) _ HE.out ⟨entersEnd, fun x pv w' hg hp => by rw [app1]; exact keepsEnd x pv nodes nv nb rb fb r w' S hp (HN.out.grow hg) (HNB.out.grow hg) (HR.out.grow hg) (HF.out.grow hg)⟩).mono ?_
  rintro e w2 ⟨rfl, hw2⟩
  obtain ⟨b, hb⟩ : ∃ b, edges.any (wrongR nodes r) = b := ⟨_, rfl⟩
  have HX := Lib.hid hb
  rw [hb]
  clear hb
  go_wp2
  go_ret
  exact ⟨by rw [HX.out]; rfl, hw2⟩
end Go.Hg

namespace Go.Hg
open MapKept

structure KeyK (P : Program) (kt : TypeId) {κ : Type} (kv : κ → Value) : Prop where
  inj : ∀ {a b : κ}, kv a = kv b → a = b
  check : ∀ (w : World) (e : Bool) (k : κ), (Instr.checkKey e 10000 kt (kv k)).run P w = .ok () w
  find : ∀ (w : World) (k : κ) (es : List MapEntry), (∀ x ∈ es, ∃ q, x.key = kv q) → ((Instr.findKey kt (kv k) es).run P w = .ok none w ∧ ∀ x ∈ es, x.key ≠ kv k) ∨
    ∃ j e, (Instr.findKey kt (kv k) es).run P w = .ok (some (j, e.val)) w ∧ es[j]? = some e ∧ e.key = kv k
  stays : ∀ (w : World) (k : κ), (Instr.keyThatStays (kv k) (kv k)).run P w = .ok (kv k) w
theorem keyK_int {P : Program} {kt : TypeId} (hk : P.underlying kt = some (.int .i64)) : KeyK P kt (fun k : Int => .int .i64 k) where
  inj h := by simpa using h
  check w e k := MapKept.run_checkKey (k := .int .i64 k) hk (by simp [IsKey]) e 9999
  find w k es hes := by
    rcases mapI_find (es := es.toArray) (by simpa using hes) k with ⟨h1, h2⟩ | ⟨j, e, h1, h2, h3⟩
    · exact .inl ⟨MapKept.run_findKey hk (by simpa using h1), by simpa using h2⟩
    · exact .inr ⟨j, e, MapKept.run_findKey hk (by simpa using h1), by simpa using h2, h3⟩
  stays w k := run_keyThatStays (d := .int .i64) (by simp [IsKey])
section
variable {κ : Type} {kv : κ → Value}

def MapK (kv : κ → Value) (w : World) (b : Nat) (f : κ → Option Value) (n : Nat) : Prop :=
  ∃ es clock, w.heap[b]? = some (.map es clock) ∧ Stamped es clock ∧ es.size ≤ n ∧ (∀ x ∈ es.toList, ∃ k, x.key = kv k) ∧ ∀ k v, f k = some v ↔ ∃ x ∈ es.toList, x.key = kv k ∧ x.val = v
theorem MapK.toI {w : World} {b n : Nat} {f : Int → Option Value} (h : MapK (fun k : Int => .int .i64 k) w b f n) : MapI w b f n := h
def kput [DecidableEq κ] (f : κ → Option Value) (k : κ) (v : Value) : κ → Option Value := fun x => if x = k then some v else f x
theorem kput_same [DecidableEq κ] (f : κ → Option Value) (k : κ) (v : Value) : kput f k v k = some v := by simp [kput]
theorem kput_other [DecidableEq κ] (f : κ → Option Value) {k x : κ} (v : Value) (h : x ≠ k) : kput f k v x = f x := by simp [kput, h]
theorem kput_twice [DecidableEq κ] (f : κ → Option Value) (k : κ) (v u : Value) : kput (kput f k v) k u = kput f k u := by
  funext x
  by_cases h : x = k <;> simp [kput, h]
theorem MapK.lt {w : World} {b n : Nat} {f : κ → Option Value} (h : MapK kv w b f n) : b < w.heap.size := by
  obtain ⟨es, c, hb, -⟩ := h
  exact (Array.getElem?_eq_some_iff.1 hb).1
theorem MapK.mono {w : World} {b n n' : Nat} {f : κ → Option Value} (h : MapK kv w b f n) (hn : n ≤ n') : MapK kv w b f n' := by
  obtain ⟨es, c, hb, hs, hz, r⟩ := h
  exact ⟨es, c, hb, hs, Nat.le_trans hz hn, r⟩
theorem MapK.keep {w w' : World} {b n : Nat} {f : κ → Option Value} (h : MapK kv w b f n) (hw : w'.heap[b]? = w.heap[b]?) : MapK kv w' b f n := by
  obtain ⟨es, c, hb, r⟩ := h
  exact ⟨es, c, hw.trans hb, r⟩
theorem MapK.mod {w w' : World} {b n : Nat} {f : κ → Option Value} {F : Nat → Prop} (h : MapK kv w b f n) (hm : Mod F w w') (hF : ¬ F b) : MapK kv w' b f n := h.keep (hm.block b h.lt hF)
theorem MapK.grow {w w' : World} {b n : Nat} {f : κ → Option Value} (h : MapK kv w b f n) (hg : Grow w w') : MapK kv w' b f n := h.keep (hg.heapEq h.lt)
theorem MapK.made (w : World) : MapK kv (w.alloc (.map #[] 0)) w.heap.size (fun _ => none) 0 :=
  ⟨#[], 0, (MapKept.heap_alloc w _).1, stamped_empty 0, by simp, by simp, by simp⟩
def BornAt (kv : κ → Value) (w : World) (b : Nat) (s : Nat) (k : κ) : Prop := ∃ es clock, w.heap[b]? = some (.map es clock) ∧ ∃ x ∈ es.toList, x.born = s ∧ x.key = kv k

section
variable {P : Program} {w : World} {b n : Nat} {f : κ → Option Value} {t kt et : TypeId}
theorem MapK.pushed [DecidableEq κ] {es : Array MapEntry} {c : Nat} (hb : w.heap[b]? = some (.map es c)) (hs : Stamped es c) (hn : es.size ≤ n) (hi : ∀ x ∈ es.toList, ∃ k, x.key = kv k) (hf : ∀ k v, f k = some v ↔ ∃ x ∈ es.toList, x.key = kv k ∧ x.val = v)
    (inj : ∀ {a b : κ}, kv a = kv b → a = b) (k : κ) (v : Value) (h2 : ∀ x ∈ es.toList, x.key ≠ kv k) :
    MapK kv { w with heap := w.heap.setIfInBounds b (.map (es.push { key := kv k, val := v, born := c }) (c + 1)) } b (kput f k v) (n + 1) := by
  refine ⟨_, _, (heap_set hb).1, stamped_push hs h2, by simp; omega, ?_, ?_⟩
  · intro x hx
    simp only [Array.toList_push, List.mem_append, List.mem_singleton] at hx
    rcases hx with hx | rfl
    · exact hi x hx
    · exact ⟨k, rfl⟩
  · intro k' v'
    simp only [Array.toList_push, List.mem_append, List.mem_singleton]
    by_cases hkk' : k' = k
    · subst hkk'
      rw [kput_same]
      constructor
      · intro hv
        exact ⟨_, .inr rfl, rfl, Option.some.inj hv⟩
      · rintro ⟨x, hx | rfl, h3, h4⟩
        · exact absurd h3 (h2 x hx)
        · exact congrArg some h4
    · rw [kput_other _ _ hkk', hf]
      constructor
      · rintro ⟨x, hx, h3, h4⟩
        exact ⟨x, .inl hx, h3, h4⟩
      · rintro ⟨x, hx | rfl, h3, h4⟩
        · exact ⟨x, hx, h3, h4⟩
        · exact absurd (inj h3).symm hkk'
theorem MapK.modified [DecidableEq κ] {es : Array MapEntry} {c j : Nat} {e : MapEntry} (hb : w.heap[b]? = some (.map es c)) (hs : Stamped es c) (hn : es.size ≤ n) (hi : ∀ x ∈ es.toList, ∃ k, x.key = kv k) (hf : ∀ k v, f k = some v ↔ ∃ x ∈ es.toList, x.key = kv k ∧ x.val = v)
    (inj : ∀ {a b : κ}, kv a = kv b → a = b) (k : κ) (v : Value) (hj : es[j]? = some e) (h3 : e.key = kv k) :
    MapK kv { w with heap := w.heap.setIfInBounds b (.map (es.modify j (fun e => { e with key := kv k, val := v })) c) } b (kput f k v) n := by
  have h2 : es.toList[j]? = some e := by simpa using hj
  have hkey : ∀ e', es[j]? = some e' → ({ e' with key := kv k, val := v } : MapEntry).key = e'.key := fun e' he' => by rw [hj] at he'; cases he'; exact h3.symm
  have hmem : ∀ x, x ∈ (es.modify j (fun e => { e with key := kv k, val := v })).toList ↔ ∃ i y, es[i]? = some y ∧ x = if j = i then { y with key := kv k, val := v } else y := by
    intro x
    rw [List.mem_iff_getElem?]
    simp only [Array.getElem?_toList, Array.getElem?_modify]
    constructor
    · rintro ⟨i, hi'⟩
      by_cases hji : j = i
      · subst hji
        simp [hj] at hi'
        exact ⟨j, e, hj, by simp [hi']⟩
      · simp [hji] at hi'
        exact ⟨i, x, hi', by simp [hji]⟩
    · rintro ⟨i, y, hy, rfl⟩
      refine ⟨i, ?_⟩
      by_cases hji : j = i
      · subst hji
        simp [hy]
      · simp [hji, hy]
  refine ⟨_, _, (heap_set hb).1, stamped_modify hs _ _ (fun _ _ => rfl) (fun e' _ he' => hkey e' he'), by simp; omega, ?_, ?_⟩
  · intro x hx
    obtain ⟨i, y, hy, rfl⟩ := (hmem x).1 hx
    by_cases hji : j = i
    · exact ⟨k, by simp [hji]⟩
    · simp only [hji, if_false]
      exact hi y (List.mem_of_getElem? (by simpa using hy))
  · intro k' v'
    by_cases hkk' : k' = k
    · subst hkk'
      rw [kput_same]
      constructor
      · intro hv
        exact ⟨{ e with key := kv k', val := v }, (hmem _).2 ⟨j, e, hj, by simp⟩, rfl, Option.some.inj hv⟩
      · rintro ⟨x, hx, h4, h5⟩
        obtain ⟨i, y, hy, rfl⟩ := (hmem x).1 hx
        by_cases hji : j = i
        · simp [hji] at h5
          exact congrArg some h5
        · exfalso
          simp only [hji, if_false] at h4
          have hnd := hs.2.2
          have hnd := List.pairwise_iff_getElem.1 hnd
          have hjl : j < es.toList.length := by simpa using (Array.getElem?_eq_some_iff.1 hj).1
          have hil : i < es.toList.length := by simpa using (Array.getElem?_eq_some_iff.1 hy).1
          have ej : es.toList[j] = e := by simpa using (Array.getElem?_eq_some_iff.1 hj).2
          have ei : es.toList[i] = y := by simpa using (Array.getElem?_eq_some_iff.1 hy).2
          rcases Nat.lt_or_gt_of_ne hji with hlt | hlt
          · exact hnd j i (by simpa using hjl) (by simpa using hil) hlt (by simp only [List.getElem_map, ej, ei, h3, h4])
          · exact hnd i j (by simpa using hil) (by simpa using hjl) hlt (by simp only [List.getElem_map, ej, ei, h3, h4])
    · rw [kput_other _ _ hkk', hf]
      constructor
      · rintro ⟨x, hx, h4, h5⟩
        obtain ⟨i, hi'⟩ := List.mem_iff_getElem?.1 hx
        have hji : j ≠ i := by
          rintro rfl
          rw [h2] at hi'
          cases hi'
          rw [h3] at h4
          exact hkk' (inj h4).symm
        exact ⟨x, (hmem x).2 ⟨i, x, by simpa using hi', by simp [hji]⟩, h4, h5⟩
      · rintro ⟨x, hx, h4, h5⟩
        obtain ⟨i, y, hy, rfl⟩ := (hmem x).1 hx
        by_cases hji : j = i
        · simp [hji] at h4
          exact absurd (inj h4).symm hkk'
        · simp only [hji, if_false] at h4 h5
          exact ⟨y, List.mem_of_getElem? (by simpa using hy), h4, h5⟩
theorem MapK.none_of {es : Array MapEntry} (hf : ∀ k v, f k = some v ↔ ∃ x ∈ es.toList, x.key = kv k ∧ x.val = v) {k : κ} (h2 : ∀ x ∈ es.toList, x.key ≠ kv k) : f k = none := by
  cases hfk : f k with
  | none => rfl
  | some v => obtain ⟨x, hx, h3, -⟩ := (hf k v).1 hfk; exact absurd h3 (h2 x hx)
theorem MapK.mod_set {es : Array MapEntry} {c : Nat} (hb : w.heap[b]? = some (.map es c)) (o : Obj) : Mod (fun r => r = b) w { w with heap := w.heap.setIfInBounds b o } :=
  ⟨rfl, rfl, rfl, by simp, fun r _ hne => (heap_set hb).2 r hne⟩
theorem MapK.look (h : MapK kv w b f n) (ht : P.underlying t = some (.map kt et)) (K : KeyK P kt kv) {z : Value} (hz : (zeroValue et).run P w = .ok z w) (k : κ) :
    (Instr.lookup t (.map (some b)) (kv k) false).run P w = .ok ((f k).getD z) w := by
  obtain ⟨es, c, hb, hs, -, hi, hf⟩ := h
  have hc := K.check w es.isEmpty k
  rcases K.find w k es.toList hi with ⟨hf', h2⟩ | ⟨j, e, hf', h2, h3⟩
  · have hn : f k = none := MapK.none_of hf h2
    simp [Instr.lookup, run_underlying ht, MapKept.run_getObj_map hb, Result.andThen]
    rw [hc]
    simp [hf', hz, hn]
  · have hn : f k = some e.val := (hf k e.val).2 ⟨e, List.mem_of_getElem? h2, h3, rfl⟩
    simp [Instr.lookup, run_underlying ht, MapKept.run_getObj_map hb, Result.andThen]
    rw [hc]
    simp [hf', hn]
theorem MapK.update [DecidableEq κ] (h : MapK kv w b f n) (ht : P.underlying t = some (.map kt et)) (K : KeyK P kt kv) (k : κ) (v : Value) :
    ∃ w', (Instr.mapUpdate t (.map (some b)) (kv k) v).run P w = .ok () w' ∧ MapK kv w' b (kput f k v) (n + 1) ∧ ((f k).isSome → MapK kv w' b (kput f k v) n) ∧ Mod (fun r => r = b) w w' ∧ w'.heap.size = w.heap.size := by
  obtain ⟨es, c, hb, hs, hn, hi, hf⟩ := h
  have hc := K.check w false k
  rcases K.find w k es.toList hi with ⟨hf', h2⟩ | ⟨j, e, hf', h2, h3⟩
  · have hfk : f k = none := MapK.none_of hf h2
    refine ⟨_, ?_, MapK.pushed hb hs hn hi hf K.inj k v h2, fun hs => by simp [hfk] at hs, MapK.mod_set hb _, by simp⟩
    simp [Instr.mapUpdate, run_underlying ht, MapKept.run_getObj_map hb, hc, hf', MapKept.run_setObj_map _ hb, Result.andThen]
  · have hj : es[j]? = some e := by simpa using h2
    have hM := MapK.modified hb hs hn hi hf K.inj k v hj h3
    refine ⟨_, ?_, hM.mono (Nat.le_succ _), fun _ => hM, MapK.mod_set hb _, by simp⟩
    simp [Instr.mapUpdate, run_underlying ht, MapKept.run_getObj_map hb, hc, hf', hj, h3, K.stays, MapKept.run_setObj_map _ hb, Result.andThen]
theorem MapK.entry [DecidableEq κ] (h : MapK kv w b f n) (ht : P.underlying t = some (.map kt et)) (K : KeyK P kt kv) {z : Value} (hz : ∀ w, (zeroValue et).run P w = .ok z w) (k : κ) :
    ∃ (w' : World) (s : Nat), (Instr.mapEntry t (.map (some b)) (kv k)).run P w = .ok (.tuple #[(f k).getD z, goInt (s : Int)]) w' ∧ MapK kv w' b (kput f k ((f k).getD z)) (n + 1) ∧ ((f k).isSome → MapK kv w' b (kput f k ((f k).getD z)) n) ∧ BornAt kv w' b s k ∧ Mod (fun r => r = b) w w' ∧ w'.heap.size = w.heap.size := by
  obtain ⟨es, c, hb, hs, hn, hi, hf⟩ := h
  have hc := K.check w false k
  rcases K.find w k es.toList hi with ⟨hf', h2⟩ | ⟨j, e, hf', h2, h3⟩
  · have hfk : f k = none := MapK.none_of hf h2
    have hM := MapK.pushed hb hs hn hi hf K.inj k z h2
    refine ⟨_, c, ?_, by rw [hfk]; exact hM, fun hs => by simp [hfk] at hs, ⟨_, _, (heap_set hb).1, _, by simp; exact .inr rfl, rfl, rfl⟩, MapK.mod_set hb _, by simp⟩
    simp [Instr.mapEntry, run_underlying ht, MapKept.run_getObj_map hb, hc, hf', hz, hfk, MapKept.run_setObj_map _ hb, Result.andThen]
  · have hj : es[j]? = some e := by simpa using h2
    have hfk : f k = some e.val := (hf k e.val).2 ⟨e, List.mem_of_getElem? h2, h3, rfl⟩
    have hM := MapK.modified hb hs hn hi hf K.inj k e.val hj h3
    have he : es.modify j (fun e => { e with key := kv k }) = es.modify j (fun x => { x with key := kv k, val := e.val }) := by
      apply Array.ext_getElem?
      intro i
      rw [Array.getElem?_modify, Array.getElem?_modify]
      by_cases hji : j = i
      · subst hji
        simp [hj]
      · simp [hji]
    refine ⟨_, e.born, ?_, by rw [hfk]; exact hM.mono (Nat.le_succ _), fun _ => by rw [hfk]; exact hM, ⟨_, _, (heap_set hb).1, { e with key := kv k, val := e.val }, ?_, rfl, rfl⟩, MapK.mod_set hb _, by simp⟩
    · simp [Instr.mapEntry, run_underlying ht, MapKept.run_getObj_map hb, hc, hf', hj, h3, hfk, K.stays, MapKept.run_setObj_map _ hb, Result.andThen, he]
    · rw [List.mem_iff_getElem?]
      exact ⟨j, by simp [hj]⟩
theorem MapK.store [DecidableEq κ] (h : MapK kv w b f n) (K : KeyK P kt kv) {s : Nat} {k : κ} (hb : BornAt kv w b s k) (v : Value) :
    ∃ w', (Instr.entryStore t (.map (some b)) (goInt (s : Int)) v).run P w = .ok () w' ∧ MapK kv w' b (kput f k v) n ∧ Mod (fun r => r = b) w w' ∧ w'.heap.size = w.heap.size := by
  obtain ⟨es, c, hbk, hs, hn, hi, hf⟩ := h
  obtain ⟨es', c', hb', x, hx, hxs, hxk⟩ := hb
  rw [hbk] at hb'
  simp only [Option.some.injEq, Obj.map.injEq] at hb'
  obtain ⟨rfl, rfl⟩ := hb'
  obtain ⟨i, hi'⟩ := List.mem_iff_getElem?.1 hx
  have hfi : ∃ j e, es.findIdx? (fun e => (e.born : Int) == (s : Int)) = some j ∧ es[j]? = some e ∧ e.born = s := by
    cases hq : es.findIdx? (fun e => (e.born : Int) == (s : Int)) with
    | none =>
      rw [Array.findIdx?_eq_none_iff] at hq
      have := hq x (by simpa using hx)
      simp [hxs] at this
    | some j =>
      rw [Array.findIdx?_eq_some_iff_getElem] at hq
      obtain ⟨hjl, h1, -⟩ := hq
      exact ⟨j, es[j], rfl, Array.getElem?_eq_getElem hjl, by simp at h1; omega⟩
  obtain ⟨j, e, hj1, hj, hes⟩ := hfi
  have hij : j = i := by
    have hnd := hs.2.1
    have hil : i < es.toList.length := (List.getElem?_eq_some_iff.1 hi').1
    have hjl : j < es.toList.length := by simpa using (Array.getElem?_eq_some_iff.1 hj).1
    have ei : es.toList[i] = x := (List.getElem?_eq_some_iff.1 hi').2
    have ej : es.toList[j] = e := by simpa using (Array.getElem?_eq_some_iff.1 hj).2
    have hp := List.pairwise_iff_getElem.1 hnd
    rcases Nat.lt_trichotomy j i with hlt | heq | hlt
    · exact (hp j i (by simpa using hjl) (by simpa using hil) hlt (by simp only [List.getElem_map, ei, ej, hes, hxs])).elim
    · exact heq
    · exact (hp i j (by simpa using hil) (by simpa using hjl) hlt (by simp only [List.getElem_map, ei, ej, hes, hxs])).elim
  subst hij
  have hex : e = x := by
    have h1 : es.toList[j]? = some e := by simpa using hj
    rw [h1] at hi'
    exact Option.some.inj hi'
  subst hex
  have hM := MapK.modified hbk hs hn hi hf K.inj k v hj hxk
  have he : es.modify j (fun e => { e with val := v }) = es.modify j (fun x => { x with key := kv k, val := v }) := by
    apply Array.ext_getElem?
    intro q
    rw [Array.getElem?_modify, Array.getElem?_modify]
    by_cases hjq : j = q
    · subst hjq
      simp [hj, hxk]
    · simp [hjq]
  refine ⟨_, ?_, hM, MapK.mod_set hbk _, by simp⟩
  simp [Instr.entryStore, MapKept.run_getObj_map hbk, goInt, asInt, asIntOf, hj1, MapKept.run_setObj_map _ hbk, Result.andThen, he]
end

section
variable {P : Program} {w : World} {b n : Nat} {f : κ → Option Value} {t kt et : TypeId} {ops : Array Oper} {rest : List Oper} {o : Oper} {a : Act} {Q : Exit → Act → World → Prop}
theorem wpList_lookK (w : World) (hg : o.guard = none) (m x : Operand) (t : TypeId) (hop : o.op = Op.lookup t m x false) (kt et : TypeId) (ht : P.underlying t = some (.map kt et)) (K : KeyK P kt kv) (z : Value)
    (hz : (zeroValue et).run P w = .ok z w) (b n : Nat) (f : κ → Option Value) (hm : a.eval m = .map (some b)) (h : MapK kv w b f n) (k : κ) (hx : a.eval x = kv k) (val : Value) (hv : (f k).getD z = val)
    (hK : wpList P ops Q rest (a.put o.dst val) w) : wpList P ops Q (o :: rest) a w := by
  refine wpList_plain hg fun K' hK' => ?_
  unfold Oper.wp
  simp [execOp, hop, hm, hx, h.look ht K hz k, Result.andThen]
  rw [hv]
  exact hK' _ _ hK
theorem wpList_updK [DecidableEq κ] (w : World) (hg : o.guard = none) (m x v : Operand) (t : TypeId) (hop : o.op = Op.mapUpdate t m x v) (kt et : TypeId) (ht : P.underlying t = some (.map kt et)) (K : KeyK P kt kv)
    (b n : Nat) (f : κ → Option Value) (hm : a.eval m = .map (some b)) (h : MapK kv w b f n) (k : κ) (hx : a.eval x = kv k) (val : Value) (hv : a.eval v = val)
    (hK : ∀ w', MapK kv w' b (kput f k val) (n + 1) → ((f k).isSome → MapK kv w' b (kput f k val) n) → Mod (fun r => r = b) w w' → w'.heap.size = w.heap.size → wpList P ops Q rest (a.put o.dst undef) w') : wpList P ops Q (o :: rest) a w := by
  refine wpList_plain hg fun K' hK' => ?_
  obtain ⟨w', hrun, r1, r2, r3, r4⟩ := h.update ht K k val
  unfold Oper.wp
  simp [execOp, hop, hm, hx, hv, hrun, Result.andThen]
  exact hK' _ _ (hK w' r1 r2 r3 r4)
end
def cntK [DecidableEq κ] (M : List κ) : κ → Option Value := fun y => if M.count y = 0 then none else some (.int .i64 (M.count y : Int))
theorem cntK_getD [DecidableEq κ] (M : List κ) (k : κ) : (cntK M k).getD (.int .i64 0) = .int .i64 (M.count k : Int) := by
  unfold cntK
  by_cases h : M.count k = 0 <;> simp [h]
theorem cntK_step [DecidableEq κ] (M : List κ) (k : κ) (v : Value) : kput (kput (cntK M) k v) k (.int .i64 ((M.count k : Int) + 1)) = cntK (M ++ [k]) := by
  rw [kput_twice]
  funext y
  by_cases h : y = k
  · subst h
    rw [kput_same]
    simp [cntK]
  · rw [kput_other _ _ h]
    simp [cntK, List.count_append, Ne.symm h]
end
end Go.Hg

namespace Go.Hg
open MapKept Go.Maps Go.WideElems Go.WideShapes

def inI64 (x : Int) : Prop := (Lit.int .i64 x).wf = true
def Counts (f : Int → Option Value) : Prop := ∀ x v, f x = some v → inI64 x ∧ ∃ c, v = .int .i64 c ∧ inI64 c
def HoldsI (D : DataW Unit) (f : Int → Option Value) : Prop := (∀ x c, f x = some (.int .i64 c) → Maps.has D (.int .i64 x) = true ∧ ∀ zd, D.atKey (.int .i64 x) zd = .lit (.int .i64 c)) ∧ ∀ x, f x = none → inI64 x → Maps.has D (.int .i64 x) = false
section
variable {w : World} {b n : Nat} {f : Int → Option Value} {P : Program} {k e : TypeId}
theorem MapI.ownsV (h : MapI w b f n) (hk : P.underlying k = some (.int .i64)) (he : P.underlying e = some (.int .i64)) (hn : n ≤ maxLen) (hc : Counts f) :
    ∃ D : DataW Unit, w.ownsMap P k (plainElem P e) b n D ∧ HoldsI D f := by
  obtain ⟨es, c, hb, hs, hz, hi, hf⟩ := h
  have K : Keyed P k := int_keyed hk
  have hv : ∀ x ∈ es.toList, ∃ q c, x.key = .int .i64 q ∧ x.val = .int .i64 c ∧ inI64 q ∧ inI64 c := by
    intro x hx
    obtain ⟨q, hq⟩ := hi x hx
    obtain ⟨h1, c, h2, h3⟩ := hc q x.val ((hf q x.val).2 ⟨x, hx, hq, rfl⟩)
    exact ⟨q, c, hq, h2, h1, h3⟩
  have F : Fit P k (plainElem P e) es c (H := Unit) := ⟨Nat.le_trans hz hn, hs, fun x hx => by
    obtain ⟨q, d, h1, h2, h3, h4⟩ := hv x hx
    refine ⟨(.int .i64 q, .lit (.int .i64 d)), ?_⟩
    unfold rd
    rw [h1, keyOf_int_mk hk h3, h2]
    have h5 : (Lit.int .i64 d).wf = true := h4
    simp [plainElem, he, h5]⟩
  refine ⟨_, ⟨es, c, hb, F, hz, rfl⟩, ?_, ?_⟩
  · intro x d hx
    obtain ⟨en, hen, h1, h2⟩ := (hf x _).1 hx
    obtain ⟨h3, d', h4, h5⟩ := hc x _ hx
    have hkey : keyOf P k (.int .i64 x) = some (.int .i64 x) := keyOf_int_mk hk h3
    have hat := atKey_sorted (es.toList.map (rg P k (plainElem P e (H := Unit)))) (fit_rising K F) (.int .i64 x) (K.key hkey)
    obtain ⟨y, hy⟩ := F.reads en hen
    have hy1 := rd_key hy
    rw [h1, hkey] at hy1
    obtain ⟨z, hz1, hz2⟩ := rd_val hy
    obtain ⟨d2, h6, rfl, -⟩ := plainElem_int_inv he hz1
    rw [h2] at h6
    cases h6
    have h7 : ∀ zd, (DataW.map ((es.toList.map (rg P k (plainElem P e))).foldr DataW.insert [])).atKey (.int .i64 x) zd = .lit (.int .i64 d) := fun zd => by
      rw [hat.2 (rg P k (plainElem P e) en) (List.mem_map.2 ⟨en, hen, rfl⟩) (by rw [rg_of hy]; exact (Option.some.inj hy1).symm), rg_of hy, hz2]
    exact ⟨has_true_of_atKey h7, h7⟩
  · intro x hx h3
    have hkey : keyOf P k (.int .i64 x) = some (.int .i64 x) := keyOf_int_mk hk h3
    have hat := atKey_sorted (es.toList.map (rg P k (plainElem P e (H := Unit)))) (fit_rising K F) (.int .i64 x) (K.key hkey)
    refine has_false_of_atKey (hat.1 (fun p hp e1 => ?_))
    obtain ⟨en, hen, rfl⟩ := List.mem_map.1 hp
    obtain ⟨y, hy⟩ := F.reads en hen
    have m1 := rd_key hy
    rw [rg_of hy] at e1
    rw [e1] at m1
    have h4 := K.inj m1 hkey
    rw [(hf x en.val).2 ⟨en, hen, h4, rfl⟩] at hx
    cases hx
end
end Go.Hg

namespace Go.Hg

def BrkR (nodes : List PNode) (edges : List PEdge) (r : PRule) (l : List Int) : Prop :=
  if r.kind = 1 then l = (nodes.filter (doubR nodes r)).map (·.id)
  else if r.kind = 2 then l = (nodes.filter (lacksR r)).map (·.id)
  else if r.kind = 3 then l = (edges.filter (wrongR nodes r)).map (·.id)
  else RSet l fun x => r.n < (outR edges r x : Int)
def BrokenR (nodes : List PNode) (edges : List PEdge) (r : PRule) (l : List Int) : Prop := (formR r = false → l = []) ∧ (formR r = true → BrkR nodes edges r l)
theorem BrokenR.uniq {nodes : List PNode} {edges : List PEdge} {r : PRule} {l l' : List Int} (h : BrokenR nodes edges r l) (h' : BrokenR nodes edges r l') : l = l' := by
  cases hf : formR r with
  | false => rw [h.1 hf, h'.1 hf]
  | true =>
    have h1 := h.2 hf
    have h2 := h'.2 hf
    unfold BrkR at h1 h2
    by_cases k1 : r.kind = 1
    · rw [if_pos k1] at h1 h2; rw [h1, h2]
    · rw [if_neg k1] at h1 h2
      by_cases k2 : r.kind = 2
      · rw [if_pos k2] at h1 h2; rw [h1, h2]
      · rw [if_neg k2] at h1 h2
        by_cases k3 : r.kind = 3
        · rw [if_pos k3] at h1 h2; rw [h1, h2]
        · rw [if_neg k3] at h1 h2
          exact h1.uniq h2 fun _ => Iff.rfl
theorem outR_pos {edges : List PEdge} {r : PRule} {x : Int} (h : 0 < outR edges r x) : ∃ e ∈ edges, e.typ = r.typ ∧ e.from_ = x := by
  unfold outR at h
  obtain ⟨e, he⟩ := List.exists_mem_of_length_pos h
  have h1 := List.mem_filter.1 he
  simp only [Bool.and_eq_true, decide_eq_true_eq] at h1
  exact ⟨e, h1.1, h1.2⟩
theorem BrokenR.nodup {nodes : List PNode} {edges : List PEdge} {r : PRule} {l : List Int} (h : BrokenR nodes edges r l) (hn : (nodes.map (·.id)).Pairwise (· < ·)) (he : (edges.map (·.id)).Pairwise (· < ·)) : l.Pairwise (· < ·) := by
  cases hf : formR r with
  | false => rw [h.1 hf]; exact .nil
  | true =>
    have h1 := h.2 hf
    unfold BrkR at h1
    by_cases k1 : r.kind = 1
    · rw [if_pos k1] at h1; rw [h1]; exact hn.sublist (map_sub _ _ _)
    · rw [if_neg k1] at h1
      by_cases k2 : r.kind = 2
      · rw [if_pos k2] at h1; rw [h1]; exact hn.sublist (map_sub _ _ _)
      · rw [if_neg k2] at h1
        by_cases k3 : r.kind = 3
        · rw [if_pos k3] at h1; rw [h1]; exact he.sublist (map_sub _ _ _)
        · rw [if_neg k3] at h1; exact h1.1
end Go.Hg

namespace Go.Hg
open Go.RowKit Go.Proofs MapKept Go.Maps

def fromsR (r : PRule) (l : List PEdge) : List Int := (l.filter fun e => decide (e.typ = r.typ)).map (·.from_)
theorem count_froms (r : PRule) (l : List PEdge) (x : Int) : (fromsR r l).count x = outR l r x := by
  unfold fromsR outR
  rw [List.count, List.countP_map, List.countP_filter, List.countP_eq_length_filter]
  congr 1
  refine List.filter_congr fun e _ => ?_
  simp only [Function.comp]
  by_cases h1 : e.typ = r.typ <;> by_cases h2 : e.from_ = x <;> simp [h1, h2]
theorem fromsR_snoc (r : PRule) (l : List PEdge) (e : PEdge) : fromsR r (l ++ [e]) = if decide (e.typ = r.typ) = true then fromsR r l ++ [e.from_] else fromsR r l := by
  unfold fromsR
  rw [List.filter_append]
  by_cases h : e.typ = r.typ <;> simp [h]
theorem fromsR_len (r : PRule) (l : List PEdge) : (fromsR r l).length ≤ l.length := by
  unfold fromsR
  rw [List.length_map]
  exact List.length_filter_le _ _
theorem mostR_out {edges : List PEdge} {r : PRule} : mostR edges r = true ↔ ∀ x, 0 < outR edges r x → (outR edges r x : Int) ≤ r.n := by
  unfold mostR
  rw [List.all_eq_true]
  constructor
  · intro h x hx
    obtain ⟨e, he, ht, rfl⟩ := outR_pos hx
    have := h e he
    simpa [ht] using this
  · intro h e he
    by_cases ht : e.typ = r.typ
    · have hp : 0 < outR edges r e.from_ := by
        unfold outR
        exact List.length_pos_of_mem (List.mem_filter.2 ⟨he, by simp [ht]⟩)
      simpa [ht] using h e.from_ hp
    · simp [ht]
theorem cntK_wf {M : List Int} (hM : ∀ x ∈ M, (Lit.int .i64 x).wf = true) (hl : (M.length : Int) ≤ 9223372036854775807) : Counts (cntK M) := by
  intro x v hv
  unfold cntK at hv
  by_cases h : M.count x = 0
  · rw [if_pos h] at hv; cases hv
  · rw [if_neg h] at hv
    cases hv
    have hx : x ∈ M := List.count_pos_iff.1 (by omega)
    have hc := List.count_le_length (a := x) (l := M)
    refine ⟨hM x hx, _, rfl, ?_⟩
    show (Lit.int .i64 _).wf = true
    simp only [Lit.wf, Bool.and_eq_true, decide_eq_true_eq]
    exact ⟨by show (-9223372036854775808 : Int) ≤ _; omega, by show _ ≤ (9223372036854775807 : Int); omega⟩
theorem cntK_step1 (M : List Int) (k : Int) : kput (cntK M) k (.int .i64 ((M.count k : Int) + 1)) = cntK (M ++ [k]) := by
  rw [← cntK_step M k (.bool true), kput_twice]
theorem holds_at {D : DataW Unit} {f : Int → Option Value} (h : HoldsI D f) {x c : Int} (hx : inI64 x) (hf : ∀ v, f x = some v → ∃ c, v = .int .i64 c) (hat : ∀ zd, D.atKey (.int .i64 x) zd = .lit (.int .i64 c)) : f x = some (.int .i64 c) := by
  cases hfx : f x with
  | none =>
    have h1 := h.2 x hfx hx
    rw [has_true_of_atKey hat] at h1
    cases h1
  | some v =>
    obtain ⟨c', rfl⟩ := hf v hfx
    have h1 := (h.1 x c' hfx).2 .nil
    rw [hat .nil] at h1
    cases h1
    rfl
theorem mod_grown {w w' : World} {b : Nat} (h : w.grownBy w' (some b)) : Mod (fun r => r = b) w w' := ⟨h.os, h.tape, h.output, h.size, fun i hi hne => h.block i hi (fun hc => hne (by simpa using hc))⟩
theorem grow_grown {w w' : World} (h : w.grownBy w' none) : Grow w w' := ⟨h.os, h.tape, h.output, h.size, fun i hi => h.block i hi (by simp)⟩
theorem zeroIntV (w : World) : (zeroValue 3).run Tryz.prog w = .ok (.int .i64 0) w := by kernel_rfl

set_option maxRecDepth 100000 in
set_option maxHeartbeats 1000000 in
/-- rule 'most' -/
theorem keepsMost (edges : List PEdge) (ev : Value) (eb rb fb : Nat) (r : PRule) (w : World) (S : Nat → Prop) (he : EdgesR S w ev edges) (h64 : ∀ e ∈ edges, (Lit.int .i64 e.from_).wf = true) (heb : OneBox w eb ev) (hr : RuleBox w rb r) (hf : OneBox w fb (ofV rb)) :
    Calls Tryz.prog 77 #[.pointer (some ⟨eb, 0, none⟩), .pointer (some ⟨fb, 0, none⟩), .pointer (some ⟨rb, 0, none⟩)] w fun e w' => e = .returned (.bool (mostR edges r)) ∧ Grow w w' := by
  have HR := Lib.hid hr; have HF := Lib.hid hf; have H64 := Lib.hid h64
  obtain ⟨hel, d0⟩ := heb.cell
  obtain ⟨aa, ca, rfl, hal, hac, hA⟩ := SlR.open he
  have hac' := hac
  unfold maxLen at hac
  have HA := Lib.hid hA
  have HG := Lib.hid (show ∀ o1, Grow w (w.alloc o1) from fun o1 => (Grow.rfl' w).allocd o1)
  have HM0 := Lib.hid (show MapK (fun k : Int => .int .i64 k) (w.alloc (.map #[] 0)) w.heap.size (cntK ([] : List Int)) 0 from MapK.made w)
  have entersOf := entersOf
  clear he heb hr hf hA h64
  have hmm := @run_makeMap Tryz.prog
  go_enter Tryz.func77, Tryz.ntmps77
  go_wp2
  clear hmm
  go_loopg [12] edges.length (fun g i wr => ∃ k : Nat, k ≤ edges.length ∧ g = edges.length - k ∧ i = .int .i64 k ∧ MapK (fun k : Int => .int .i64 k) wr w.heap.size (cntK (fromsR r (edges.take k))) k ∧ Grow w wr)
  case atStart => exact ⟨0, by omega, by omega, rfl, HM0.out, HG.out _⟩
  case round =>
    obtain ⟨k, hk, rfl, rfl, hm, hgr⟩ := hrel
    have HM := Lib.hid hm; have HGR := Lib.hid hgr
    have hml := hm.lt
    clear hm
    by_cases hkl : k < edges.length
    · obtain ⟨ba, oa, ra, rfl, hSa, hba, hRa, hca⟩ := HA.out k edges[k] (List.getElem?_eq_getElem hkl)
      obtain ⟨pva, hba', a0, a1, a2, a3, a4, hpa⟩ := hRa.at hba hgr hca
      clear hca hRa hSa hba
      have HT := Lib.hid (show edges.take (k + 1) = edges.take k ++ [edges[k]] from List.take_succ_eq_append_getElem hkl)
      generalize edges[k] = x at *
      obtain ⟨_, _, rfl⟩ := hpa.isSlice
      clear hpa
      obtain ⟨hfl, d1⟩ := (HF.out.grow hgr).cell
      have HW := Lib.hid (show ∀ o1, Grow wr (wr.alloc o1) from fun o1 => (Grow.rfl' wr).allocd o1)
      have HG2 := Lib.hid (show ∀ o1, Grow w (wr.alloc o1) from fun o1 => HGR.out.allocd o1)
      obtain ⟨bt, hbt⟩ : ∃ b, decide (x.typ = r.typ) = b := ⟨_, rfl⟩
      have HBT := Lib.hid hbt
      have HFS := Lib.hid (fromsR_snoc r (edges.take k) x)
      clear hbt hgr
      cases bt
      · go_wp2_with fail
        refine (keepsOf (HR.out.grow (HG2.out _)) HBT.out).mono ?_
        rintro e w3 ⟨rfl, rfl⟩
        go_wp2
        go_roundg (edges.length - (k + 1))
        case measure => omega
        case rel =>
          refine ⟨k + 1, by omega, rfl, by go_num, ?_, HG2.out _⟩
          rw [HT.out, HFS.out, HBT.out, if_neg (by simp)]
          exact (HM.out.grow (HW.out _)).mono (by omega)
      · have HCV := Lib.hid (cntK_getD (fromsR r (edges.take k)) x.from_)
        have HST := Lib.hid (cntK_step1 (fromsR r (edges.take k)) x.from_)
        have hcl : ((fromsR r (edges.take k)).count x.from_ : Int) ≤ k := by
          have h1 := List.count_le_length (a := x.from_) (l := fromsR r (edges.take k))
          have h2 := fromsR_len r (edges.take k)
          rw [List.length_take] at h2
          omega
        have hwr : IntKind.i64.wrap (((fromsR r (edges.take k)).count x.from_ : Int) + 1) = ((fromsR r (edges.take k)).count x.from_ : Int) + 1 := by rw [IntKind.wrap_i64]; omega
        have HCL := Lib.hid hcl
        generalize (fromsR r (edges.take k)).count x.from_ = c at *
        go_wp2_with fail
        refine (keepsOf (HR.out.grow (HG2.out _)) HBT.out).mono ?_
        rintro e w3 ⟨rfl, rfl⟩
        go_wp2_with (first
          | (at_lookup; go_must (refine wpList_lookK _ rfl (.tmp 20) (.tmp 22) 86 rfl 2 3 Tryz.underlying86 (keyK_int Tryz.underlying2) (.int .i64 0) (zeroIntV _) _ _ _ rfl (HM.out.grow (HW.out _)) x.from_ rfl _ HCV.out ?_))
          | (at_mapUpdate; go_must (refine wpList_updK _ rfl (.tmp 20) (.tmp 22) (.tmp 24) 86 rfl 2 3 Tryz.underlying86 (keyK_int Tryz.underlying2) _ _ _ rfl (HM.out.grow (HW.out _)) x.from_ rfl (.int .i64 ((c : Int) + 1)) (by rfl) ?_; intro w4 g1 g2 g3 g4)))
        rw [HST.out] at g1
        go_roundg (edges.length - (k + 1))
        case measure => omega
        case rel =>
          refine ⟨k + 1, by omega, rfl, by go_num, ?_, (HG2.out _).modd g3 (fun q hq => by rw [hq]; exact Nat.le_refl _)⟩
          rw [HT.out, HFS.out, HBT.out, if_pos rfl]
          exact g1
    · have hkk : edges.take k = edges := List.take_of_length_le (by omega)
      rw [hkk] at HM
      clear hkk
      have hfl := fromsR_len r edges
      have hCN : Counts (cntK (fromsR r edges)) := cntK_wf (fun x hx => by
        obtain ⟨e, he, rfl⟩ := List.mem_map.1 hx
        exact H64.out e (List.mem_filter.1 he).1) (by omega)
      obtain ⟨D, hown, hH⟩ := MapI.ownsV (MapK.toI HM.out) (e := 3) Tryz.underlying2 Tryz.underlying3 (by unfold maxLen; omega) hCN
      have HH := Lib.hid hH; have HCN := Lib.hid hCN
      have HD0 := Lib.hid (show ∀ x : Int, 0 < outR edges r x → Maps.has D (.int .i64 x) = true from fun x hx => by
        rw [← count_froms] at hx
        refine (HH.out.1 x (List.count x (fromsR r edges)) ?_).1
        unfold cntK
        rw [if_neg (by omega)])
      clear hH hCN hfl
      go_wp2_with (first
        | (at_range; refine wpList_range_own _ rfl _ 86 rfl 2 3 (int_keyed Tryz.underlying2) Tryz.underlying86 _ _ _ D rfl hown ?_; intro w0 hrg0 hg0 hs0)
        | go_in)
      go_frame
      obtain ⟨wq, rfl⟩ : ∃ wq : World, wq = wr := ⟨_, rfl⟩
      have HQ := Lib.hid hgr
      have hgq := hgr.step (grow_grown hg0)
      go_loopg [8] (Maps.size D) (fun g vn wr => ∃ (left : Lit → Bool), wr.ranges Tryz.prog 2 (plainElem Tryz.prog 3) w.heap.size wq.heap.size k D left g ∧ Grow w wr ∧ wq.heap.size < wr.heap.size ∧ ∀ x : Int, 0 < outR edges r x → left (.int .i64 x) = false → (outR edges r x : Int) ≤ r.n)
      case atStart => exact ⟨_, hrg0, hgq, by omega, fun x hx hl => by rw [HD0.out x hx] at hl; cases hl⟩
      case round =>
        obtain ⟨left, hrg, hgw, hql, hleft⟩ := hrel
        have HLEFT := Lib.hid hleft; have HGW := Lib.hid hgw
        have hbl := hrg.owns.lt
        obtain ⟨hrl, c1, c2, c3, c4, c5, c6, c7, c0⟩ := (HR.out.grow hgw).cells
        clear hleft hgw c1 c2 c3 c4 c5 c7 c0
        go_wp2_with (first
          | (at_next; refine wpList_next_ranges_ii _ rfl _ rfl 2 3 .i64 .i64 (int_keyed Tryz.underlying2) Tryz.underlying2 Tryz.underlying3 _ _ _ _ _ _ rfl hrg ?_ ?_)
          | go_in)
        · intro _ hl0
          have HX := Lib.hid (show mostR edges r = true from mostR_out.2 fun x hx => HLEFT.out x hx (hl0 _))
          go_wp2
          go_ret
          exact ⟨by rw [HX.out]; rfl, HGW.out⟩
        · intro x c w1 cnt1 hwx hwc hlx hat hrg1 hlt hg1 hs1 hen
          have hfx := holds_at HH.out hwx (fun v hv => by obtain ⟨-, c, h, -⟩ := HCN.out x v hv; exact ⟨c, h⟩) hat
          have hcx : (outR edges r x : Int) = c ∧ 0 < outR edges r x := by
            unfold cntK at hfx
            by_cases h : (fromsR r edges).count x = 0
            · rw [if_pos h] at hfx; cases hfx
            · rw [if_neg h] at hfx
              rw [count_froms] at hfx h
              simp only [Option.some.injEq, Value.int.injEq, true_and] at hfx
              exact ⟨hfx, by omega⟩
          have HCX := Lib.hid hcx
          have HW1 := Lib.hid (HGW.out.modd (mod_grown hg1) (fun q hq => by rw [hq]; omega))
          have c61 : w1.cell? ⟨rb, 6, none⟩ = some (.int .i64 r.n) := (hg1.cell c6 (by have h1 := HR.out.cells.1; have h2 := HQ.out.size; simp; omega))
          clear hcx hfx hat
          by_cases hgt : r.n < c
          · have HX := Lib.hid (show mostR edges r = false by
              cases hm : mostR edges r with
              | false => rfl
              | true => have := mostR_out.1 hm x HCX.out.2; have := HCX.out.1; omega)
            go_wp2
            go_ret
            exact ⟨by rw [HX.out]; rfl, HW1.out⟩
          · go_wp2
            go_roundg cnt1
            case measure => exact hlt
            case rel =>
              refine ⟨_, hrg1, HW1.out, by omega, fun y hy hl => ?_⟩
              by_cases hyx : y = x
              · subst hyx
                have := HCX.out.1
                omega
              · refine HLEFT.out y hy ?_
                simpa [Lit.sameKey, hyx] using hl
end Go.Hg

namespace Go.Hg
open MapKept
section
variable {κ : Type} {kv : κ → Value} {P : Program} {w : World} {b n : Nat} {f : κ → Option Value} {t kt et : TypeId} {ops : Array Oper} {o : Oper} {a : Act} {KK : Act → World → Prop} {Q : Exit → Act → World → Prop} {E : Prop}
theorem step_lookK (hg : o.guard = none) (m x : Operand) (t : TypeId) (hop : o.op = Op.lookup t m x false) (kt et : TypeId) (ht : P.underlying t = some (.map kt et)) (K : KeyK P kt kv) (z : Value) (hz : (zeroValue et).run P w = .ok z w) (hm : a.eval m = .map (some b)) (h : MapK kv w b f n) (k : κ) (hx : a.eval x = kv k) (val : Value) (hv : (f k).getD z = val)
    (hK : KK (a.put o.dst val) w) : if Region.wanted o (yielded ops a.tmps) = true then Oper.wp P o a w KK Q else E := by
  have hw : Region.wanted o (yielded ops a.tmps) = true := by simp [Region.wanted, hg]
  rw [if_pos hw]
  unfold Oper.wp
  simp [execOp, hop, hm, hx, h.look ht K hz k, Result.andThen, hv]
  exact hK
theorem step_entryK [DecidableEq κ] (hg : o.guard = none) (m x : Operand) (t : TypeId) (hop : o.op = Op.mapEntry t m x) (kt et : TypeId) (ht : P.underlying t = some (.map kt et)) (K : KeyK P kt kv) (z : Value) (hz : ∀ w, (zeroValue et).run P w = .ok z w) (hm : a.eval m = .map (some b)) (h : MapK kv w b f n) (k : κ) (hx : a.eval x = kv k) (val : Value) (hv : (f k).getD z = val)
    (hK : ∀ (w' : World) (s : Nat), MapK kv w' b (kput f k val) (n + 1) → BornAt kv w' b s k → Mod (fun r => r = b) w w' → w'.heap.size = w.heap.size → KK (a.put o.dst (.tuple #[val, .int .i64 (s : Int)])) w') : if Region.wanted o (yielded ops a.tmps) = true then Oper.wp P o a w KK Q else E := by
  have hw : Region.wanted o (yielded ops a.tmps) = true := by simp [Region.wanted, hg]
  rw [if_pos hw]
  obtain ⟨w', s, hrun, r1, -, r3, r4, r5⟩ := h.entry ht K hz k
  subst hv
  unfold Oper.wp
  simp [execOp, hop, hm, hx, hrun, Result.andThen]
  exact hK w' s r1 r3 r4 r5
theorem step_storeK [DecidableEq κ] (hg : o.guard = none) (m st x : Operand) (t : TypeId) (hop : o.op = Op.entryStore t m st x) (kt : TypeId) (K : KeyK P kt kv) (hm : a.eval m = .map (some b)) (h : MapK kv w b f n) (k : κ) (s : Nat) (hs : a.eval st = .int .i64 (s : Int)) (hb : BornAt kv w b s k) (val : Value) (hx : a.eval x = val)
    (hK : ∀ (w' : World), MapK kv w' b (kput f k val) n → Mod (fun r => r = b) w w' → w'.heap.size = w.heap.size → KK (a.put o.dst undef) w') : if Region.wanted o (yielded ops a.tmps) = true then Oper.wp P o a w KK Q else E := by
  have hw : Region.wanted o (yielded ops a.tmps) = true := by simp [Region.wanted, hg]
  rw [if_pos hw]
  obtain ⟨w', hrun, r1, r2, r3⟩ := h.store (t := t) K hb val
  have hs' : a.eval st = goInt (s : Int) := hs
  unfold Oper.wp
  simp [execOp, hop, hm, hs', hx, hrun, Result.andThen]
  exact hK w' r1 r2 r3
end
end Go.Hg

namespace Go.Hg
open MapKept

def PlainT (P : Program) (t : TypeId) (x : Value) : Prop := (∃ n, x = .int .i64 n ∧ P.underlying t = some (.int .i64)) ∨ ∃ s, x = .string s ∧ P.underlying t = some .string
def plainEq : Value → Value → Bool
  | .int .i64 a, .int .i64 b => a == b
  | .string a, .string b => a == b
  | _, _ => false
section
variable {P : Program} {t : TypeId}
theorem run_plainEq {x y : Value} (hx : PlainT P t x) (hy : PlainT P t y) (d : Nat) (w : World) : (Op.equalIn (d + 1) t x y).run P w = .ok (plainEq x y) w := by
  rcases hx with ⟨a, rfl, hx⟩ | ⟨a, rfl, hx⟩ <;> rcases hy with ⟨b, rfl, hy⟩ | ⟨b, rfl, hy⟩
  · simp [Op.equalIn, run_underlying hx, plainEq, Result.andThen]
  · rw [hx] at hy; cases hy
  · rw [hx] at hy; cases hy
  · simp [Op.equalIn, run_underlying hx, plainEq, Result.andThen]
theorem plainEq_iff {x y : Value} (hx : PlainT P t x) (hy : PlainT P t y) : plainEq x y = true ↔ x = y := by
  rcases hx with ⟨a, rfl, hx⟩ | ⟨a, rfl, hx⟩ <;> rcases hy with ⟨b, rfl, hy⟩ | ⟨b, rfl, hy⟩
  · simp [plainEq]
  · rw [hx] at hy; cases hy
  · rw [hx] at hy; cases hy
  · simp only [plainEq, Value.string.injEq]
    exact bytes_beq a b
theorem run_partP {x : Value} (hx : PlainT P t x) {cs : Array Value} {o : Nat} (ho : cs[o]? = some x) (w : World) : (part t cs o).run P w = .ok x w := by
  rcases hx with ⟨a, rfl, hx⟩ | ⟨a, rfl, hx⟩ <;> simp [part, isAgg, run_underlying hx, ho, Result.andThen]
theorem run_checkP {x : Value} (hx : PlainT P t x) (d : Nat) (e : Bool) (w : World) : (Instr.checkKey e (d + 1) t x).run P w = .ok () w := by
  rcases hx with ⟨a, rfl, hx⟩ | ⟨a, rfl, hx⟩
  · exact MapKept.run_checkKey hx (by simp [IsKey]) e d
  · exact MapKept.run_checkKey hx (by simp [IsKey]) e d
variable {f0 f1 f2 : Field} {x0 x1 x2 y0 y1 y2 : Value}
theorem run_equal3 (hu : P.underlying t = some (.struct #[f0, f1, f2])) (hs : P.stoodInHeld t = false) (n0 : f0.name ≠ "_") (n1 : f1.name ≠ "_") (n2 : f2.name ≠ "_") (o0 : f0.offset = 0) (o1 : f1.offset = 1) (o2 : f2.offset = 2)
    (hx0 : PlainT P f0.type x0) (hx1 : PlainT P f1.type x1) (hx2 : PlainT P f2.type x2) (hy0 : PlainT P f0.type y0) (hy1 : PlainT P f1.type y1) (hy2 : PlainT P f2.type y2) (w : World) :
    (Op.equal t (.agg #[x0, x1, x2]) (.agg #[y0, y1, y2])).run P w = .ok (plainEq x0 y0 && (plainEq x1 y1 && plainEq x2 y2)) w := by
  have p0 := run_partP (P := P) hx0 (cs := #[x0, x1, x2]) (o := 0) rfl
  have p1 := run_partP (P := P) hx1 (cs := #[x0, x1, x2]) (o := 1) rfl
  have p2 := run_partP (P := P) hx2 (cs := #[x0, x1, x2]) (o := 2) rfl
  have q0 := run_partP (P := P) hy0 (cs := #[y0, y1, y2]) (o := 0) rfl
  have q1 := run_partP (P := P) hy1 (cs := #[y0, y1, y2]) (o := 1) rfl
  have q2 := run_partP (P := P) hy2 (cs := #[y0, y1, y2]) (o := 2) rfl
  have e0 := fun w => run_plainEq hx0 hy0 9998 w
  have e1 := fun w => run_plainEq hx1 hy1 9998 w
  have e2 := fun w => run_plainEq hx2 hy2 9998 w
  unfold Op.equal Op.maxDepth Op.equalIn
  simp only [Sem.run_bind, run_underlying hu, Result.andThen_ok]
  have hp : ∀ w, (program : Sem Program).run P w = .ok P w := fun w => rfl
  cases h0 : plainEq x0 y0 <;> cases h1 : plainEq x1 y1 <;> cases h2 : plainEq x2 y2 <;>
    simp [hp, hs, n0, n1, n2, o0, o1, o2, p0, p1, p2, q0, q1, q2, e0, e1, e2, h0, h1, h2, Result.andThen, Sem.run_bind]
theorem run_check3 (hu : P.underlying t = some (.struct #[f0, f1, f2])) (n0 : f0.name ≠ "_") (n1 : f1.name ≠ "_") (n2 : f2.name ≠ "_") (o0 : f0.offset = 0) (o1 : f1.offset = 1) (o2 : f2.offset = 2)
    (hx0 : PlainT P f0.type x0) (hx1 : PlainT P f1.type x1) (hx2 : PlainT P f2.type x2) (e : Bool) (w : World) : (Instr.checkKey e 10000 t (.agg #[x0, x1, x2])).run P w = .ok () w := by
  have p0 := run_partP (P := P) hx0 (cs := #[x0, x1, x2]) (o := 0) rfl
  have p1 := run_partP (P := P) hx1 (cs := #[x0, x1, x2]) (o := 1) rfl
  have p2 := run_partP (P := P) hx2 (cs := #[x0, x1, x2]) (o := 2) rfl
  have e0 := fun w => run_checkP hx0 9998 e w
  have e1 := fun w => run_checkP hx1 9998 e w
  have e2 := fun w => run_checkP hx2 9998 e w
  unfold Instr.checkKey
  simp only [Sem.run_bind, run_underlying hu, Result.andThen_ok]
  simp [n0, n1, n2, o0, o1, o2, p0, p1, p2, e0, e1, e2, Result.andThen, Sem.run_bind]
theorem findAsking3 {κ : Type} {c0 c1 c2 : κ → Value} (hu : P.underlying t = some (.struct #[f0, f1, f2])) (hs : P.stoodInHeld t = false) (n0 : f0.name ≠ "_") (n1 : f1.name ≠ "_") (n2 : f2.name ≠ "_") (o0 : f0.offset = 0) (o1 : f1.offset = 1) (o2 : f2.offset = 2)
    (h0 : ∀ k, PlainT P f0.type (c0 k)) (h1 : ∀ k, PlainT P f1.type (c1 k)) (h2 : ∀ k, PlainT P f2.type (c2 k)) (w : World) (k : κ) : ∀ (es : List MapEntry) (i : Nat), (∀ x ∈ es, ∃ q, x.key = .agg #[c0 q, c1 q, c2 q]) →
    ((Instr.findAsking t (.agg #[c0 k, c1 k, c2 k]) es i).run P w = .ok none w ∧ ∀ x ∈ es, x.key ≠ .agg #[c0 k, c1 k, c2 k]) ∨
    ∃ j e, (Instr.findAsking t (.agg #[c0 k, c1 k, c2 k]) es i).run P w = .ok (some (i + j, e.val)) w ∧ es[j]? = some e ∧ e.key = .agg #[c0 k, c1 k, c2 k]
  | [], i, _ => .inl ⟨by simp [Instr.findAsking], by simp⟩
  | e :: es, i, hall => by
    obtain ⟨q, hq⟩ := hall e (.head _)
    have hr := run_equal3 hu hs n0 n1 n2 o0 o1 o2 (h0 k) (h1 k) (h2 k) (h0 q) (h1 q) (h2 q) w
    cases hb : (plainEq (c0 k) (c0 q) && (plainEq (c1 k) (c1 q) && plainEq (c2 k) (c2 q)))
    · have hne : e.key ≠ .agg #[c0 k, c1 k, c2 k] := by
        rw [hq]
        intro he
        simp only [Value.agg.injEq] at he
        have e0 : c0 q = c0 k := by have := congrArg (fun a : Array Value => a[0]?) he; simpa using this
        have e1 : c1 q = c1 k := by have := congrArg (fun a : Array Value => a[1]?) he; simpa using this
        have e2 : c2 q = c2 k := by have := congrArg (fun a : Array Value => a[2]?) he; simpa using this
        rw [(plainEq_iff (h0 k) (h0 q)).2 e0.symm, (plainEq_iff (h1 k) (h1 q)).2 e1.symm, (plainEq_iff (h2 k) (h2 q)).2 e2.symm] at hb
        cases hb
      rw [hb] at hr
      rcases findAsking3 hu hs n0 n1 n2 o0 o1 o2 h0 h1 h2 w k es (i + 1) (fun x hx => hall x (.tail _ hx)) with ⟨g1, g2⟩ | ⟨j, e', g1, g2, g3⟩
      · refine .inl ⟨by simp [Instr.findAsking, hq, hr, g1, Result.andThen], fun x hx => ?_⟩
        rcases List.mem_cons.1 hx with rfl | hx
        · exact hne
        · exact g2 x hx
      · exact .inr ⟨j + 1, e', by simp [Instr.findAsking, hq, hr, g1, Result.andThen, Nat.add_assoc, Nat.add_comm 1 j], by simpa using g2, g3⟩
    · rw [hb] at hr
      rw [Bool.and_eq_true, Bool.and_eq_true] at hb
      have e0 := (plainEq_iff (h0 k) (h0 q)).1 hb.1
      have e1 := (plainEq_iff (h1 k) (h1 q)).1 hb.2.1
      have e2 := (plainEq_iff (h2 k) (h2 q)).1 hb.2.2
      exact .inr ⟨0, e, by simp [Instr.findAsking, hq, hr, Result.andThen], rfl, by rw [hq, e0, e1, e2]⟩
theorem keyK_struct3 {κ : Type} {c0 c1 c2 : κ → Value} (hu : P.underlying t = some (.struct #[f0, f1, f2])) (hs : P.stoodInHeld t = false) (n0 : f0.name ≠ "_") (n1 : f1.name ≠ "_") (n2 : f2.name ≠ "_") (o0 : f0.offset = 0) (o1 : f1.offset = 1) (o2 : f2.offset = 2)
    (h0 : ∀ k, PlainT P f0.type (c0 k)) (h1 : ∀ k, PlainT P f1.type (c1 k)) (h2 : ∀ k, PlainT P f2.type (c2 k)) (inj : ∀ {a b}, c0 a = c0 b → c1 a = c1 b → c2 a = c2 b → a = b) : KeyK P t (fun k : κ => .agg #[c0 k, c1 k, c2 k]) where
  inj he := by
    simp only [Value.agg.injEq] at he
    refine inj ?_ ?_ ?_
    · have := congrArg (fun a : Array Value => a[0]?) he; simpa using this
    · have := congrArg (fun a : Array Value => a[1]?) he; simpa using this
    · have := congrArg (fun a : Array Value => a[2]?) he; simpa using this
  check w e k := run_check3 hu n0 n1 n2 o0 o1 o2 (h0 k) (h1 k) (h2 k) e w
  find w k es hes := by
    have hn : es = [] ∨ Instr.findNow (.struct #[f0, f1, f2]) (.agg #[c0 k, c1 k, c2 k]) es 0 = none := by
      cases es with
      | nil => exact .inl rfl
      | cons e t => exact .inr (by simp [Instr.findNow, Instr.sameNow])
    rcases hn with rfl | hn
    · exact .inl ⟨by simp [Instr.findKey, run_underlying hu, Instr.findNow, Result.andThen], by simp⟩
    · have hf : (Instr.findKey t (.agg #[c0 k, c1 k, c2 k]) es).run P w = (Instr.findAsking t (.agg #[c0 k, c1 k, c2 k]) es 0).run P w := by
        simp [Instr.findKey, run_underlying hu, hn, Result.andThen]
      rw [hf]
      rcases findAsking3 hu hs n0 n1 n2 o0 o1 o2 h0 h1 h2 w k es 0 hes with h | ⟨j, e, g1, g2, g3⟩
      · exact .inl h
      · exact .inr ⟨j, e, by simpa using g1, g2, g3⟩
  stays w k := by
    have hb : ∀ (m : Nat) (f : Field) (x : Value), PlainT P f.type x → Instr.sameBits m x x = true := by
      intro m f x hx
      rcases hx with ⟨a, rfl, -⟩ | ⟨a, rfl, -⟩
      · simp [Instr.sameBits]
      · simp only [Instr.sameBits]
        exact (bytes_beq a a).2 rfl
    have h : Instr.sameBits 10000 (.agg #[c0 k, c1 k, c2 k]) (.agg #[c0 k, c1 k, c2 k]) = true := by
      simp [Instr.sameBits, hb 9999 f0 _ (h0 k), hb 9999 f1 _ (h1 k), hb 9999 f2 _ (h2 k)]
    simp [Instr.keyThatStays, h]
end
end Go.Hg
