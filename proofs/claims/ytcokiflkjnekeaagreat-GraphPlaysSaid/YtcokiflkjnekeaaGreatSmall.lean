/- graph.at and its closures; slices.IndexFunc, ContainsFunc at edges; slices.Index, Contains at texts; schema.names, Has; hedgerowref14.list, Has. No condition. -/
import Derived.Test.YtcokiflkjnekeaaGreatDeep
namespace Go.Hg
open Go.RowKit Go.Proofs

abbrev PEdge.args (x : PEdge) (pv : Value) : Value := .agg #[.int .i64 x.id, .string x.typ, .int .i64 x.from_, .int .i64 x.to_, pv]
def atE (x : PEdge) (id : Int) : Bool := decide (x.from_ = id ∨ x.to_ = id)

set_option maxHeartbeats 400000 in
theorem graphAt (x : PEdge) (pv : Value) (id : Int) (w : World) (S : Nat → Prop) (hp : PropsR S w pv x.props) :
    Calls Tryz.prog 77 #[x.args pv, .int .i64 id] w fun e w' => e = .returned (.bool (atE x id)) ∧ Grow w w' := by
  obtain ⟨_, _, rfl⟩ := hp.isSlice
  have hg : ∀ o1, Grow w (w.alloc o1) := fun o1 => (Grow.rfl' w).allocd o1
  clear hp
  go_enter Tryz.func77, Tryz.ntmps77
  go_wp2
  all_goals
    go_ret
    refine ⟨?_, hg _⟩
    by_cases h2 : x.to_ = id <;> simp [atE, *]

set_option maxHeartbeats 400000 in
theorem mayDrop1 (x : PEdge) (pv : Value) (ob : Nat) (id : Int) (w : World) (S : Nat → Prop) (hp : PropsR S w pv x.props) (hc : w.cell? ⟨ob, 1, none⟩ = some (.int .i64 id)) :
    Calls Tryz.prog 76 #[x.args pv, .pointer (some ⟨ob, 0, none⟩)] w fun e w' => e = .returned (.bool (atE x id)) ∧ Grow w w' := by
  have HP := Lib.hid hp
  obtain ⟨_, _, rfl⟩ := hp.isSlice
  have hlt := cell_lt hc
  have hc2 : ∀ o, (w.alloc o).cell? ⟨ob, 1, none⟩ = some (.int .i64 id) := fun o => ((Grow.rfl' w).allocd o).cell (p := ⟨ob, 1, none⟩) hlt |>.trans hc
  have HG := Lib.hid (show ∀ o1, Grow w (w.alloc o1) from fun o1 => (Grow.rfl' w).allocd o1)
  clear hp hc
  go_enter Tryz.func76, Tryz.ntmps76
  go_wp2_with (go_at_call 77; (with_reducible refine (graphAt x _ id _ S (HP.out.grow (HG.out _))).mono ?_); rintro e w2 ⟨rfl, hw2⟩)
  go_ret
  exact ⟨rfl, (HG.out _).step ‹_›⟩
set_option maxHeartbeats 400000 in
theorem dropNode1 (x : PEdge) (pv : Value) (ob : Nat) (id : Int) (w : World) (S : Nat → Prop) (hp : PropsR S w pv x.props) (hc : w.cell? ⟨ob, 1, none⟩ = some (.int .i64 id)) :
    Calls Tryz.prog 80 #[x.args pv, .pointer (some ⟨ob, 0, none⟩)] w fun e w' => e = .returned (.bool (atE x id)) ∧ Grow w w' := by
  have HP := Lib.hid hp
  obtain ⟨_, _, rfl⟩ := hp.isSlice
  have hlt := cell_lt hc
  have hc2 : ∀ o, (w.alloc o).cell? ⟨ob, 1, none⟩ = some (.int .i64 id) := fun o => ((Grow.rfl' w).allocd o).cell (p := ⟨ob, 1, none⟩) hlt |>.trans hc
  have HG := Lib.hid (show ∀ o1, Grow w (w.alloc o1) from fun o1 => (Grow.rfl' w).allocd o1)
  clear hp hc
  go_enter Tryz.func80, Tryz.ntmps80
  go_wp2_with (go_at_call 77; (with_reducible refine (graphAt x _ id _ S (HP.out.grow (HG.out _))).mono ?_); rintro e w2 ⟨rfl, hw2⟩)
  go_ret
  exact ⟨rfl, (HG.out _).step ‹_›⟩
set_option maxHeartbeats 400000 in
theorem out1 (x : PEdge) (pv : Value) (ob : Nat) (id : Int) (w : World) (S : Nat → Prop) (hp : PropsR S w pv x.props) (hc : w.cell? ⟨ob, 0, none⟩ = some (.int .i64 id)) :
    Calls Tryz.prog 48 #[x.args pv, .pointer (some ⟨ob, 0, none⟩)] w fun e w' => e = .returned (.bool (decide (x.from_ = id))) ∧ Grow w w' := by
  obtain ⟨_, _, rfl⟩ := hp.isSlice
  have hlt := cell_lt hc
  have hc2 : ∀ o, (w.alloc o).cell? ⟨ob, 0, none⟩ = some (.int .i64 id) := fun o => ((Grow.rfl' w).allocd o).cell (p := ⟨ob, 0, none⟩) hlt |>.trans hc
  have HG := Lib.hid (show ∀ o1, Grow w (w.alloc o1) from fun o1 => (Grow.rfl' w).allocd o1)
  clear hp hc
  go_enter Tryz.func48, Tryz.ntmps48
  go_wp2
  go_ret
  exact ⟨by by_cases h : x.from_ = id <;> simp [h], HG.out _⟩
set_option maxHeartbeats 400000 in
theorem in1 (x : PEdge) (pv : Value) (ob : Nat) (id : Int) (w : World) (S : Nat → Prop) (hp : PropsR S w pv x.props) (hc : w.cell? ⟨ob, 0, none⟩ = some (.int .i64 id)) :
    Calls Tryz.prog 68 #[x.args pv, .pointer (some ⟨ob, 0, none⟩)] w fun e w' => e = .returned (.bool (decide (x.to_ = id))) ∧ Grow w w' := by
  obtain ⟨_, _, rfl⟩ := hp.isSlice
  have hlt := cell_lt hc
  have hc2 : ∀ o, (w.alloc o).cell? ⟨ob, 0, none⟩ = some (.int .i64 id) := fun o => ((Grow.rfl' w).allocd o).cell (p := ⟨ob, 0, none⟩) hlt |>.trans hc
  have HG := Lib.hid (show ∀ o1, Grow w (w.alloc o1) from fun o1 => (Grow.rfl' w).allocd o1)
  clear hp hc
  go_enter Tryz.func68, Tryz.ntmps68
  go_wp2
  go_ret
  exact ⟨by by_cases h : x.to_ = id <;> simp [h], HG.out _⟩

/-- a closure that asks of an edge -/
def AsksE (f : Nat) (c : Addr) (p : PEdge → Bool) (S : Nat → Prop) (w : World) : Prop :=
  (∀ args w, (callFunc f args).run Tryz.prog w = .ok (.enter f args) w) ∧ ∀ (x : PEdge) (pv : Value) (w' : World), Grow w w' → PropsR S w' pv x.props → Calls Tryz.prog f #[x.args pv, .pointer (some c)] w' fun e w2 => e = .returned (.bool (p x)) ∧ Grow w' w2
theorem AsksE.grow {f : Nat} {c : Addr} {p : PEdge → Bool} {S : Nat → Prop} {w w' : World} (h : AsksE f c p S w) (g : Grow w w') : AsksE f c p S w' := ⟨h.1, fun x pv w2 g2 hp => h.2 x pv w2 (g.step g2) hp⟩
def IdxE (l : List PEdge) (p : PEdge → Bool) (r : Int) : Prop :=
  (r = -1 ∧ ∀ x ∈ l, p x = false) ∨ ∃ (k : Nat) (x : PEdge), r = k ∧ l[k]? = some x ∧ p x = true ∧ ∀ y ∈ l.take k, p y = false

set_option maxRecDepth 100000 in
set_option maxHeartbeats 1000000 in
theorem indexEdge (S : Nat → Prop) (v : Value) (l : List PEdge) (f : Nat) (c : Addr) (p : PEdge → Bool) (w : World) (hl : EdgesR S w v l) (hp : AsksE f c p S w) :
    Calls Tryz.prog 92 #[v, .func (.func f) #[] #[.pointer (some c)]] w fun e w' => ∃ r : Int, e = .returned (.int .i64 r) ∧ IdxE l p r ∧ Grow w w' := by
  obtain ⟨aa, ca, rfl, hal, hac, hA⟩ := SlR.open hl
  clear hl
  unfold maxLen at hac
  have HA := Lib.hid hA; clear hA
  have HP := Lib.hid hp.2; have hcf := hp.1; clear hp
  go_enter Tryz.func92, Tryz.ntmps92
  go_wp2
  go_loopg [8] l.length (fun g i wr => ∃ k : Nat, k ≤ l.length ∧ g = l.length - k ∧ i = .int .i64 k ∧ (∀ y ∈ l.take k, p y = false) ∧ Grow w wr)
  case atStart => exact ⟨0, by omega, by omega, rfl, by simp, Grow.rfl' w⟩
  case round =>
    obtain ⟨k, hk, rfl, rfl, hall, hgr⟩ := hrel
    have HALL := Lib.hid hall; clear hall
    by_cases hkl : k < l.length
    · obtain ⟨ba, oa, ra, rfl, hSa, hba, hRa, hca⟩ := HA.out k l[k] (List.getElem?_eq_getElem hkl)
      obtain ⟨pva, hba', a0, a1, a2, a3, a4, hpa⟩ := hRa.at hba hgr hca
      clear hca hRa hSa hba
      have HE := Lib.hid (show l[k]? = some l[k] from List.getElem?_eq_getElem hkl)
      have HT := Lib.hid (show l.take (k + 1) = l.take k ++ [l[k]] from List.take_succ_eq_append_getElem hkl)
      generalize l[k] = x at *
      have HPA := Lib.hid hpa
      obtain ⟨_, _, rfl⟩ := hpa.isSlice
      clear hpa
      cases hn : p x
      all_goals
        go_wp2_with fail
        refine (HP.out x _ _ hgr HPA.out).mono ?_
        rintro e w2 ⟨rfl, hw2⟩
        rw [hn]
        go_wp2
      · go_roundg (l.length - (k + 1))
        case measure => omega
        case rel => exact ⟨k + 1, by omega, rfl, by go_num, by rw [HT.out]; intro y hy; rcases List.mem_append.1 hy with h | h; exact HALL.out y h; simp at h; subst h; exact hn, hgr.step hw2⟩
      · go_ret
        exact ⟨_, rfl, .inr ⟨k, x, rfl, HE.out, hn, HALL.out⟩, hgr.step hw2⟩
    · have HX := Lib.hid (show l.take k = l from List.take_of_length_le (by omega))
      go_wp2
      go_ret
      exact ⟨_, rfl, .inl ⟨rfl, by rw [← HX.out]; exact HALL.out⟩, hgr⟩

set_option maxHeartbeats 400000 in
theorem containsEdge (S : Nat → Prop) (v : Value) (l : List PEdge) (f : Nat) (c : Addr) (p : PEdge → Bool) (w : World) (hl : EdgesR S w v l) (hp : AsksE f c p S w) :
    Calls Tryz.prog 75 #[v, .func (.func f) #[] #[.pointer (some c)]] w fun e w' => e = .returned (.bool (l.any p)) ∧ Grow w w' := by
  have HL := Lib.hid hl; have HP := Lib.hid hp
  obtain ⟨_, _, rfl, _⟩ := SlR.open hl
  clear hl hp
  go_enter Tryz.func75, Tryz.ntmps75
  go_wp2_with fail
  refine (indexEdge S _ l f c p _ HL.out HP.out).mono ?_
  rintro e w2 ⟨r, rfl, hr, hw2⟩
  rcases hr with ⟨rfl, hall⟩ | ⟨k, x, rfl, hx, hpx, hk⟩
  · have HA := Lib.hid (show l.any p = false from List.any_eq_false.2 (fun x hx => by rw [hall x hx]; simp))
    clear hall
    go_wp2
    go_ret
    exact ⟨by rw [HA.out]; rfl, hw2⟩
  · have HA := Lib.hid (show l.any p = true from List.any_eq_true.2 ⟨x, List.mem_of_getElem? hx, hpx⟩)
    clear hx hpx hk
    go_wp2
    go_ret
    exact ⟨by rw [HA.out]; simp, hw2⟩
end Go.Hg
