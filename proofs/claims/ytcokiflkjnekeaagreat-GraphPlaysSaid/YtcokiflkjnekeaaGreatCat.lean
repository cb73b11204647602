/- Catalogs as data; slices.Index, Contains at texts; schema.names, Has; hedgerowref14.list, Has. No condition. -/
import Derived.Test.YtcokiflkjnekeaaGreatDeep
namespace Go.Hg
open Go.RowKit Go.Proofs

structure PRule where
  id : Int
  kind : Int
  typ : ByteArray
  name : ByteArray
  from_ : ByteArray
  to_ : ByteArray
  n : Int
  state : Int
deriving DecidableEq
structure PIndex where
  typ : ByteArray
  name : ByteArray
deriving DecidableEq
structure PCat where
  nodes : List ByteArray
  edges : List ByteArray
  rules : List PRule
  indexes : List PIndex
  nextRule : Int
deriving DecidableEq
def RStr (s : ByteArray) (r : List Value) : Prop := r = [.string s]
def RRule (x : PRule) (r : List Value) : Prop := r = [.int .i64 x.id, .int .i64 x.kind, .string x.typ, .string x.name, .string x.from_, .string x.to_, .int .i64 x.n, .int .i64 x.state]
def RIndex (x : PIndex) (r : List Value) : Prop := r = [.string x.typ, .string x.name]
abbrev StrsR (S : Nat → Prop) (w : World) (v : Value) (l : List ByteArray) : Prop := SlR S w 1 RStr v l
abbrev RulesR (S : Nat → Prop) (w : World) (v : Value) (l : List PRule) : Prop := SlR S w 8 RRule v l
abbrev IndexesR (S : Nat → Prop) (w : World) (v : Value) (l : List PIndex) : Prop := SlR S w 2 RIndex v l
/-- a catalog's five cells -/
def CatR (S : Nat → Prop) (w : World) (nv ev rv iv : Value) (c : PCat) : Prop := StrsR S w nv c.nodes ∧ StrsR S w ev c.edges ∧ RulesR S w rv c.rules ∧ IndexesR S w iv c.indexes
abbrev PCat.arg (c : PCat) (nv ev rv iv : Value) : Value := .agg #[nv, ev, rv, iv, .int .i64 c.nextRule]
theorem SlR.growS {α : Type} {S : Nat → Prop} {w w' : World} {sz : Nat} {R : α → List Value → Prop} {v : Value} {l : List α} (h : SlR S w sz R v l) (g : Grow w w') : SlR S w' sz R v l :=
  SlR.keep h (fun _ _ hb => g.heapEq hb) g.size (fun _ _ _ hR => hR)
theorem SlR.modS {α : Type} {F S : Nat → Prop} {w w' : World} {sz : Nat} {R : α → List Value → Prop} {v : Value} {l : List α} (h : SlR S w sz R v l) (g : Mod F w w') (hd : ∀ b, S b → ¬ F b) : SlR S w' sz R v l :=
  SlR.keep h (fun b hS hb => g.block b hb (hd b hS)) g.size (fun _ _ _ hR => hR)
theorem CatR.grow {S : Nat → Prop} {w w' : World} {nv ev rv iv : Value} {c : PCat} (h : CatR S w nv ev rv iv c) (g : Grow w w') : CatR S w' nv ev rv iv c := ⟨h.1.growS g, h.2.1.growS g, h.2.2.1.growS g, h.2.2.2.growS g⟩
theorem CatR.mod {F S : Nat → Prop} {w w' : World} {nv ev rv iv : Value} {c : PCat} (h : CatR S w nv ev rv iv c) (g : Mod F w w') (hd : ∀ b, S b → ¬ F b) : CatR S w' nv ev rv iv c := ⟨h.1.modS g hd, h.2.1.modS g hd, h.2.2.1.modS g hd, h.2.2.2.modS g hd⟩
/-- the four slices in one form -/
theorem CatR.slices {S : Nat → Prop} {w : World} {nv ev rv iv : Value} {c : PCat} (h : CatR S w nv ev rv iv c) :
    ∃ na nc ea ec ra rc ia ic, nv = .slice na c.nodes.length nc ∧ ev = .slice ea c.edges.length ec ∧ rv = .slice ra c.rules.length rc ∧ iv = .slice ia c.indexes.length ic := by
  obtain ⟨h1, h2, h3, h4⟩ := h
  obtain ⟨na, nc, rfl, _⟩ := SlR.open h1
  obtain ⟨ea, ec, rfl, _⟩ := SlR.open h2
  obtain ⟨ra, rc, rfl, _⟩ := SlR.open h3
  obtain ⟨ia, ic, rfl, _⟩ := SlR.open h4
  exact ⟨_, _, _, _, _, _, _, _, rfl, rfl, rfl, rfl⟩

/-- is a text in a list? -/
def memS (s : ByteArray) (l : List ByteArray) : Bool := l.any fun x => decide (x = s)
theorem memS_true {s : ByteArray} {l : List ByteArray} (h : s ∈ l) : memS s l = true := List.any_eq_true.2 ⟨s, h, by simp⟩
theorem memS_false {s : ByteArray} {l : List ByteArray} (h : s ∉ l) : memS s l = false := List.any_eq_false.2 fun x hx => by simp; intro e; subst e; exact h hx

set_option maxRecDepth 100000 in
set_option maxHeartbeats 1000000 in
theorem indexStr (S : Nat → Prop) (v : Value) (l : List ByteArray) (s : ByteArray) (w : World) (hl : StrsR S w v l) :
    Calls Tryz.prog 99 #[v, .string s] w fun e w' => ∃ r : Int, e = .returned (.int .i64 r) ∧ ((r = -1 ∧ s ∉ l) ∨ (0 ≤ r ∧ s ∈ l)) ∧ w = w' := by
  obtain ⟨aa, ca, rfl, hal, hac, hA⟩ := SlR.open hl
  clear hl
  unfold maxLen at hac
  have HA := Lib.hid hA; clear hA
  go_enter Tryz.func99, Tryz.ntmps99
  go_wp2
  go_loopg [8] l.length (fun g i wr => ∃ k : Nat, k ≤ l.length ∧ g = l.length - k ∧ i = .int .i64 k ∧ s ∉ l.take k ∧ w = wr)
  case atStart => exact ⟨0, by omega, by omega, rfl, by simp, rfl⟩
  case round =>
    obtain ⟨k, hk, rfl, rfl, hall, rfl⟩ := hrel
    have HALL := Lib.hid hall; clear hall
    by_cases hkl : k < l.length
    · obtain ⟨ba, oa, ra, rfl, hSa, hba, hRa, hca⟩ := HA.out k l[k] (List.getElem?_eq_getElem hkl)
      have a0 := hca 0 (.string l[k]) (by unfold RStr at hRa; rw [hRa]; rfl)
      simp only [Nat.mul_one, Nat.add_zero] at a0
      clear hca hRa hSa hba
      have HM := Lib.hid (List.getElem_mem hkl)
      have HT := Lib.hid (show l.take (k + 1) = l.take k ++ [l[k]] from List.take_succ_eq_append_getElem hkl)
      generalize l[k] = x at *
      cases hn : decide (s = x)
      all_goals go_wp2
      · go_roundg (l.length - (k + 1))
        case measure => omega
        case rel => exact ⟨k + 1, by omega, rfl, by go_num, by rw [HT.out]; intro h; rcases List.mem_append.1 h with h | h; exact HALL.out h; simp at h; exact of_decide_eq_false hn h, rfl⟩
      · go_ret
        exact ⟨_, rfl, .inr ⟨by omega, by rw [of_decide_eq_true hn]; exact HM.out⟩, rfl⟩
    · have HX := Lib.hid (show l.take k = l from List.take_of_length_le (by omega))
      go_wp2
      go_ret
      exact ⟨_, rfl, .inl ⟨rfl, by rw [← HX.out]; exact HALL.out⟩, rfl⟩

set_option maxHeartbeats 400000 in
theorem containsStr (S : Nat → Prop) (v : Value) (l : List ByteArray) (s : ByteArray) (w : World) (hl : StrsR S w v l) :
    Calls Tryz.prog 91 #[v, .string s] w fun e w' => e = .returned (.bool (memS s l)) ∧ w = w' := by
  have HL := Lib.hid hl
  obtain ⟨_, _, rfl, _⟩ := SlR.open hl
  clear hl
  go_enter Tryz.func91, Tryz.ntmps91
  go_wp2_with fail
  refine (indexStr S _ l s _ HL.out).mono ?_
  rintro e w2 ⟨r, rfl, hr, rfl⟩
  rcases hr with ⟨rfl, hm⟩ | ⟨h0, hm⟩
  · have HM := Lib.hid hm; clear hm
    go_wp2
    go_ret
    exact ⟨by rw [memS_false HM.out]; rfl, rfl⟩
  · have HM := Lib.hid hm; clear hm
    have h0' : decide (0 ≤ r) = true := by simp [h0]
    go_wp2
    go_ret
    exact ⟨by rw [memS_true HM.out]; simp, rfl⟩

/-- the types of a kind -/
def PCat.typesOf (c : PCat) (kind : Int) : List ByteArray := if kind = 1 then c.nodes else if kind = 2 then c.edges else []

set_option maxHeartbeats 400000 in
theorem schemaHas (S : Nat → Prop) (nv ev rv iv : Value) (c : PCat) (kind : Int) (s : ByteArray) (w : World) (hc : CatR S w nv ev rv iv c) :
    Calls Tryz.prog 72 #[c.arg nv ev rv iv, .int .i64 kind, .string s] w fun e w' => e = .returned (.bool (memS s (c.typesOf kind))) ∧ Grow w w' := by
  have HC := Lib.hid hc
  obtain ⟨na, nc, ea, ec, ra, rc, ia, ic, rfl, rfl, rfl, rfl⟩ := hc.slices
  have HG := Lib.hid (show ∀ o, Grow w (w.alloc o) from fun o => (Grow.rfl' w).allocd o)
  clear hc
  by_cases h1 : kind = 1
  · subst h1
    go_enter Tryz.func72, Tryz.ntmps72
    go_wp2_with (first | (go_at_call 90; go_in) | (go_at_call 91; go_must (refine (containsStr S _ c.nodes s _ (HC.out.grow (HG.out _)).1).mono ?_); rintro e w2 ⟨rfl, rfl⟩))
    go_ret
    exact ⟨rfl, HG.out _⟩
  · by_cases h2 : kind = 2
    · subst h2
      go_enter Tryz.func72, Tryz.ntmps72
      go_wp2_with (first | (go_at_call 90; go_in) | (go_at_call 91; go_must (refine (containsStr S _ c.edges s _ (HC.out.grow (HG.out _)).2.1).mono ?_); rintro e w2 ⟨rfl, rfl⟩))
      go_ret
      exact ⟨rfl, HG.out _⟩
    · have HX := Lib.hid (show c.typesOf kind = [] by unfold PCat.typesOf; rw [if_neg h1, if_neg h2])
      have h1' : (kind == 1) = false := by simpa using h1
      have h2' : (kind == 2) = false := by simpa using h2
      go_enter Tryz.func72, Tryz.ntmps72
      go_wp2
      go_ret
      exact ⟨by rw [HX.out]; rfl, HG.out _⟩

set_option maxHeartbeats 400000 in
theorem refList (S : Nat → Prop) (nv ev rv iv : Value) (c : PCat) (kind : Int) (w : World) (hc : CatR S w nv ev rv iv c) :
    Calls Tryz.prog 86 #[c.arg nv ev rv iv, .int .i64 kind] w fun e w' => ∃ v, e = .returned v ∧ StrsR S w' v (c.typesOf kind) ∧ Grow w w' := by
  have HC := Lib.hid hc
  obtain ⟨na, nc, ea, ec, ra, rc, ia, ic, rfl, rfl, rfl, rfl⟩ := hc.slices
  have HG := Lib.hid (show ∀ o, Grow w (w.alloc o) from fun o => (Grow.rfl' w).allocd o)
  clear hc
  have h1' : ∀ h : kind = 1, (kind == 1) = true := fun h => by simp [h]
  by_cases h1 : kind = 1
  · subst h1
    clear h1'
    go_enter Tryz.func86, Tryz.ntmps86
    go_wp2
    go_ret
    exact ⟨_, rfl, (HC.out.grow (HG.out _)).1, HG.out _⟩
  · by_cases h2 : kind = 2
    · subst h2
      clear h1'
      go_enter Tryz.func86, Tryz.ntmps86
      go_wp2
      go_ret
      exact ⟨_, rfl, (HC.out.grow (HG.out _)).2.1, HG.out _⟩
    · have HX := Lib.hid (show c.typesOf kind = [] by unfold PCat.typesOf; rw [if_neg h1, if_neg h2])
      have h1' : (kind == 1) = false := by simpa using h1
      have h2' : (kind == 2) = false := by simpa using h2
      go_enter Tryz.func86, Tryz.ntmps86
      go_wp2
      go_ret
      exact ⟨_, rfl, by rw [HX.out]; exact ⟨none, 0, [], rfl, by simp, by simp [maxLen], rfl, by simp, by simp⟩, HG.out _⟩

set_option maxRecDepth 100000 in
set_option maxHeartbeats 1000000 in
theorem refHas (S : Nat → Prop) (nv ev rv iv : Value) (c : PCat) (kind : Int) (s : ByteArray) (w : World) (hc : CatR S w nv ev rv iv c) :
    Calls Tryz.prog 59 #[c.arg nv ev rv iv, .int .i64 kind, .string s] w fun e w' => e = .returned (.bool (memS s (c.typesOf kind))) ∧ Grow w w' := by
  have HC := Lib.hid hc
  obtain ⟨na, nc, ea, ec, ra, rc, ia, ic, rfl, rfl, rfl, rfl⟩ := hc.slices
  have HG := Lib.hid (show ∀ o, Grow w (w.alloc o) from fun o => (Grow.rfl' w).allocd o)
  clear hc
  go_enter Tryz.func59, Tryz.ntmps59
  go_wp2_with fail
  refine (refList S _ _ _ _ c kind _ (HC.out.grow (HG.out _))).mono ?_
  rintro e w2 ⟨v, rfl, hv, hw2⟩
  obtain ⟨l, hll⟩ : ∃ l, c.typesOf kind = l := ⟨_, rfl⟩
  rw [hll] at hv
  have HLL := Lib.hid hll; clear hll
  obtain ⟨aa, ca, rfl, hal, hac, hA⟩ := SlR.open hv
  unfold maxLen at hac
  have HA := Lib.hid hA; have HW2 := Lib.hid ((HG.out _).step hw2); clear hA hv hw2
  go_wp2
  go_loopg [8] l.length (fun g i wr => ∃ k : Nat, k ≤ l.length ∧ g = l.length - k ∧ i = .int .i64 k ∧ s ∉ l.take k ∧ w2 = wr)
  case atStart => exact ⟨0, by omega, by omega, rfl, by simp, rfl⟩
  case round =>
    obtain ⟨k, hk, rfl, rfl, hall, rfl⟩ := hrel
    have HALL := Lib.hid hall; clear hall
    by_cases hkl : k < l.length
    · obtain ⟨ba, oa, ra, rfl, hSa, hba, hRa, hca⟩ := HA.out k l[k] (List.getElem?_eq_getElem hkl)
      have a0 := hca 0 (.string l[k]) (by unfold RStr at hRa; rw [hRa]; rfl)
      simp only [Nat.mul_one, Nat.add_zero] at a0
      clear hca hRa hSa hba
      have HM := Lib.hid (List.getElem_mem hkl)
      have HT := Lib.hid (show l.take (k + 1) = l.take k ++ [l[k]] from List.take_succ_eq_append_getElem hkl)
      generalize l[k] = x at *
      cases hn : decide (x = s)
      all_goals go_wp2
      · go_roundg (l.length - (k + 1))
        case measure => omega
        case rel => exact ⟨k + 1, by omega, rfl, by go_num, by rw [HT.out]; intro h; rcases List.mem_append.1 h with h | h; exact HALL.out h; simp at h; exact of_decide_eq_false hn h.symm, rfl⟩
      · go_ret
        exact ⟨by rw [HLL.out, memS_true (show s ∈ l by rw [← of_decide_eq_true hn]; exact HM.out)]; rfl, HW2.out⟩
    · have HX := Lib.hid (show l.take k = l from List.take_of_length_le (by omega))
      go_wp2
      go_ret
      exact ⟨by rw [HLL.out, memS_false (show s ∉ l by rw [← HX.out]; exact HALL.out)]; rfl, HW2.out⟩
end Go.Hg
