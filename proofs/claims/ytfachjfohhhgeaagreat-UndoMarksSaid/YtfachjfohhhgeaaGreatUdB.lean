/- slices.BinarySearchFunc at nodes and edges by Id; val.Name, Good; hedgerowref02.Name, Good, Blank; Maps with int keys that a call makes by a literal; val.Good, hedgerowref02.Good, Blank; val.Props, hedgerowref02.Props: whether properties are good; A graph behind a pointer: what lies there; Catalogs as data; slices.Index, Contains at texts; schema.names, Has; hedgerowref14.list, Has; slices.IndexFunc at []api.Prop by val.Set's closure; the plain words for a property set; The builtins copy, append of zeros, clear, at a row that is one's own: runs. Conditions: those that each theorem names. -/
import Derived.WalkKit
import Derived.WalkSpells
import Derived.WalkLawsBesides
import Derived.Lib.Hide
import Derived.BigQuiet
import Derived.Deep.LoopGhost
import Derived.Test.YtfachjfohhhgeaaGreatRows
import Derived.Lib.SliceRun
import Derived.WideMake
import Derived.Deep.RegionLaw
import Derived.Test.YtfachjfohhhgeaaGreatUdA
namespace Go.Hg
open Go.RowKit Go.Proofs

def cmp3 (a b : Int) : Int := if a < b then -1 else if b < a then 1 else 0
set_option maxHeartbeats 400000 in
theorem compareAny (a b : Int) (w : World) :
    Calls Tryz.prog 124 #[.int .i64 a, .int .i64 b] w fun e w' => e = .returned (.int .i64 (cmp3 a b)) ∧ w' = w := by
  go_enter Tryz.func124, Tryz.ntmps124
  go_wp2
  all_goals (go_ret; exact ⟨by simp [cmp3]; omega, rfl⟩)
set_option maxHeartbeats 400000 in
theorem node1 (x : PNode) (pv : Value) (a : Int) (w : World) (S : Nat → Prop) (hp : PropsR S w pv x.props) :
    Calls Tryz.prog 130 #[.agg #[.int .i64 x.id, .string x.typ, pv], .int .i64 a] w fun e w' => e = .returned (.int .i64 (cmp3 x.id a)) ∧ Grow w w' := by
  obtain ⟨_, _, rfl⟩ := hp.isSlice
  have hg : ∀ o1, Grow w (w.alloc o1) := fun o1 => (Grow.rfl' w).allocd o1
  clear hp
  go_enter Tryz.func130, Tryz.ntmps130
  go_wp2_with (go_at_call 124; refine (compareAny _ _ _).mono ?_; rintro e w' ⟨rfl, rfl⟩)
  go_ret
  exact ⟨rfl, hg _⟩
set_option maxHeartbeats 400000 in
theorem edge1 (x : PEdge) (pv : Value) (a : Int) (w : World) (S : Nat → Prop) (hp : PropsR S w pv x.props) :
    Calls Tryz.prog 123 #[.agg #[.int .i64 x.id, .string x.typ, .int .i64 x.from_, .int .i64 x.to_, pv], .int .i64 a] w fun e w' => e = .returned (.int .i64 (cmp3 x.id a)) ∧ Grow w w' := by
  obtain ⟨_, _, rfl⟩ := hp.isSlice
  have hg : ∀ o1, Grow w (w.alloc o1) := fun o1 => (Grow.rfl' w).allocd o1
  clear hp
  go_enter Tryz.func123, Tryz.ntmps123
  go_wp2_with (go_at_call 124; refine (compareAny _ _ _).mono ?_; rintro e w' ⟨rfl, rfl⟩)
  go_ret
  exact ⟨rfl, hg _⟩

def BsOk (ids : List Int) (id : Int) (i : Nat) (b : Bool) : Prop := i ≤ ids.length ∧ ((b = true ∧ ids.idxOf? id = some i) ∨ (b = false ∧ ids.idxOf? id = none))
theorem bs_end {ids : List Int} {id : Int} {i : Nat} (hs : ids.Pairwise (· < ·)) (hi : i ≤ ids.length) (hlo : ∀ t x, t < i → ids[t]? = some x → x < id) (hhi : ∀ t x, i ≤ t → ids[t]? = some x → id ≤ x) (b : Bool)
    (hb : b = true ↔ ids[i]? = some id) : BsOk ids id i b := by
  refine ⟨hi, ?_⟩
  cases b with
  | true =>
    refine .inl ⟨rfl, ?_⟩
    have h := hb.1 rfl
    obtain ⟨hl, he⟩ := List.getElem?_eq_some_iff.1 h
    unfold List.idxOf?
    rw [List.findIdx?_eq_some_iff_getElem]
    refine ⟨hl, by simp [he], fun j hj => ?_⟩
    have := hlo j _ hj (List.getElem?_eq_getElem (by omega))
    simp; omega
  | false =>
    refine .inr ⟨rfl, ?_⟩
    unfold List.idxOf?
    rw [List.findIdx?_eq_none_iff]
    intro x hx
    obtain ⟨k, hk, rfl⟩ := List.mem_iff_getElem.1 hx
    by_cases hki : k < i
    · have := hlo k _ hki (List.getElem?_eq_getElem hk); simp; omega
    · have h1 := hhi k _ (by omega) (List.getElem?_eq_getElem hk)
      by_cases e : ids[k] = id
      · exfalso
        have hlt : i < ids.length := by omega
        have h2 := hhi i _ (Nat.le_refl _) (List.getElem?_eq_getElem hlt)
        by_cases hik : i = k
        · subst hik
          exact absurd (hb.2 (by rw [List.getElem?_eq_getElem hk, e])) (by simp)
        · have h3 := List.pairwise_iff_getElem.1 hs i k hlt hk (by omega)
          omega
      · simpa using e

def BsPost (ids : List Int) (id : Int) (w : World) (e : Ending) (w' : World) : Prop := ∃ (i : Nat) (b : Bool), e = .returned (.tuple #[.int .i64 i, .bool b]) ∧ BsOk ids id i b ∧ Grow w w'
theorem BsPost.mk {ids : List Int} {id : Int} {w : World} {e : Ending} {w' : World} (i : Nat) (b : Bool) (h1 : e = .returned (.tuple #[.int .i64 i, .bool b])) (h2 : BsOk ids id i b) (h3 : Grow w w') : BsPost ids id w e w' := ⟨i, b, h1, h2, h3⟩

set_option maxRecDepth 100000 in
set_option maxHeartbeats 1000000 in
theorem bsNodes (S : Nat → Prop) (v : Value) (l : List PNode) (id : Int) (w : World) (hl : NodesR S w v l) (hs : (l.map (·.id)).Pairwise (· < ·)) (hb : l.length ≤ 1099511627776) :
    Calls Tryz.prog 129 #[v, .int .i64 id, .func (.func 130) #[] #[]] w (BsPost (l.map (·.id)) id w) := by
  obtain ⟨aa, ca, rfl, hal, hac, hA⟩ := SlR.open hl
  clear hl
  unfold maxLen at hac
  have HA := Lib.hid hA; clear hA
  have HS := Lib.hid hs; have HB := Lib.hid hb; clear hs hb
  go_enter Tryz.func129, Tryz.ntmps129
  go_wp2
  go_loopg [9, 10] l.length (fun g vi vj wr => ∃ i j : Nat, i ≤ j ∧ j ≤ l.length ∧ g = j - i ∧ vi = .int .i64 i ∧ vj = .int .i64 j ∧ (∀ t x, t < i → (l.map (·.id))[t]? = some x → x < id) ∧ (∀ t x, j ≤ t → (l.map (·.id))[t]? = some x → id ≤ x) ∧ Grow w wr)
  case atStart => exact ⟨0, l.length, by omega, by omega, by omega, rfl, rfl, fun t x h => by omega, fun t x h hx => by have := (List.getElem?_eq_some_iff.1 hx).1; simp at this; omega, Grow.rfl' w⟩
  case round =>
    obtain ⟨i, j, hij, hj, rfl, rfl, rfl, hlo, hhi, hgr⟩ := hrel
    have HLO := Lib.hid hlo; have HHI := Lib.hid hhi; clear hlo hhi
    by_cases hlt : i < j
    · obtain ⟨h, hh⟩ : ∃ h, h = (i + j) / 2 := ⟨_, rfl⟩
      have hb1 : i + j ≤ 2 ^ 62 := by have := HB.out; omega
      have hh1 : i ≤ h := by omega
      have hh2 : h < j := by omega
      have hhl : h < l.length := by omega
      obtain ⟨ba, oa, ra, rfl, hSa, hba, hRa, hca⟩ := HA.out h l[h] (List.getElem?_eq_getElem hhl)
      obtain ⟨pva, hba', a0, a1, a2, hpa⟩ := hRa.at hba hgr hca
      clear hca hRa hSa hba
      have HE := Lib.hid (show (l.map (·.id))[h]? = some l[h].id by rw [List.getElem?_map, List.getElem?_eq_getElem hhl]; rfl)
      generalize l[h] = x at *
      have HPA := Lib.hid hpa
      obtain ⟨_, _, rfl⟩ := hpa.isSlice
      clear hpa
      have HLT := Lib.hid (show x.id < id → ∀ t y, t < h + 1 → (l.map (·.id))[t]? = some y → y < id from fun hx t y ht hy => by
        by_cases e : t = h
        · subst e; rw [HE.out] at hy; cases hy; exact hx
        · obtain ⟨h1, h2⟩ := List.getElem?_eq_some_iff.1 hy
          obtain ⟨h3, h4⟩ := List.getElem?_eq_some_iff.1 HE.out
          have := List.pairwise_iff_getElem.1 HS.out t h h1 h3 (by omega)
          omega)
      have HGE := Lib.hid (show id ≤ x.id → ∀ t y, h ≤ t → (l.map (·.id))[t]? = some y → id ≤ y from fun hx t y ht hy => by
        by_cases e : t = h
        · subst e; rw [HE.out] at hy; cases hy; exact hx
        · obtain ⟨h1, h2⟩ := List.getElem?_eq_some_iff.1 hy
          obtain ⟨h3, h4⟩ := List.getElem?_eq_some_iff.1 HE.out
          have := List.pairwise_iff_getElem.1 HS.out h t h3 h1 (by omega)
          omega)
      subst hh
      by_cases hx : x.id < id
      · have hc : cmp3 x.id id = -1 := by unfold cmp3; rw [if_pos hx]
        go_wp2_with (go_at_call 130; (with_reducible refine (node1 x _ id _ S HPA.out).mono ?_); rintro e w2 ⟨rfl, hw2⟩; rw [hc])
        go_roundg (j - ((i + j) / 2 + 1))
        case measure => omega
        case rel => exact ⟨(i + j) / 2 + 1, j, by omega, hj, rfl, by go_num, rfl, HLT.out hx, HHI.out, hgr.step ‹_›⟩
      · have hc : ∃ c : Int, cmp3 x.id id = c ∧ 0 ≤ c := by
          unfold cmp3; rw [if_neg hx]; split
          · exact ⟨1, rfl, by omega⟩
          · exact ⟨0, rfl, by omega⟩
        obtain ⟨c, hc, hc0⟩ := hc
        go_wp2_with (go_at_call 130; (with_reducible refine (node1 x _ id _ S HPA.out).mono ?_); rintro e w2 ⟨rfl, hw2⟩; rw [hc])
        go_roundg ((i + j) / 2 - i)
        case measure => omega
        case rel => exact ⟨i, (i + j) / 2, by omega, by omega, rfl, rfl, by go_num, HLO.out, HGE.out (by omega), hgr.step ‹_›⟩
    · obtain rfl : i = j := by omega
      by_cases hil : i < l.length
      · obtain ⟨ba, oa, ra, rfl, hSa, hba, hRa, hca⟩ := HA.out i l[i] (List.getElem?_eq_getElem hil)
        obtain ⟨pva, hba', a0, a1, a2, hpa⟩ := hRa.at hba hgr hca
        clear hca hRa hSa hba
        have HE := Lib.hid (show (l.map (·.id))[i]? = some l[i].id by rw [List.getElem?_map, List.getElem?_eq_getElem hil]; rfl)
        generalize l[i] = x at *
        have HPA := Lib.hid hpa
        obtain ⟨_, _, rfl⟩ := hpa.isSlice
        clear hpa
        have HQ := Lib.hid (show (cmp3 x.id id == 0) = true ↔ (l.map (·.id))[i]? = some id by
          rw [HE.out]; unfold cmp3
          constructor
          · intro h; split at h
            · simp at h
            · split at h
              · simp at h
              · congr 1; omega
          · intro h; simp only [Option.some.injEq] at h; rw [h]; simp)
        go_wp2_with (go_at_call 130; (with_reducible refine (node1 x _ id _ S HPA.out).mono ?_); rintro e w2 ⟨rfl, hw2⟩)
        go_ret2
        exact BsPost.mk i _ rfl (bs_end HS.out (by simp; omega) HLO.out HHI.out _ HQ.out) (hgr.step ‹_›)
      · have HQ := Lib.hid (show false = true ↔ (l.map (·.id))[i]? = some id by
          rw [List.getElem?_eq_none (by simp; omega)]; simp)
        go_wp2_with fail
        go_ret2
        exact BsPost.mk i _ rfl (bs_end HS.out (by simp; omega) HLO.out HHI.out _ HQ.out) hgr
set_option maxRecDepth 100000 in
set_option maxHeartbeats 1000000 in
theorem bsEdges (S : Nat → Prop) (v : Value) (l : List PEdge) (id : Int) (w : World) (hl : EdgesR S w v l) (hs : (l.map (·.id)).Pairwise (· < ·)) (hb : l.length ≤ 1099511627776) :
    Calls Tryz.prog 122 #[v, .int .i64 id, .func (.func 123) #[] #[]] w (BsPost (l.map (·.id)) id w) := by
  obtain ⟨aa, ca, rfl, hal, hac, hA⟩ := SlR.open hl
  clear hl
  unfold maxLen at hac
  have HA := Lib.hid hA; clear hA
  have HS := Lib.hid hs; have HB := Lib.hid hb; clear hs hb
  go_enter Tryz.func122, Tryz.ntmps122
  go_wp2
  go_loopg [9, 10] l.length (fun g vi vj wr => ∃ i j : Nat, i ≤ j ∧ j ≤ l.length ∧ g = j - i ∧ vi = .int .i64 i ∧ vj = .int .i64 j ∧ (∀ t x, t < i → (l.map (·.id))[t]? = some x → x < id) ∧ (∀ t x, j ≤ t → (l.map (·.id))[t]? = some x → id ≤ x) ∧ Grow w wr)
  case atStart => exact ⟨0, l.length, by omega, by omega, by omega, rfl, rfl, fun t x h => by omega, fun t x h hx => by have := (List.getElem?_eq_some_iff.1 hx).1; simp at this; omega, Grow.rfl' w⟩
  case round =>
    obtain ⟨i, j, hij, hj, rfl, rfl, rfl, hlo, hhi, hgr⟩ := hrel
    have HLO := Lib.hid hlo; have HHI := Lib.hid hhi; clear hlo hhi
    by_cases hlt : i < j
    · obtain ⟨h, hh⟩ : ∃ h, h = (i + j) / 2 := ⟨_, rfl⟩
      have hb1 : i + j ≤ 2 ^ 62 := by have := HB.out; omega
      have hh1 : i ≤ h := by omega
      have hh2 : h < j := by omega
      have hhl : h < l.length := by omega
      obtain ⟨ba, oa, ra, rfl, hSa, hba, hRa, hca⟩ := HA.out h l[h] (List.getElem?_eq_getElem hhl)
      obtain ⟨pva, hba', a0, a1, a2, a3, a4, hpa⟩ := hRa.at hba hgr hca
      clear hca hRa hSa hba
      have HE := Lib.hid (show (l.map (·.id))[h]? = some l[h].id by rw [List.getElem?_map, List.getElem?_eq_getElem hhl]; rfl)
      generalize l[h] = x at *
      have HPA := Lib.hid hpa
      obtain ⟨_, _, rfl⟩ := hpa.isSlice
      clear hpa
      have HLT := Lib.hid (show x.id < id → ∀ t y, t < h + 1 → (l.map (·.id))[t]? = some y → y < id from fun hx t y ht hy => by
        by_cases e : t = h
        · subst e; rw [HE.out] at hy; cases hy; exact hx
        · obtain ⟨h1, h2⟩ := List.getElem?_eq_some_iff.1 hy
          obtain ⟨h3, h4⟩ := List.getElem?_eq_some_iff.1 HE.out
          have := List.pairwise_iff_getElem.1 HS.out t h h1 h3 (by omega)
          omega)
      have HGE := Lib.hid (show id ≤ x.id → ∀ t y, h ≤ t → (l.map (·.id))[t]? = some y → id ≤ y from fun hx t y ht hy => by
        by_cases e : t = h
        · subst e; rw [HE.out] at hy; cases hy; exact hx
        · obtain ⟨h1, h2⟩ := List.getElem?_eq_some_iff.1 hy
          obtain ⟨h3, h4⟩ := List.getElem?_eq_some_iff.1 HE.out
          have := List.pairwise_iff_getElem.1 HS.out h t h3 h1 (by omega)
          omega)
      subst hh
      by_cases hx : x.id < id
      · have hc : cmp3 x.id id = -1 := by unfold cmp3; rw [if_pos hx]
        go_wp2_with (go_at_call 123; (with_reducible refine (edge1 x _ id _ S HPA.out).mono ?_); rintro e w2 ⟨rfl, hw2⟩; rw [hc])
        go_roundg (j - ((i + j) / 2 + 1))
        case measure => omega
        case rel => exact ⟨(i + j) / 2 + 1, j, by omega, hj, rfl, by go_num, rfl, HLT.out hx, HHI.out, hgr.step ‹_›⟩
      · have hc : ∃ c : Int, cmp3 x.id id = c ∧ 0 ≤ c := by
          unfold cmp3; rw [if_neg hx]; split
          · exact ⟨1, rfl, by omega⟩
          · exact ⟨0, rfl, by omega⟩
        obtain ⟨c, hc, hc0⟩ := hc
        go_wp2_with (go_at_call 123; (with_reducible refine (edge1 x _ id _ S HPA.out).mono ?_); rintro e w2 ⟨rfl, hw2⟩; rw [hc])
        go_roundg ((i + j) / 2 - i)
        case measure => omega
        case rel => exact ⟨i, (i + j) / 2, by omega, by omega, rfl, rfl, by go_num, HLO.out, HGE.out (by omega), hgr.step ‹_›⟩
    · obtain rfl : i = j := by omega
      by_cases hil : i < l.length
      · obtain ⟨ba, oa, ra, rfl, hSa, hba, hRa, hca⟩ := HA.out i l[i] (List.getElem?_eq_getElem hil)
        obtain ⟨pva, hba', a0, a1, a2, a3, a4, hpa⟩ := hRa.at hba hgr hca
        clear hca hRa hSa hba
        have HE := Lib.hid (show (l.map (·.id))[i]? = some l[i].id by rw [List.getElem?_map, List.getElem?_eq_getElem hil]; rfl)
        generalize l[i] = x at *
        have HPA := Lib.hid hpa
        obtain ⟨_, _, rfl⟩ := hpa.isSlice
        clear hpa
        have HQ := Lib.hid (show (cmp3 x.id id == 0) = true ↔ (l.map (·.id))[i]? = some id by
          rw [HE.out]; unfold cmp3
          constructor
          · intro h; split at h
            · simp at h
            · split at h
              · simp at h
              · congr 1; omega
          · intro h; simp only [Option.some.injEq] at h; rw [h]; simp)
        go_wp2_with (go_at_call 123; (with_reducible refine (edge1 x _ id _ S HPA.out).mono ?_); rintro e w2 ⟨rfl, hw2⟩)
        go_ret2
        exact BsPost.mk i _ rfl (bs_end HS.out (by simp; omega) HLO.out HHI.out _ HQ.out) (hgr.step ‹_›)
      · have HQ := Lib.hid (show false = true ↔ (l.map (·.id))[i]? = some id by
          rw [List.getElem?_eq_none (by simp; omega)]; simp)
        go_wp2_with fail
        go_ret2
        exact BsPost.mk i _ rfl (bs_end HS.out (by simp; omega) HLO.out HHI.out _ HQ.out) hgr
end Go.Hg

namespace Go.Hg
open Go.RowKit Go.Proofs

def LowC (c : Nat) : Prop := 97 ≤ c ∧ c ≤ 122
def RestC (c : Nat) : Prop := (97 ≤ c ∧ c ≤ 122) ∨ (48 ≤ c ∧ c ≤ 57) ∨ c = 95
instance (c : Nat) : Decidable (LowC c) := by unfold LowC; infer_instance
instance (c : Nat) : Decidable (RestC c) := by unfold RestC; infer_instance
def NameOk (s : ByteArray) : Prop := ∃ h : 0 < s.size, s.size ≤ 16 ∧ LowC s[0].toNat ∧ ∀ i, (h : i < s.size) → RestC s[i].toNat
instance (s : ByteArray) : Decidable (NameOk s) := by unfold NameOk; infer_instance
def GoodV (v : PVal) : Prop := (v.kind = 1 ∧ (v.n = 0 ∨ v.n = 1) ∧ v.s = ByteArray.empty) ∨ (v.kind = 2 ∧ v.s = ByteArray.empty) ∨ (v.kind = 3 ∧ v.n = 0 ∧ v.s.size ≤ 1024)
instance (v : PVal) : Decidable (GoodV v) := by unfold GoodV; infer_instance
def BlankV (v : PVal) : Prop := v.kind = 0 ∧ v.n = 0 ∧ v.s = ByteArray.empty
instance (v : PVal) : Decidable (BlankV v) := by unfold BlankV; infer_instance

theorem u8_lt (c : UInt8) : c.toNat < 256 := c.toNat_lt

set_option maxRecDepth 100000 in
set_option maxHeartbeats 1000000 in
theorem valName (s : ByteArray) (w : World) : Calls Tryz.prog 42 #[.string s] w fun e w' => e = .returned (.bool (decide (NameOk s))) ∧ w' = w := by
  by_cases h0 : s.size = 0
  · have HN := Lib.hid (show ¬ NameOk s from fun ⟨h, _⟩ => by omega)
    go_enter Tryz.func42, Tryz.ntmps42
    go_wp2
    go_ret
    exact ⟨by rw [decide_eq_false HN.out]; rfl, rfl⟩
  · have h0' : 0 < s.size := by omega
    have hs0 : s.toList.isEmpty = false := by
      rw [ByteArray.toList_eq]
      cases h : s.data.toList with
      | nil => have : s.size = 0 := by show s.data.size = 0; rw [← Array.length_toList, h]; rfl
               omega
      | cons => rfl
    clear h0
    by_cases h16 : s.size ≤ 16
    · have hb := u8_lt s[0]
      by_cases hl : LowC s[0].toNat
      · have hl' := hl
        unfold LowC at hl'
        have hx : NameOk s ↔ ∀ i, (h : i < s.size) → RestC s[i].toNat := ⟨fun ⟨_, _, _, h⟩ => h, fun h => ⟨h0', h16, hl, h⟩⟩
        have HX := Lib.hid hx; clear hx hl
        go_enter Tryz.func42, Tryz.ntmps42
        go_wp2
        go_loopg [25] s.size (fun g i wr => ∃ k : Nat, k ≤ s.size ∧ g = s.size - k ∧ i = .int .i64 k ∧ (∀ i, (h : i < s.size) → i < k → RestC s[i].toNat) ∧ w = wr)
        case atStart => exact ⟨0, by omega, by omega, rfl, fun i _ h => by omega, rfl⟩
        case round =>
          obtain ⟨k, hk, rfl, rfl, hall, rfl⟩ := hrel
          have HA := Lib.hid hall; clear hall
          by_cases hlt : k < s.size
          · have HK := Lib.hid (show ¬ RestC s[k].toNat → ¬ NameOk s from fun h hn => h ((HX.out.1 hn) k hlt))
            have HK2 := Lib.hid (show RestC s[k].toNat → ∀ i, (h : i < s.size) → i < k + 1 → RestC s[i].toNat from fun h i hi hik => by
              by_cases e : i = k
              · subst e; exact h
              · exact HA.out i hi (by omega))
            have hbk := u8_lt s[k]
            clear hl' hb
            by_cases hr : RestC s[k].toNat
            · have HR := Lib.hid (HK2.out hr)
              unfold RestC at hr
              clear HK HK2
              go_wp2
              all_goals
                (try simp only [bne_iff_ne, bne_eq_false_iff_eq, ne_eq] at *)
                first
                  | (exfalso; omega)
                  | (go_roundg (s.size - (k + 1))
                     case measure => omega
                     case rel => exact ⟨k + 1, by omega, rfl, by go_num, HR.out, rfl⟩)
            · have HR := Lib.hid (HK.out hr)
              unfold RestC at hr
              clear HK HK2
              go_wp2
              all_goals
                (try simp only [bne_iff_ne, bne_eq_false_iff_eq, ne_eq] at *)
                first
                  | (exfalso; omega)
                  | (go_ret
                     exact ⟨by rw [decide_eq_false HR.out]; rfl, rfl⟩)
          · go_wp2
            go_ret
            exact ⟨by rw [decide_eq_true (HX.out.2 fun i h => HA.out i h (by omega))]; rfl, rfl⟩
      · have HN := Lib.hid (show ¬ NameOk s from fun ⟨_, _, h, _⟩ => hl h)
        unfold LowC at hl
        go_enter Tryz.func42, Tryz.ntmps42
        go_wp2
        all_goals first
          | (go_ret
             exact ⟨by rw [decide_eq_false HN.out]; rfl, rfl⟩)
          | (exfalso; omega)
    · have HN := Lib.hid (show ¬ NameOk s from fun ⟨_, h, _⟩ => h16 h)
      go_enter Tryz.func42, Tryz.ntmps42
      go_wp2
      go_ret
      exact ⟨by rw [decide_eq_false HN.out]; rfl, rfl⟩

end Go.Hg

namespace Go.Hg
section
variable {P : Program} (W : World) (r : Nat) (hr : W.heap.size = r) {mty kt et : TypeId} (hm : P.underlying mty = some (.map kt et)) (hk : P.underlying kt = some (.int .i64)) (es : Array MapEntry) (c : Nat) (k : Int)
include hr hm hk
theorem run_ins (val : Value) (hf : Instr.findNow (.int .i64) (.int .i64 k) es.toList 0 = some none) :
    (Instr.mapUpdate mty (.map (some r)) (.int .i64 k) val).run P (W.alloc (.map es c)) = .ok () (W.alloc (.map (es.push { key := .int .i64 k, val := val, born := c }) (c + 1))) := by
  subst hr
  have hb : (W.alloc (.map es c)).heap[W.heap.size]? = some (.map es c) := heap_alloc_new W _
  have hc : (Instr.checkKey false 10000 kt (.int .i64 k)).run P (W.alloc (.map es c)) = .ok () (W.alloc (.map es c)) := MapKept.run_checkKey (k := .int .i64 k) hk (by simp [MapKept.IsKey]) false 9999
  have e : ({ (W.alloc (.map es c)) with heap := (W.alloc (.map es c)).heap.setIfInBounds W.heap.size (.map (es.push { key := .int .i64 k, val := val, born := c }) (c + 1)) } : World) = W.alloc (.map (es.push { key := .int .i64 k, val := val, born := c }) (c + 1)) := by
    have e2 : (W.heap.push (.map es c)).setIfInBounds W.heap.size (.map (es.push { key := .int .i64 k, val := val, born := c }) (c + 1)) = W.heap.push (.map (es.push { key := .int .i64 k, val := val, born := c }) (c + 1)) := by
      apply Array.ext'
      simp
    simp only [World.alloc, e2]
  rw [← e]
  simp [Instr.mapUpdate, run_underlying hm, MapKept.run_getObj_map hb, hc, MapKept.run_findKey hk hf, MapKept.run_setObj_map _ hb, Result.andThen]
theorem run_look_hit (i : Nat) (v : Value) (hf : Instr.findNow (.int .i64) (.int .i64 k) es.toList 0 = some (some (i, v))) :
    (Instr.lookup mty (.map (some r)) (.int .i64 k) true).run P (W.alloc (.map es c)) = .ok (.tuple #[v, .bool true]) (W.alloc (.map es c)) := by
  subst hr
  have hb : (W.alloc (.map es c)).heap[W.heap.size]? = some (.map es c) := heap_alloc_new W _
  have hc : (Instr.checkKey es.isEmpty 10000 kt (.int .i64 k)).run P (W.alloc (.map es c)) = .ok () (W.alloc (.map es c)) := MapKept.run_checkKey (k := .int .i64 k) hk (by simp [MapKept.IsKey]) es.isEmpty 9999
  have hf' := MapKept.run_findKey (P := P) (w := W.alloc (.map es c)) hk hf
  simp [Instr.lookup, run_underlying hm, MapKept.run_getObj_map hb, Result.andThen]
  rw [hc]
  simp [hf']
theorem run_look_miss (z : Value) (hz : ∀ w, (zeroValue et).run P w = .ok z w) (hf : Instr.findNow (.int .i64) (.int .i64 k) es.toList 0 = some none) :
    (Instr.lookup mty (.map (some r)) (.int .i64 k) true).run P (W.alloc (.map es c)) = .ok (.tuple #[z, .bool false]) (W.alloc (.map es c)) := by
  subst hr
  have hb : (W.alloc (.map es c)).heap[W.heap.size]? = some (.map es c) := heap_alloc_new W _
  have hc : (Instr.checkKey es.isEmpty 10000 kt (.int .i64 k)).run P (W.alloc (.map es c)) = .ok () (W.alloc (.map es c)) := MapKept.run_checkKey (k := .int .i64 k) hk (by simp [MapKept.IsKey]) es.isEmpty 9999
  have hf' := MapKept.run_findKey (P := P) (w := W.alloc (.map es c)) hk hf
  simp [Instr.lookup, run_underlying hm, MapKept.run_getObj_map hb, Result.andThen]
  rw [hc]
  simp [hf', hz]
end
end Go.Hg

namespace Go.Hg
open Go.RowKit Go.Proofs

theorem isEmpty_iff (s : ByteArray) : s.toList.isEmpty = decide (s = ByteArray.empty) := by
  rw [ByteArray.toList_eq]
  by_cases h : s = ByteArray.empty
  · subst h; rfl
  · rw [decide_eq_false h]
    cases h2 : s.data.toList with
    | nil => exact absurd (ByteArray.ext (Array.toList_inj.1 (by rw [h2]; rfl))) h
    | cons => rfl
attribute [go_sem] isEmpty_iff

set_option maxHeartbeats 400000 in
theorem ownBool (k n : Int) (s : ByteArray) (w : World) :
    Calls Tryz.prog 133 #[.agg #[.int .i64 k, .int .i64 n, .string s]] w fun e w' => e = .returned (.bool (decide ((n = 0 ∨ n = 1) ∧ s = ByteArray.empty))) ∧ Grow w w' := by
  have hg : ∀ o1, Grow w (w.alloc o1) := fun o1 => (Grow.rfl' w).allocd o1
  go_enter Tryz.func133, Tryz.ntmps133
  go_wp2
  all_goals
    go_ret
    refine ⟨?_, hg _⟩
    simp [*]
set_option maxHeartbeats 400000 in
theorem ownInt (k n : Int) (s : ByteArray) (w : World) :
    Calls Tryz.prog 134 #[.agg #[.int .i64 k, .int .i64 n, .string s]] w fun e w' => e = .returned (.bool (decide (s = ByteArray.empty))) ∧ Grow w w' := by
  have hg : ∀ o1, Grow w (w.alloc o1) := fun o1 => (Grow.rfl' w).allocd o1
  go_enter Tryz.func134, Tryz.ntmps134
  go_wp2
  all_goals
    go_ret
    refine ⟨?_, hg _⟩
    simp [*]
set_option maxHeartbeats 400000 in
theorem ownText (k n : Int) (s : ByteArray) (w : World) :
    Calls Tryz.prog 135 #[.agg #[.int .i64 k, .int .i64 n, .string s]] w fun e w' => e = .returned (.bool (decide (n = 0 ∧ s.size ≤ 1024))) ∧ Grow w w' := by
  have hg : ∀ o1, Grow w (w.alloc o1) := fun o1 => (Grow.rfl' w).allocd o1
  go_enter Tryz.func135, Tryz.ntmps135
  go_wp2
  all_goals
    go_ret
    refine ⟨?_, hg _⟩
    simp [*]
    try omega
theorem zeroOwn (w : World) : (zeroValue 180).run Tryz.prog w = .ok .nilFunc w := by kernel_rfl
set_option maxRecDepth 100000 in
set_option maxHeartbeats 1000000 in
theorem valGood (v : PVal) (w : World) :
    Calls Tryz.prog 117 #[.agg #[.int .i64 v.kind, .int .i64 v.n, .string v.s]] w fun e w' => e = .returned (.bool (decide (GoodV v))) ∧ Grow w w' := by
  obtain ⟨k, n, s⟩ := v
  have hsz : (w.alloc (.cells #[.int .i64 k, .int .i64 n, .string s] 33)).heap.size = w.heap.size + 1 := by simp
  have hT : Tryz.prog.underlying 183 = some (.map 3 180) := Tryz.underlying183
  have hI : Tryz.prog.underlying 3 = some (.int .i64) := Tryz.underlying3
  have i1 := run_ins _ _ hsz hT hI #[] 0 1 (.func (.func 133) #[] #[]) rfl
  have i2 := run_ins _ _ hsz hT hI #[{ key := .int .i64 1, val := .func (.func 133) #[] #[], born := 0 }] 1 2 (.func (.func 134) #[] #[]) rfl
  have i3 := run_ins _ _ hsz hT hI #[{ key := .int .i64 1, val := .func (.func 133) #[] #[], born := 0 }, { key := .int .i64 2, val := .func (.func 134) #[] #[], born := 1 }] 2 3 (.func (.func 135) #[] #[]) rfl
  simp only [List.push_toArray, List.cons_append, List.nil_append, Nat.reduceAdd] at i1 i2 i3
  have hmm := @run_makeMap Tryz.prog
  have hg : ∀ o1 o2, Grow w ((w.alloc o1).alloc o2) := fun o1 o2 => ((Grow.rfl' w).allocd o1).allocd o2
  have HG := Lib.hid hg; clear hg
  by_cases h1 : k = 1
  · subst h1
    have lk := run_look_hit _ _ hsz hT hI #[{ key := .int .i64 1, val := .func (.func 133) #[] #[], born := 0 }, { key := .int .i64 2, val := .func (.func 134) #[] #[], born := 1 }, { key := .int .i64 3, val := .func (.func 135) #[] #[], born := 2 }] 3 1 0 _ rfl
    clear hsz
    go_enter Tryz.func117, Tryz.ntmps117
    go_wp2_with (go_at_call 133; (with_reducible refine (ownBool _ _ _ _).mono ?_); rintro e w2 ⟨rfl, hw2⟩)
    go_ret
    exact ⟨by simp [GoodV], (HG.out _ _).step hw2⟩
  · by_cases h2 : k = 2
    · subst h2
      have lk := run_look_hit _ _ hsz hT hI #[{ key := .int .i64 1, val := .func (.func 133) #[] #[], born := 0 }, { key := .int .i64 2, val := .func (.func 134) #[] #[], born := 1 }, { key := .int .i64 3, val := .func (.func 135) #[] #[], born := 2 }] 3 2 1 _ rfl
      clear hsz h1
      go_enter Tryz.func117, Tryz.ntmps117
      go_wp2_with (go_at_call 134; (with_reducible refine (ownInt _ _ _ _).mono ?_); rintro e w2 ⟨rfl, hw2⟩)
      go_ret
      exact ⟨by simp [GoodV], (HG.out _ _).step hw2⟩
    · by_cases h3 : k = 3
      · subst h3
        have lk := run_look_hit _ _ hsz hT hI #[{ key := .int .i64 1, val := .func (.func 133) #[] #[], born := 0 }, { key := .int .i64 2, val := .func (.func 134) #[] #[], born := 1 }, { key := .int .i64 3, val := .func (.func 135) #[] #[], born := 2 }] 3 3 2 _ rfl
        clear hsz h1 h2
        go_enter Tryz.func117, Tryz.ntmps117
        go_wp2_with (go_at_call 135; (with_reducible refine (ownText _ _ _ _).mono ?_); rintro e w2 ⟨rfl, hw2⟩)
        go_ret
        exact ⟨by simp [GoodV], (HG.out _ _).step hw2⟩
      · have lk := run_look_miss _ _ hsz hT hI #[{ key := .int .i64 1, val := .func (.func 133) #[] #[], born := 0 }, { key := .int .i64 2, val := .func (.func 134) #[] #[], born := 1 }, { key := .int .i64 3, val := .func (.func 135) #[] #[], born := 2 }] 3 k .nilFunc zeroOwn (by simp [Instr.findNow, Instr.sameNow, beq_eq_false_iff_ne.2 h1, beq_eq_false_iff_ne.2 h2, beq_eq_false_iff_ne.2 h3])
        have HN := Lib.hid (show ¬ GoodV ⟨k, n, s⟩ by simp [GoodV, h1, h2, h3])
        clear hsz h1 h2 h3
        go_enter Tryz.func117, Tryz.ntmps117
        go_wp2
        go_ret
        exact ⟨by rw [decide_eq_false HN.out]; rfl, HG.out _ _⟩
end Go.Hg

namespace Go.Hg
open Go.RowKit Go.Proofs

def ltS (a b : ByteArray) : Bool := Op.bytesLess a.toList b.toList
theorem bytesLess_tri : ∀ a b : List UInt8, (Op.bytesLess a b || decide (a = b)) = !(Op.bytesLess b a)
  | [], [] => by simp [Op.bytesLess]
  | [], b :: bs => by simp [Op.bytesLess]
  | a :: l, [] => by simp [Op.bytesLess]
  | a :: l, b :: bs => by
    have ih := bytesLess_tri l bs
    unfold Op.bytesLess
    by_cases h1 : a < b
    · have h2 : ¬ b < a := by
        rw [UInt8.lt_iff_toNat_lt] at *; omega
      have h3 : ¬ b = a := fun e => by subst e; exact h2 h1
      simp [h1, h2, h3]
    · by_cases h2 : b < a
      · have h3 : ¬ a = b := fun e => by subst e; exact h1 h2
        simp [h1, h2, h3]
      · have h3 : a = b := by
          rw [UInt8.lt_iff_toNat_lt] at *
          exact UInt8.toNat_inj.1 (by omega)
        subst h3
        simp [h1, ih]
theorem ltS_tri (a b : ByteArray) : (ltS a b || decide (a = b)) = !(ltS b a) := by
  have h := bytesLess_tri a.toList b.toList
  have e : decide (a = b) = decide (a.toList = b.toList) := by
    rw [← ba_beq]
    by_cases h : a.toList = b.toList
    · simp [h]
    · rw [decide_eq_false h]; exact beq_eq_false_iff_ne.2 h
  unfold ltS
  rw [e]; exact h

def PropOkAt (l : List PProp) (i : Nat) : Prop := ∀ p, l[i]? = some p → NameOk p.name ∧ GoodV p.v ∧ (0 < i → ∀ q, l[i - 1]? = some q → ltS q.name p.name = true)
def PropsOk (l : List PProp) : Prop := l.length ≤ 8 ∧ ∀ i, i < l.length → PropOkAt l i
open Classical in
noncomputable def propsB (l : List PProp) : Bool := decide (PropsOk l)
theorem propsB_true {l : List PProp} (h : PropsOk l) : propsB l = true := by unfold propsB; simp [h]
theorem propsB_false {l : List PProp} (h : ¬ PropsOk l) : propsB l = false := by unfold propsB; simp [h]
theorem propsB_iff {l : List PProp} : propsB l = true ↔ PropsOk l := by unfold propsB; simp

set_option maxRecDepth 100000 in
set_option maxHeartbeats 2000000 in
theorem valPropsOk (S : Nat → Prop) (v : Value) (l : List PProp) (w : World) (hl : PropsR S w v l) :
    Calls Tryz.prog 139 #[v] w fun e w' => e = .returned (.bool (propsB l)) ∧ Grow w w' := by
  obtain ⟨aa, ca, rfl, hal, hac, hA⟩ := SlR.open hl
  clear hl
  unfold maxLen at hac
  have HA := Lib.hid hA; clear hA
  by_cases h8 : l.length ≤ 8
  · have HX := Lib.hid (show (∀ i, i < l.length → PropOkAt l i) → propsB l = true from fun h => propsB_true ⟨h8, h⟩)
    have HY := Lib.hid (show ∀ i, i < l.length → ¬ PropOkAt l i → propsB l = false from fun i hi h => propsB_false fun hp => h (hp.2 i hi))
    go_enter Tryz.func139, Tryz.ntmps139
    go_wp2
    go_loopg [10] l.length (fun g i wr => ∃ k : Nat, k ≤ l.length ∧ g = l.length - k ∧ i = .int .i64 k ∧ (∀ i, i < k → PropOkAt l i) ∧ Grow w wr)
    case atStart => exact ⟨0, by omega, by omega, rfl, fun i h => by omega, Grow.rfl' w⟩
    case round =>
      obtain ⟨k, hk, rfl, rfl, hall, hgr⟩ := hrel
      have HALL := Lib.hid hall; clear hall
      by_cases hlt : k < l.length
      · obtain ⟨ba, oa, ra, rfl, hSa, hba, hRa, hca⟩ := HA.out k l[k] (List.getElem?_eq_getElem hlt)
        obtain ⟨hba', a0, a1, a2, a3⟩ := hRa.at hba hgr hca
        clear hca hRa hSa hba
        have HE := Lib.hid (show l[k]? = some l[k] from List.getElem?_eq_getElem hlt)
        generalize l[k] = p at *
        have hba1 : ba < wr.heap.size + 1 := by omega
        have hgr2 : Grow w (wr.alloc (.cells #[.string p.name, .int .i64 p.v.kind, .int .i64 p.v.n, .string p.v.s] 105)) := hgr.allocd _
        have HNX := Lib.hid (show PropOkAt l k → ∀ i, i < k + 1 → PropOkAt l i from fun h i hi => by
          by_cases e : i = k
          · subst e; exact h
          · exact HALL.out i (by omega))
        by_cases h0 : 0 < k
        · obtain ⟨bb, ob, rb, hob, hSb, hbb, hRb, hcb⟩ := HA.out (k - 1) l[k - 1] (List.getElem?_eq_getElem (by omega))
          cases hob
          obtain ⟨-, b0, -, -, -⟩ := hRb.at hbb hgr hcb
          have eo : oa + (k - 1) * 4 = oa + k * 4 - 4 := by omega
          clear hcb hRb hSb hbb
          have HQ := Lib.hid (show l[k - 1]? = some l[k - 1] from List.getElem?_eq_getElem (by omega))
          generalize l[k - 1] = q at *
          have HK := Lib.hid (show PropOkAt l k ↔ (NameOk p.name ∧ GoodV p.v ∧ ltS q.name p.name = true) from
            ⟨fun h => by obtain ⟨h1, h2, h3⟩ := h p HE.out; exact ⟨h1, h2, h3 h0 q HQ.out⟩, fun ⟨h1, h2, h3⟩ p' hp' => by
              rw [HE.out] at hp'; cases hp'
              exact ⟨h1, h2, fun _ q' hq' => by rw [HQ.out] at hq'; cases hq'; exact h3⟩⟩)
          clear HE HQ eo
          have htri := ltS_tri p.name q.name
          unfold ltS at htri
          cases hn : decide (NameOk p.name) <;> cases hv : decide (GoodV p.v) <;> cases hs : Op.bytesLess q.name.toList p.name.toList
          all_goals rw [hs] at htri
          all_goals
            go_wp2_with fail
            refine wp_region_grow (by kernel_rfl) (by kernel_rfl) ?_
            repeat (go_big_quiet_step (first | exact calls_gr ((valName p.name _).mono fun e w' ⟨he, hw⟩ => ⟨he, by subst hw; exact Grow.rfl' _⟩) | exact calls_gr (valGood p.v _)))
            refine wpQuiet_nil ?_
            intro w2 hw2
            go_wp2
          rotate_right 1
          · go_roundg (l.length - (k + 1))
            case measure => omega
            case rel => exact ⟨k + 1, by omega, rfl, by go_num, HNX.out (HK.out.2 ⟨of_decide_eq_true hn, of_decide_eq_true hv, hs⟩), hgr2.step hw2⟩
          all_goals
            go_ret
            refine ⟨by rw [HY.out k hlt (fun h => by obtain ⟨h1, h2, h3⟩ := HK.out.1 h; first | exact of_decide_eq_false hn h1 | exact of_decide_eq_false hv h2 | (unfold ltS at h3; rw [hs] at h3; cases h3))]; rfl, hgr2.step hw2⟩
        · have HK := Lib.hid (show PropOkAt l k ↔ (NameOk p.name ∧ GoodV p.v) from
            ⟨fun h => by obtain ⟨h1, h2, h3⟩ := h p HE.out; exact ⟨h1, h2⟩, fun ⟨h1, h2⟩ p' hp' => by
              rw [HE.out] at hp'; cases hp'
              exact ⟨h1, h2, fun h => by omega⟩⟩)
          have hd0 : decide ((0 : Int) < (k : Int)) = false := by simp; omega
          clear HE
          cases hn : decide (NameOk p.name) <;> cases hv : decide (GoodV p.v)
          all_goals
            go_wp2_with fail
            refine wp_region_grow (by kernel_rfl) (by kernel_rfl) ?_
            repeat (go_big_quiet_step (first | exact calls_gr ((valName p.name _).mono fun e w' ⟨he, hw⟩ => ⟨he, by subst hw; exact Grow.rfl' _⟩) | exact calls_gr (valGood p.v _)))
            refine wpQuiet_nil ?_
            intro w2 hw2
            go_wp2
          rotate_right 1
          · go_roundg (l.length - (k + 1))
            case measure => omega
            case rel => exact ⟨k + 1, by omega, rfl, by go_num, HNX.out (HK.out.2 ⟨of_decide_eq_true hn, of_decide_eq_true hv⟩), hgr2.step hw2⟩
          all_goals
            go_ret
            refine ⟨by rw [HY.out k hlt (fun h => by obtain ⟨h1, h2⟩ := HK.out.1 h; first | exact of_decide_eq_false hn h1 | exact of_decide_eq_false hv h2)]; rfl, hgr2.step hw2⟩
      · go_wp2
        go_ret
        exact ⟨by rw [HX.out (fun i hi => HALL.out i (by omega))]; rfl, hgr⟩
  · have HX := Lib.hid (show propsB l = false from propsB_false fun h => h8 h.1)
    have h1 : 8 < l.length := by omega
    go_enter Tryz.func139, Tryz.ntmps139
    go_wp2
    go_ret
    exact ⟨by rw [HX.out]; rfl, Grow.rfl' w⟩
end Go.Hg

namespace Go.Hg
open Go.RowKit Go.Proofs

structure PGraph where
  nodes : List PNode
  edges : List PEdge
  next : Int
deriving DecidableEq

def GraphOk (T : TypeId) (S : Nat → Prop) (w : World) (B : Nat) (G : PGraph) : Prop :=
  ∃ (nv ev : Value) (R : Nat → Prop) (on oe : Option Nat), w.heap[B]? = some (.cells #[nv, ev, .int .i64 G.next] T (0, 0)) ∧ S B ∧ ¬ R B ∧ (∀ b, R b → S b ∧ b < w.heap.size) ∧
    (∀ g, on = some g → S g ∧ ¬ R g) ∧ (∀ g, oe = some g → S g ∧ ¬ R g) ∧ OwnL w 89 3 (RNode R w) nv G.nodes on ∧ OwnL w 91 5 (REdge R w) ev G.edges oe

theorem OwnL.lt {α : Type} {w : World} {E : TypeId} {sz : Nat} {R : α → List Value → Prop} {v : Value} {l : List α} {ob : Option Nat} (h : OwnL w E sz R v l ob) : ∀ g, ob = some g → g < w.heap.size := by
  obtain ⟨_, _, _, h⟩ := h; exact h.lt
theorem OwnL.blkE {α : Type} {w : World} {E : TypeId} {sz : Nat} {R : α → List Value → Prop} {v : Value} {l : List α} {ob : Option Nat} (h : OwnL w E sz R v l ob) : ∀ g, ob = some g → ∃ cs, w.heap[g]? = some (.cells cs E (0, 0)) := by
  intro g hg
  obtain ⟨_, _, _, _, h⟩ := h
  rcases h with ⟨_, _, _, h, _⟩ | ⟨g', cap, cur, _, h, hh, _⟩
  · rw [h] at hg; cases hg
  · rw [h] at hg; cases hg; exact ⟨cur, hh⟩
theorem GraphOk.keep {T : TypeId} {S F : Nat → Prop} {w w' : World} {B : Nat} {G : PGraph} (h : GraphOk T S w B G) (g : Mod F w w') (hd : ∀ b, S b → ¬ F b) : GraphOk T S w' B G := by
  obtain ⟨nv, ev, R, on, oe, h1, h2, h3, h4, h5, h6, h7, h8⟩ := h
  refine ⟨nv, ev, R, on, oe, (g.block B (blk_lt h1) (hd B h2)).trans h1, h2, h3, fun b hb => ⟨(h4 b hb).1, Nat.lt_of_lt_of_le (h4 b hb).2 g.size⟩, h5, h6, ?_, ?_⟩
  · exact h7.keep (fun k hk => g.block k (h7.lt k hk) (hd k (h5 k hk).1)) (fun x r _ hR => hR.mod g (fun b hb => hd b (h4 b hb).1))
  · exact h8.keep (fun k hk => g.block k (h8.lt k hk) (hd k (h6 k hk).1)) (fun x r _ hR => hR.mod g (fun b hb => hd b (h4 b hb).1))
theorem GraphOk.grow {T : TypeId} {S : Nat → Prop} {w w' : World} {B : Nat} {G : PGraph} (h : GraphOk T S w B G) (g : Grow w w') : GraphOk T S w' B G := h.keep (Mod.of_grow (F := fun _ => False) g) (fun _ _ => id)
theorem GraphOk.cut {T : TypeId} {S : Nat → Prop} {w : World} {B : Nat} {G : PGraph} (h : GraphOk T S w B G) : GraphOk T (fun b => S b ∧ b < w.heap.size) w B G := by
  obtain ⟨nv, ev, R, on, oe, h1, h2, h3, h4, h5, h6, h7, h8⟩ := h
  exact ⟨nv, ev, R, on, oe, h1, ⟨h2, blk_lt h1⟩, h3, fun b hb => ⟨h4 b hb, (h4 b hb).2⟩, fun g hg => ⟨⟨(h5 g hg).1, h7.lt g hg⟩, (h5 g hg).2⟩, fun g hg => ⟨⟨(h6 g hg).1, h8.lt g hg⟩, (h6 g hg).2⟩, h7, h8⟩
theorem GraphOk.sub {T : TypeId} {S S' : Nat → Prop} {w : World} {B : Nat} {G : PGraph} (h : GraphOk T S w B G) (hS : ∀ b, S b → S' b) : GraphOk T S' w B G := by
  obtain ⟨nv, ev, R, on, oe, h1, h2, h3, h4, h5, h6, h7, h8⟩ := h
  exact ⟨nv, ev, R, on, oe, h1, hS _ h2, h3, fun b hb => ⟨hS _ (h4 b hb).1, (h4 b hb).2⟩, fun g hg => ⟨hS _ (h5 g hg).1, (h5 g hg).2⟩, fun g hg => ⟨hS _ (h6 g hg).1, (h6 g hg).2⟩, h7, h8⟩
theorem GraphOk.read {T : TypeId} {S : Nat → Prop} {w : World} {B : Nat} {G : PGraph} (h : GraphOk T S w B G) :
    ∃ na nc ea ec, B < w.heap.size ∧ w.cell? ⟨B, 0, none⟩ = some (.slice na G.nodes.length nc) ∧ w.cell? ⟨B, 1, none⟩ = some (.slice ea G.edges.length ec) ∧ w.cell? ⟨B, 2, none⟩ = some (.int .i64 G.next) ∧
      NodesR S w (.slice na G.nodes.length nc) G.nodes ∧ EdgesR S w (.slice ea G.edges.length ec) G.edges := by
  obtain ⟨nv, ev, R, on, oe, h1, h2, h3, h4, h5, h6, h7, h8⟩ := h
  have hn : NodesR S w nv G.nodes := SlR.sub (h7.toSl (S := S) (fun g hg => (h5 g hg).1)) (fun _ h => h) (fun x r _ hR => hR.sub (fun b hb => (h4 b hb).1))
  have he : EdgesR S w ev G.edges := SlR.sub (h8.toSl (S := S) (fun g hg => (h6 g hg).1)) (fun _ h => h) (fun x r _ hR => hR.sub (fun b hb => (h4 b hb).1))
  obtain ⟨na, nc, rfl, _⟩ := SlR.open hn
  obtain ⟨ea, ec, rfl, _⟩ := SlR.open he
  exact ⟨na, nc, ea, ec, blk_lt h1, by rw [blk_cell h1]; rfl, by rw [blk_cell h1]; rfl, by rw [blk_cell h1]; rfl, hn, he⟩

structure GInv (G : PGraph) : Prop where
  next0 : 1 ≤ G.next
  next1 : G.next ≤ 4611686018427387904
  items : G.nodes.length + G.edges.length ≤ 1024
  nodes : (G.nodes.map (·.id)).Pairwise (· < ·)
  edges : (G.edges.map (·.id)).Pairwise (· < ·)
  nodesB : ∀ x ∈ G.nodes, 1 ≤ x.id ∧ x.id < G.next ∧ x.props.length ≤ 8
  edgesB : ∀ x ∈ G.edges, 1 ≤ x.id ∧ x.id < G.next ∧ x.props.length ≤ 8

def PGraph.empty : PGraph := ⟨[], [], 1⟩
theorem GInv.empty : GInv PGraph.empty := ⟨by decide, by decide, by decide, by simp [PGraph.empty], by simp [PGraph.empty], by simp [PGraph.empty], by simp [PGraph.empty]⟩
def fullG (G : PGraph) : Bool := decide (1024 ≤ G.nodes.length + G.edges.length) || decide (4611686018427387903 < G.next)

set_option maxHeartbeats 400000 in
theorem graphNew (w : World) : Calls Tryz.prog 20 #[] w fun e w' => ∃ B, e = .returned (.pointer (some ⟨B, 0, none⟩)) ∧ GraphOk 101 (fun b => w.heap.size ≤ b) w' B PGraph.empty ∧ Grow w w' := by
  have hg : ∀ o, Grow w (w.alloc o) := fun o => (Grow.rfl' w).allocd o
  have HB := Lib.hid (heap_alloc_new w (.cells #[.slice none 0 0, .slice none 0 0, .int .i64 1] 101))
  have HG := Lib.hid hg; clear hg
  go_enter Tryz.func20, Tryz.ntmps20
  go_wp2
  go_ret
  exact ⟨_, rfl, ⟨_, _, fun _ => False, none, none, HB.out, Nat.le_refl _, id, fun _ h => h.elim, by simp, by simp, OwnL.nil _ _ _ _, OwnL.nil _ _ _ _⟩, HG.out _⟩
set_option maxHeartbeats 400000 in
theorem graphNext (S : Nat → Prop) (B : Nat) (G : PGraph) (w : World) (h : GraphOk 101 S w B G) :
    Calls Tryz.prog 24 #[.pointer (some ⟨B, 0, none⟩)] w fun e w' => e = .returned (.int .i64 G.next) ∧ w = w' := by
  obtain ⟨na, nc, ea, ec, hb, c0, c1, c2, -, -⟩ := h.read
  clear h
  go_enter Tryz.func24, Tryz.ntmps24
  go_wp2
  go_ret
  exact ⟨rfl, rfl⟩
set_option maxRecDepth 100000 in
set_option maxHeartbeats 1000000 in
theorem graphFull (S : Nat → Prop) (B : Nat) (G : PGraph) (w : World) (h : GraphOk 101 S w B G) (hi : G.nodes.length + G.edges.length ≤ 1024) :
    Calls Tryz.prog 108 #[.pointer (some ⟨B, 0, none⟩)] w fun e w' => e = .returned (.bool (fullG G)) ∧ Grow w w' := by
  obtain ⟨na, nc, ea, ec, hb, c0, c1, c2, -, -⟩ := h.read
  clear h
  have hw : IntKind.i64.wrap ((G.nodes.length : Int) + (G.edges.length : Int)) = (G.nodes.length : Int) + (G.edges.length : Int) := by rw [IntKind.wrap_i64]; omega
  unfold fullG
  by_cases h1 : 1024 ≤ G.nodes.length + G.edges.length
  · have h1' : decide (1024 ≤ (G.nodes.length : Int) + (G.edges.length : Int)) = true := by simp; omega
    have HX := Lib.hid (decide_eq_true h1)
    clear h1 hi
    go_enter Tryz.func108, Tryz.ntmps108
    go_wp2_with fail
    refine wp_region_grow (by kernel_rfl) (by kernel_rfl) ?_
    repeat (go_big_quiet_step (fail))
    refine wpQuiet_nil ?_
    intro w2 hw2
    go_wp2
    go_ret
    exact ⟨by rw [HX.out]; rfl, hw2⟩
  · have h1' : decide (1024 ≤ (G.nodes.length : Int) + (G.edges.length : Int)) = false := by simp; omega
    have HX := Lib.hid (decide_eq_false h1)
    clear h1 hi
    go_enter Tryz.func108, Tryz.ntmps108
    go_wp2_with fail
    refine wp_region_grow (by kernel_rfl) (by kernel_rfl) ?_
    repeat (go_big_quiet_step (fail))
    refine wpQuiet_nil ?_
    intro w2 hw2
    go_wp2
    go_ret
    exact ⟨by rw [HX.out]; rfl, hw2⟩
set_option maxHeartbeats 400000 in
theorem graphGiven (B : Nat) (nv ev : Value) (next : Int) (w : World) (h : w.heap[B]? = some (.cells #[nv, ev, .int .i64 next] 101 (0, 0))) (h0 : 1 ≤ next) (h1 : next ≤ 4611686018427387904) :
    Calls Tryz.prog 109 #[.pointer (some ⟨B, 0, none⟩)] w fun e w' => e = .returned (.int .i64 next) ∧ w'.heap[B]? = some (.cells #[nv, ev, .int .i64 (next + 1)] 101 (0, 0)) ∧ Mod (fun b => b = B) w w' := by
  have c2 : w.cell? ⟨B, 2, none⟩ = some (.int .i64 next) := by rw [blk_cell h]; rfl
  have f2 := blk_free h 2
  have HM := Lib.hid (show Mod (fun b => b = B) w (w.setCell ⟨B, 2, none⟩ (.int .i64 (next + 1))) from (Mod.rfl' (fun b => b = B) w).setd (p := ⟨B, 2, none⟩) (.inl rfl) _)
  have HH := Lib.hid (show (w.setCell ⟨B, 2, none⟩ (.int .i64 (next + 1))).heap[B]? = some (.cells #[nv, ev, .int .i64 (next + 1)] 101 (0, 0)) by
    rw [heap_setCell_same w B 2 _ 101 _ h]; rfl)
  clear h
  go_enter Tryz.func109, Tryz.ntmps109
  go_wp2
  go_ret
  refine ⟨?_, HH.out, HM.out⟩
  first | rfl | (congr 2; omega) | simp
set_option maxHeartbeats 400000 in
theorem graphNode_ (S : Nat → Prop) (B : Nat) (G : PGraph) (id : Int) (w : World) (h : GraphOk 101 S w B G) (hG : GInv G) :
    Calls Tryz.prog 104 #[.pointer (some ⟨B, 0, none⟩), .int .i64 id] w (BsPost (G.nodes.map (·.id)) id w) := by
  obtain ⟨na, nc, ea, ec, hb, c0, c1, c2, hn, -⟩ := h.read
  clear h
  have HN := Lib.hid hn; have HS := Lib.hid hG.nodes; have HI := Lib.hid hG.items; clear hn hG
  go_enter Tryz.func104, Tryz.ntmps104
  go_wp2_with fail
  refine (bsNodes S _ G.nodes id _ HN.out HS.out (by have := HI.out; omega)).mono ?_
  rintro e w2 ⟨i, b, rfl, hb, hg⟩
  have HB := Lib.hid hb; clear hb
  go_wp2
  go_ret2
  exact BsPost.mk i b rfl HB.out hg
set_option maxHeartbeats 400000 in
theorem graphEdge_ (S : Nat → Prop) (B : Nat) (G : PGraph) (id : Int) (w : World) (h : GraphOk 101 S w B G) (hG : GInv G) :
    Calls Tryz.prog 98 #[.pointer (some ⟨B, 0, none⟩), .int .i64 id] w (BsPost (G.edges.map (·.id)) id w) := by
  obtain ⟨na, nc, ea, ec, hb, c0, c1, c2, -, hn⟩ := h.read
  clear h
  have HN := Lib.hid hn; have HS := Lib.hid hG.edges; have HI := Lib.hid hG.items; clear hn hG
  go_enter Tryz.func98, Tryz.ntmps98
  go_wp2_with fail
  refine (bsEdges S _ G.edges id _ HN.out HS.out (by have := HI.out; omega)).mono ?_
  rintro e w2 ⟨i, b, rfl, hb, hg⟩
  have HB := Lib.hid hb; clear hb
  go_wp2
  go_ret2
  exact BsPost.mk i b rfl HB.out hg
end Go.Hg

namespace Go.Hg
open Go.RowKit Go.Proofs

structure PRule where
  id : Int
  kind : Int
  typ : ByteArray
  name : ByteArray
  from_ : ByteArray
  to_ : ByteArray
  n : Int
  state : Int
deriving DecidableEq
structure PIndex where
  typ : ByteArray
  name : ByteArray
deriving DecidableEq
structure PCat where
  nodes : List ByteArray
  edges : List ByteArray
  rules : List PRule
  indexes : List PIndex
  nextRule : Int
deriving DecidableEq
def RStr (s : ByteArray) (r : List Value) : Prop := r = [.string s]
def RRule (x : PRule) (r : List Value) : Prop := r = [.int .i64 x.id, .int .i64 x.kind, .string x.typ, .string x.name, .string x.from_, .string x.to_, .int .i64 x.n, .int .i64 x.state]
abbrev PRule.args (x : PRule) : Value := .agg #[.int .i64 x.id, .int .i64 x.kind, .string x.typ, .string x.name, .string x.from_, .string x.to_, .int .i64 x.n, .int .i64 x.state]
def RIndex (x : PIndex) (r : List Value) : Prop := r = [.string x.typ, .string x.name]
abbrev StrsR (S : Nat → Prop) (w : World) (v : Value) (l : List ByteArray) : Prop := SlR S w 1 RStr v l
abbrev RulesR (S : Nat → Prop) (w : World) (v : Value) (l : List PRule) : Prop := SlR S w 8 RRule v l
abbrev IndexesR (S : Nat → Prop) (w : World) (v : Value) (l : List PIndex) : Prop := SlR S w 2 RIndex v l
def CatR (S : Nat → Prop) (w : World) (nv ev rv iv : Value) (c : PCat) : Prop := StrsR S w nv c.nodes ∧ StrsR S w ev c.edges ∧ RulesR S w rv c.rules ∧ IndexesR S w iv c.indexes
abbrev PCat.arg (c : PCat) (nv ev rv iv : Value) : Value := .agg #[nv, ev, rv, iv, .int .i64 c.nextRule]
theorem SlR.growS {α : Type} {S : Nat → Prop} {w w' : World} {sz : Nat} {R : α → List Value → Prop} {v : Value} {l : List α} (h : SlR S w sz R v l) (g : Grow w w') : SlR S w' sz R v l :=
  SlR.keep h (fun _ _ hb => g.heapEq hb) g.size (fun _ _ _ hR => hR)
theorem SlR.modS {α : Type} {F S : Nat → Prop} {w w' : World} {sz : Nat} {R : α → List Value → Prop} {v : Value} {l : List α} (h : SlR S w sz R v l) (g : Mod F w w') (hd : ∀ b, S b → ¬ F b) : SlR S w' sz R v l :=
  SlR.keep h (fun b hS hb => g.block b hb (hd b hS)) g.size (fun _ _ _ hR => hR)
theorem CatR.grow {S : Nat → Prop} {w w' : World} {nv ev rv iv : Value} {c : PCat} (h : CatR S w nv ev rv iv c) (g : Grow w w') : CatR S w' nv ev rv iv c := ⟨h.1.growS g, h.2.1.growS g, h.2.2.1.growS g, h.2.2.2.growS g⟩
theorem CatR.mod {F S : Nat → Prop} {w w' : World} {nv ev rv iv : Value} {c : PCat} (h : CatR S w nv ev rv iv c) (g : Mod F w w') (hd : ∀ b, S b → ¬ F b) : CatR S w' nv ev rv iv c := ⟨h.1.modS g hd, h.2.1.modS g hd, h.2.2.1.modS g hd, h.2.2.2.modS g hd⟩
theorem CatR.slices {S : Nat → Prop} {w : World} {nv ev rv iv : Value} {c : PCat} (h : CatR S w nv ev rv iv c) :
    ∃ na nc ea ec ra rc ia ic, nv = .slice na c.nodes.length nc ∧ ev = .slice ea c.edges.length ec ∧ rv = .slice ra c.rules.length rc ∧ iv = .slice ia c.indexes.length ic := by
  obtain ⟨h1, h2, h3, h4⟩ := h
  obtain ⟨na, nc, rfl, _⟩ := SlR.open h1
  obtain ⟨ea, ec, rfl, _⟩ := SlR.open h2
  obtain ⟨ra, rc, rfl, _⟩ := SlR.open h3
  obtain ⟨ia, ic, rfl, _⟩ := SlR.open h4
  exact ⟨_, _, _, _, _, _, _, _, rfl, rfl, rfl, rfl⟩

def memS (s : ByteArray) (l : List ByteArray) : Bool := l.any fun x => decide (x = s)
theorem memS_true {s : ByteArray} {l : List ByteArray} (h : s ∈ l) : memS s l = true := List.any_eq_true.2 ⟨s, h, by simp⟩
theorem memS_false {s : ByteArray} {l : List ByteArray} (h : s ∉ l) : memS s l = false := List.any_eq_false.2 fun x hx => by simp; intro e; subst e; exact h hx

set_option maxRecDepth 100000 in
set_option maxHeartbeats 1000000 in
theorem indexStr (S : Nat → Prop) (v : Value) (l : List ByteArray) (s : ByteArray) (w : World) (hl : StrsR S w v l) :
    Calls Tryz.prog 158 #[v, .string s] w fun e w' => ∃ r : Int, e = .returned (.int .i64 r) ∧ ((r = -1 ∧ s ∉ l) ∨ (0 ≤ r ∧ s ∈ l)) ∧ w = w' := by
  obtain ⟨aa, ca, rfl, hal, hac, hA⟩ := SlR.open hl
  clear hl
  unfold maxLen at hac
  have HA := Lib.hid hA; clear hA
  go_enter Tryz.func158, Tryz.ntmps158
  go_wp2
  go_loopg [8] l.length (fun g i wr => ∃ k : Nat, k ≤ l.length ∧ g = l.length - k ∧ i = .int .i64 k ∧ s ∉ l.take k ∧ w = wr)
  case atStart => exact ⟨0, by omega, by omega, rfl, by simp, rfl⟩
  case round =>
    obtain ⟨k, hk, rfl, rfl, hall, rfl⟩ := hrel
    have HALL := Lib.hid hall; clear hall
    by_cases hkl : k < l.length
    · obtain ⟨ba, oa, ra, rfl, hSa, hba, hRa, hca⟩ := HA.out k l[k] (List.getElem?_eq_getElem hkl)
      have a0 := hca 0 (.string l[k]) (by unfold RStr at hRa; rw [hRa]; rfl)
      simp only [Nat.mul_one, Nat.add_zero] at a0
      clear hca hRa hSa hba
      have HM := Lib.hid (List.getElem_mem hkl)
      have HT := Lib.hid (show l.take (k + 1) = l.take k ++ [l[k]] from List.take_succ_eq_append_getElem hkl)
      generalize l[k] = x at *
      cases hn : decide (s = x)
      all_goals go_wp2
      · go_roundg (l.length - (k + 1))
        case measure => omega
        case rel => exact ⟨k + 1, by omega, rfl, by go_num, by rw [HT.out]; intro h; rcases List.mem_append.1 h with h | h; exact HALL.out h; simp at h; exact of_decide_eq_false hn h, rfl⟩
      · go_ret
        exact ⟨_, rfl, .inr ⟨by omega, by rw [of_decide_eq_true hn]; exact HM.out⟩, rfl⟩
    · have HX := Lib.hid (show l.take k = l from List.take_of_length_le (by omega))
      go_wp2
      go_ret
      exact ⟨_, rfl, .inl ⟨rfl, by rw [← HX.out]; exact HALL.out⟩, rfl⟩

set_option maxHeartbeats 400000 in
theorem containsStr (S : Nat → Prop) (v : Value) (l : List ByteArray) (s : ByteArray) (w : World) (hl : StrsR S w v l) :
    Calls Tryz.prog 132 #[v, .string s] w fun e w' => e = .returned (.bool (memS s l)) ∧ w = w' := by
  have HL := Lib.hid hl
  obtain ⟨_, _, rfl, _⟩ := SlR.open hl
  clear hl
  go_enter Tryz.func132, Tryz.ntmps132
  go_wp2_with fail
  refine (indexStr S _ l s _ HL.out).mono ?_
  rintro e w2 ⟨r, rfl, hr, rfl⟩
  rcases hr with ⟨rfl, hm⟩ | ⟨h0, hm⟩
  · have HM := Lib.hid hm; clear hm
    go_wp2
    go_ret
    exact ⟨by rw [memS_false HM.out]; rfl, rfl⟩
  · have HM := Lib.hid hm; clear hm
    have h0' : decide (0 ≤ r) = true := by simp [h0]
    go_wp2
    go_ret
    exact ⟨by rw [memS_true HM.out]; simp, rfl⟩

def PCat.typesOf (c : PCat) (kind : Int) : List ByteArray := if kind = 1 then c.nodes else if kind = 2 then c.edges else []

set_option maxHeartbeats 400000 in
theorem schemaHas (S : Nat → Prop) (nv ev rv iv : Value) (c : PCat) (kind : Int) (s : ByteArray) (w : World) (hc : CatR S w nv ev rv iv c) :
    Calls Tryz.prog 107 #[c.arg nv ev rv iv, .int .i64 kind, .string s] w fun e w' => e = .returned (.bool (memS s (c.typesOf kind))) ∧ Grow w w' := by
  have HC := Lib.hid hc
  obtain ⟨na, nc, ea, ec, ra, rc, ia, ic, rfl, rfl, rfl, rfl⟩ := hc.slices
  have HG := Lib.hid (show ∀ o, Grow w (w.alloc o) from fun o => (Grow.rfl' w).allocd o)
  clear hc
  by_cases h1 : kind = 1
  · subst h1
    go_enter Tryz.func107, Tryz.ntmps107
    go_wp2_with (first | (go_at_call 131; go_in) | (go_at_call 132; go_must (refine (containsStr S _ c.nodes s _ (HC.out.grow (HG.out _)).1).mono ?_); rintro e w2 ⟨rfl, rfl⟩))
    go_ret
    exact ⟨rfl, HG.out _⟩
  · by_cases h2 : kind = 2
    · subst h2
      go_enter Tryz.func107, Tryz.ntmps107
      go_wp2_with (first | (go_at_call 131; go_in) | (go_at_call 132; go_must (refine (containsStr S _ c.edges s _ (HC.out.grow (HG.out _)).2.1).mono ?_); rintro e w2 ⟨rfl, rfl⟩))
      go_ret
      exact ⟨rfl, HG.out _⟩
    · have HX := Lib.hid (show c.typesOf kind = [] by unfold PCat.typesOf; rw [if_neg h1, if_neg h2])
      have h1' : (kind == 1) = false := by simpa using h1
      have h2' : (kind == 2) = false := by simpa using h2
      go_enter Tryz.func107, Tryz.ntmps107
      go_wp2
      go_ret
      exact ⟨by rw [HX.out]; rfl, HG.out _⟩

end Go.Hg

namespace Go.Hg
open Go.RowKit Go.Proofs

def fil (l : List PProp) (name : ByteArray) : List PProp := l.filter fun p => decide (¬ p.name = name)
def ins (o : List PProp) (x : PProp) : List PProp := (o.takeWhile fun p => ltS p.name x.name) ++ x :: (o.dropWhile fun p => ltS p.name x.name)
def setP (l : List PProp) (name : ByteArray) (v : PVal) : List PProp := if v.kind = 0 then fil l name else ins (fil l name) ⟨name, v⟩
def allLt (o : List PProp) (name : ByteArray) : Bool := o.all fun p => ltS p.name name
def mid (o : List PProp) (x : PProp) : List PProp := if allLt o x.name = true then o else ins o x

theorem allLt_snoc (o : List PProp) (p : PProp) (name : ByteArray) : allLt (o ++ [p]) name = (allLt o name && ltS p.name name) := by simp [allLt]
theorem fil_snoc_eq {l : List PProp} {p : PProp} {name : ByteArray} (h : p.name = name) : fil (l ++ [p]) name = fil l name := by simp [fil, h]
theorem fil_snoc_ne {l : List PProp} {p : PProp} {name : ByteArray} (h : ¬ p.name = name) : fil (l ++ [p]) name = fil l name ++ [p] := by simp [fil, h]
theorem fil_length (l : List PProp) (name : ByteArray) : (fil l name).length ≤ l.length := List.length_filter_le _ _
def IdxOk (l : List PProp) (name : ByteArray) (r : Int) : Prop :=
  (r = -1 ∧ allLt l name = true) ∨ ∃ k : Nat, r = k ∧ k < l.length ∧ l.take k = (l.takeWhile fun p => ltS p.name name) ∧ l.drop k = (l.dropWhile fun p => ltS p.name name)
theorem idx_hit {l : List PProp} {name : ByteArray} {k : Nat} {p : PProp} (hall : allLt (l.take k) name = true) (hp : l[k]? = some p) (hn : ltS p.name name = false) :
    k < l.length ∧ l.take k = (l.takeWhile fun p => ltS p.name name) ∧ l.drop k = (l.dropWhile fun p => ltS p.name name) := by
  have hk : k < l.length := (List.getElem?_eq_some_iff.1 hp).1
  have h1 : ∀ p ∈ l.take k, ltS p.name name = true := by simpa [allLt] using hall
  have e : l = l.take k ++ p :: l.drop (k + 1) := by
    have h3 := List.getElem?_eq_some_iff.1 hp
    obtain ⟨h4, h5⟩ := h3
    have : l.drop k = p :: l.drop (k + 1) := by rw [List.drop_eq_getElem_cons h4, h5]
    rw [← this, List.take_append_drop]
  have ed : l.drop k = p :: l.drop (k + 1) := by
    obtain ⟨h4, h5⟩ := List.getElem?_eq_some_iff.1 hp
    rw [List.drop_eq_getElem_cons h4, h5]
  refine ⟨hk, ?_, ?_⟩
  · conv => rhs; rw [e]
    rw [List.takeWhile_append_of_pos h1]
    simp [hn]
  · conv => rhs; rw [e]
    rw [List.dropWhile_append_of_pos h1]
    simp [hn, ed]

set_option maxHeartbeats 400000 in
theorem set1 (p : PProp) (nb : Nat) (name : ByteArray) (w : World) (hb : w.cell? ⟨nb, 0, none⟩ = some (.string name)) :
    Calls Tryz.prog 137 #[.agg #[.string p.name, .int .i64 p.v.kind, .int .i64 p.v.n, .string p.v.s], .pointer (some ⟨nb, 0, none⟩)] w fun e w' => e = .returned (.bool (!(ltS p.name name))) ∧ Grow w w' := by
  have hlt := cell_lt hb
  have hb2 : ∀ o, (w.alloc o).cell? ⟨nb, 0, none⟩ = some (.string name) := fun o => by exact ((Grow.rfl' w).allocd o).cell (p := ⟨nb, 0, none⟩) hlt |>.trans hb
  have hg : ∀ o1, Grow w (w.alloc o1) := fun o1 => (Grow.rfl' w).allocd o1
  go_enter Tryz.func137, Tryz.ntmps137
  go_wp2
  go_ret
  exact ⟨rfl, hg _⟩

set_option maxRecDepth 100000 in
set_option maxHeartbeats 1000000 in
theorem indexProp (S : Nat → Prop) (v : Value) (l : List PProp) (nb : Nat) (name : ByteArray) (w : World) (hl : PropsR S w v l) (hb : w.cell? ⟨nb, 0, none⟩ = some (.string name)) :
    Calls Tryz.prog 136 #[v, .func (.func 137) #[] #[.pointer (some ⟨nb, 0, none⟩)]] w fun e w' => ∃ r : Int, e = .returned (.int .i64 r) ∧ IdxOk l name r ∧ Grow w w' := by
  obtain ⟨aa, ca, rfl, hal, hac, hA⟩ := SlR.open hl
  clear hl
  unfold maxLen at hac
  have HA := Lib.hid hA; clear hA
  have HB := Lib.hid hb; have hlt := cell_lt hb; clear hb
  go_enter Tryz.func136, Tryz.ntmps136
  go_wp2
  go_loopg [8] l.length (fun g i wr => ∃ k : Nat, k ≤ l.length ∧ g = l.length - k ∧ i = .int .i64 k ∧ allLt (l.take k) name = true ∧ Grow w wr)
  case atStart => exact ⟨0, by omega, by omega, rfl, by simp [allLt], Grow.rfl' w⟩
  case round =>
    obtain ⟨k, hk, rfl, rfl, hall, hgr⟩ := hrel
    have HALL := Lib.hid hall; clear hall
    by_cases hkl : k < l.length
    · obtain ⟨ba, oa, ra, rfl, hSa, hba, hRa, hca⟩ := HA.out k l[k] (List.getElem?_eq_getElem hkl)
      obtain ⟨hba', a0, a1, a2, a3⟩ := hRa.at hba hgr hca
      clear hca hRa hSa hba
      have HE := Lib.hid (show l[k]? = some l[k] from List.getElem?_eq_getElem hkl)
      have HT := Lib.hid (show l.take (k + 1) = l.take k ++ [l[k]] from List.take_succ_eq_append_getElem hkl)
      generalize l[k] = p at *
      have HBW := Lib.hid (show wr.cell? ⟨nb, 0, none⟩ = some (.string name) from (hgr.cell (p := ⟨nb, 0, none⟩) hlt).trans HB.out)
      cases hn : ltS p.name name
      all_goals
        go_wp2_with (go_at_call 137; (with_reducible refine (set1 p nb name _ HBW.out).mono ?_); rintro e w2 ⟨rfl, hw2⟩)
      · go_ret
        obtain ⟨h1, h2, h3⟩ := idx_hit HALL.out HE.out hn
        exact ⟨_, rfl, .inr ⟨k, rfl, h1, h2, h3⟩, hgr.step ‹_›⟩
      · go_roundg (l.length - (k + 1))
        case measure => omega
        case rel => exact ⟨k + 1, by omega, rfl, by go_num, by rw [HT.out, allLt_snoc, HALL.out, hn]; rfl, hgr.step ‹_›⟩
    · have HX := Lib.hid (show l.take k = l from List.take_of_length_le (by omega))
      go_wp2
      go_ret
      exact ⟨_, rfl, .inl ⟨rfl, by rw [← HX.out]; exact HALL.out⟩, hgr⟩
end Go.Hg

namespace Go.Hg
section
variable {P : Program} (w : World)
theorem run_copy_row (dT sT ty e : TypeId) (i : TypeInfo) (ht : P.underlying dT = some (.slice e)) (hi : P.info? e = some i) (g o : Nat) (cur : Array Value) (E : TypeId) (hg : w.heap[g]? = some (.cells cur E (0, 0)))
    (dLen dCap : Nat) (oa : Option Addr) (sLen sCap n : Nat) (hn : Nat.min sLen dLen = n) (cs : List Value) (hl : cs.length = n * i.size)
    (hsrc : n = 0 ∨ ∃ a, oa = some a ∧ ∀ j u, cs[j]? = some u → w.cell? (a.add j) = some u) (hfit : o + cs.length ≤ cur.size) (h1 : ∀ v ∈ cs, v.oneCell' = true) :
    (Builtin.copy_ #[dT, sT] ty #[.slice (some ⟨g, o, none⟩) dLen dCap, .slice oa sLen sCap]).run P w = .ok (goInt n) (w.setRow g (cur.toList.take o ++ cs ++ cur.toList.drop (o + cs.length)).toArray) := by
  have hst := run_storeCells_at P g o E cs 0 cur w hg (by simpa using hfit) h1
  simp only [Nat.add_zero] at hst
  have hf : (Builtin.firstCells i.size n (.slice oa sLen sCap)).run P w = .ok cs.toArray w := by
    rcases hsrc with rfl | ⟨a, rfl, h⟩
    · have : cs = [] := List.eq_nil_of_length_eq_zero (by simpa using hl)
      subst this
      cases oa <;> simp [Builtin.firstCells, loadCells, loadCellsFrom]
    · exact run_firstCells_some (P := P) w i.size n a sLen sCap cs hl h
  simp only [Builtin.copy_, List.getElem?_toArray, List.getElem?_cons_zero, List.getElem?_cons_succ, Sem.run_bind, run_underlying ht, Result.andThen_ok, Builtin.lenOf, sizeOf, typeInfo, Sem.run_pure]
  simp [hi, hn, hf, hst]
theorem size_zeroCells' (z : Array Value) (n : Nat) : (Builtin.zeroCells z n).size = n * z.size := size_zeroCells z n
theorem run_append_zeros (t tn ty e : TypeId) (i : TypeInfo) (z : Value) (k kn : IntKind) (ht : P.underlying t = some (.slice e)) (htn : P.underlying tn = some (.int kn)) (hi : P.info? e = some i) (hz : i.zero = some z)
    (b : Addr) (sLen sCap n : Nat) (olds : List Value) (hlo : olds.length = sLen * i.size) (holds : ∀ j v, olds[j]? = some v → w.cell? (b.add j) = some v)
    (h0 : 0 < n) (hs : 0 < i.size) (hg : sCap < sLen + n) (h63 : ((sLen + n : Nat) : Int) ≤ 9223372036854775807) (hn48 : n * i.bytes ≤ 281474976710656) (hfit : Builtin.nextslicecap (sLen + n) sCap * i.bytes ≤ 281474976710656) :
    (Builtin.append_ #[t, tn] ty #[.slice (some b) sLen sCap, .int k n]).run P w =
      .ok (.slice (some ⟨w.heap.size, 0, none⟩) (sLen + n) (grownCap w (sLen + n) sCap e))
        (w.drew.alloc (.cells (olds.toArray ++ Builtin.zeroCells z.cells n ++ Builtin.zeroCells z.cells (grownCap w (sLen + n) sCap e - (sLen + n))) e)) := by
  have hn : n ≠ 0 := by omega
  have hw : IntKind.i64.wrap (n : Int) = n := by rw [IntKind.wrap_i64]; omega
  have hc : ¬ (sLen + n ≤ sCap) := by omega
  have h63' : ¬ (9223372036854775807 < ((sLen : Int) + (n : Int))) := by omega
  have h48' : ¬ (281474976710656 < Builtin.nextslicecap (sLen + n) sCap * i.bytes) := by omega
  have h48i : ¬ (281474976710656 < (n : Int) * (i.bytes : Int)) := by
    rw [← Int.natCast_mul]
    omega
  have hneg : ¬ ((n : Int) < 0) := by omega
  have hns : ¬ (n * i.size = 0) := Nat.mul_ne_zero hn (by omega)
  have hfo := run_firstCells_some (P := P) w.drew i.size sLen b sLen sCap olds hlo (by simpa using holds)
  simp [Builtin.append_, run_underlying ht, run_underlying htn, sizeOf, typeInfo, zeroValue, hi, hz, asInt, asIntOf, hw, hc, hneg, hns, h63', h48', h48i, Question.forced, hfo, newRow, grownCap]
theorem run_clear_row (t ty e : TypeId) (z : Value) (ht : P.underlying t = some (.slice e)) (hz : ∀ w, (zeroValue e).run P w = .ok z w) (g o n cap : Nat) (cur : Array Value) (E : TypeId) (hg : w.heap[g]? = some (.cells cur E (0, 0)))
    (hfit : o + n * z.cells.size ≤ cur.size) (h1 : ∀ v ∈ z.cells.toList, v.oneCell' = true) :
    ∃ cs : List Value, cs.length = n * z.cells.size ∧ (Builtin.clear_ #[t] ty #[.slice (some ⟨g, o, none⟩) n cap]).run P w = .ok (.tuple #[]) (w.setRow g (cur.toList.take o ++ cs ++ cur.toList.drop (o + cs.length)).toArray) := by
  by_cases hn : n = 0
  · subst hn
    refine ⟨[], by simp, ?_⟩
    have e2 : w.setRow g (cur.toList.take o ++ [] ++ cur.toList.drop (o + ([] : List Value).length)).toArray = w := by
      simp only [List.append_nil, List.length_nil, Nat.add_zero, List.take_append_drop, Array.toArray_toList]
      exact setRow_self w g cur E (0, 0) hg
    rw [e2]
    simp [Builtin.clear_, run_underlying ht]
  · have hlen : (Builtin.zeroCells z.cells n).toList.length = n * z.cells.size := by rw [Array.length_toList, size_zeroCells']
    refine ⟨(Builtin.zeroCells z.cells n).toList, hlen, ?_⟩
    have hst := run_storeCells_at P g o E (Builtin.zeroCells z.cells n).toList 0 cur w hg (by rw [hlen]; simpa using hfit) (fun v hv => by
      simp only [Builtin.zeroCells, Array.toList_map, List.mem_map] at hv
      obtain ⟨k, hk, rfl⟩ := hv
      have hk' : k < n * z.cells.size := by simpa using hk
      have hz0 : 0 < z.cells.size := by
        rcases Nat.eq_zero_or_pos z.cells.size with h | h
        · rw [h] at hk'; simp at hk'
        · exact h
      have hlt : k % z.cells.size < z.cells.size := Nat.mod_lt _ hz0
      rw [getElem!_pos z.cells _ hlt]
      exact h1 _ (Array.mem_toList_iff.2 (Array.getElem_mem hlt)))
    simp only [Nat.add_zero] at hst
    cases n with
    | zero => exact absurd rfl hn
    | succ n => simp [Builtin.clear_, run_underlying ht, hz, hst]

theorem wpList_run {ops : Array Oper} {rest : List Oper} {o : Oper} {a : Act} {Q : Exit → Act → World → Prop} (hgd : o.guard = none) {v' : Value} {w' : World}
    (hr : (execOp a.eval o).run P w = .ok (.value v') w') (h : wpList P ops Q rest (a.put o.dst v') w') : wpList P ops Q (o :: rest) a w :=
  wpList_plain hgd fun K hK => by
    unfold Oper.wp
    rw [hr]
    exact hK _ _ h
theorem step_run {ops : Array Oper} {o : Oper} {a : Act} {w : World} {K : Act → World → Prop} {Q : Exit → Act → World → Prop} {E : Prop} (hg : o.guard = none) {v' : Value} {w' : World}
    (hr : (execOp a.eval o).run P w = .ok (.value v') w') (hK : K (a.put o.dst v') w') : if Region.wanted o (yielded ops a.tmps) = true then Oper.wp P o a w K Q else E := by
  have hw : Region.wanted o (yielded ops a.tmps) = true := by simp [Region.wanted, hg]
  rw [if_pos hw]
  unfold Oper.wp
  rw [hr]
  exact hK

theorem exec_copy {o : Oper} {a : Act} (d s : Operand) (t t' : TypeId) (ho : o.op = .call { callee := .builtin .copy, args := #[d, s], argTypes := #[t, t'] }) {v u v' : Value} {w' : World} (hd : a.eval d = v) (hs : a.eval s = u)
    (hr : ∀ ty, (Builtin.copy_ #[t, t'] ty #[v, u]).run P w = .ok v' w') : (execOp a.eval o).run P w = .ok (.value v') w' := by
  unfold execOp
  simp only [ho, resolve, invoke, builtin, Sem.run_bind, Sem.run_pure, Result.andThen_ok, List.map_toArray, List.map_cons, List.map_nil, hd, hs, hr]
theorem exec_append {o : Oper} {a : Act} (d s : Operand) (t t' : TypeId) (ho : o.op = .call { callee := .builtin .append, args := #[d, s], argTypes := #[t, t'] }) {v u v' : Value} {w' : World} (hd : a.eval d = v) (hs : a.eval s = u)
    (hr : ∀ ty, (Builtin.append_ #[t, t'] ty #[v, u]).run P w = .ok v' w') : (execOp a.eval o).run P w = .ok (.value v') w' := by
  unfold execOp
  simp only [ho, resolve, invoke, builtin, Sem.run_bind, Sem.run_pure, Result.andThen_ok, List.map_toArray, List.map_cons, List.map_nil, hd, hs, hr]
end
end Go.Hg
