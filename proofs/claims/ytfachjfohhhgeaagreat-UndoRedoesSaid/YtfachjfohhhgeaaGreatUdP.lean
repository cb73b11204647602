/- val.Name, Good; hedgerowref02.Name, Good, Blank; val.Good, hedgerowref02.Good, Blank; A graph behind a pointer: what lies there; Catalogs as data; slices.Index, Contains at texts; schema.names, Has; hedgerowref14.list, Has; slices.IndexFunc at []api.Prop by val.Set's closure; the plain words for a property set; hedgerowref02.Set: properties with one of them set; graph.Scan, some, Out, In; hedgerowkeep.LargeValue, LargeOp; hedgerowlaw17.Fair, Types, wakes; hedgerowref17: Node, Edge: where an Id stands; hedgerowref17: At, props; hedgerowref17: what changes of its lists leave; cut. Conditions: those that each theorem names. -/
import Derived.WalkKit
import Derived.WalkSpells
import Derived.WalkLawsBesides
import Derived.Lib.Hide
import Derived.BigQuiet
import Derived.Deep.LoopGhost
import Derived.Test.YtfachjfohhhgeaaGreatRows
import Derived.Lib.SliceRun
import Derived.WideMake
import Derived.Deep.RegionLaw
import Derived.Lib.Overlaps
import Derived.Deep.RegionHeld3
import Derived.Laws.ResultCell
import Derived.Laws.EntriesVeiled
import Derived.Test.YtfachjfohhhgeaaGreatUdL
import Derived.Test.YtfachjfohhhgeaaGreatUdN
namespace Go.Hg
open Go.RowKit Go.Proofs

set_option maxRecDepth 100000 in
set_option maxHeartbeats 1000000 in
theorem refName (s : ByteArray) (w : World) : Calls Tryz.prog 57 #[.string s] w fun e w' => e = .returned (.bool (decide (NameOk s))) ∧ w' = w := by
  by_cases hs : 1 ≤ s.size ∧ s.size ≤ 16
  · obtain ⟨h0', h16⟩ := hs
    have hx : NameOk s ↔ ∀ i, (h : i < s.size) → RestC s[i].toNat ∧ (i = 0 → LowC s[i].toNat) :=
      ⟨fun ⟨_, _, hl, h⟩ i hi => ⟨h i hi, fun e => by subst e; exact hl⟩, fun h => ⟨h0', h16, (h 0 h0').2 rfl, fun i hi => (h i hi).1⟩⟩
    have HX := Lib.hid hx; clear hx
    go_enter Tryz.func57, Tryz.ntmps57
    go_wp2
    go_loopg [3] s.size (fun g i wr => ∃ k : Nat, k ≤ s.size ∧ g = s.size - k ∧ i = .int .i64 k ∧ (∀ i, (h : i < s.size) → i < k → RestC s[i].toNat ∧ (i = 0 → LowC s[i].toNat)) ∧ w = wr)
    case atStart => exact ⟨0, by omega, by omega, rfl, fun i _ h => by omega, rfl⟩
    case round =>
      obtain ⟨k, hk, rfl, rfl, hall, rfl⟩ := hrel
      have HA := Lib.hid hall; clear hall
      by_cases hlt : k < s.size
      · have HK := Lib.hid (show ¬ (RestC s[k].toNat ∧ (k = 0 → LowC s[k].toNat)) → ¬ NameOk s from fun h hn => h ((HX.out.1 hn) k hlt))
        have HK2 := Lib.hid (show RestC s[k].toNat ∧ (k = 0 → LowC s[k].toNat) → ∀ i, (h : i < s.size) → i < k + 1 → RestC s[i].toNat ∧ (i = 0 → LowC s[i].toNat) from fun h i hi hik => by
          by_cases e : i = k
          · subst e; exact h
          · exact HA.out i hi (by omega))
        have hbk := u8_lt s[k]
        by_cases hr : RestC s[k].toNat ∧ (k = 0 → LowC s[k].toNat)
        · have HR := Lib.hid (HK2.out hr)
          have HQ := Lib.hid hr
          clear HK HK2 hr
          go_wp2
          all_goals
            (try simp only [Bool.not_eq_true', Bool.not_eq_false', decide_eq_true_eq, decide_eq_false_iff_not, beq_iff_eq, beq_eq_false_iff_ne, ne_eq] at *)
            have hq := HQ.out
            unfold RestC LowC at hq
            first
              | (exfalso; omega)
              | (clear hq
                 go_roundg (s.size - (k + 1))
                 case measure => omega
                 case rel => exact ⟨k + 1, by omega, rfl, by go_num, HR.out, rfl⟩)
        · have HR := Lib.hid (HK.out hr)
          have HQ := Lib.hid hr
          clear HK HK2 hr
          go_wp2
          all_goals
            (try simp only [Bool.not_eq_true', Bool.not_eq_false', decide_eq_true_eq, decide_eq_false_iff_not, beq_iff_eq, beq_eq_false_iff_ne, ne_eq] at *)
            have hq := HQ.out
            unfold RestC LowC at hq
            first
              | (exfalso; omega)
              | (clear hq
                 go_ret
                 exact ⟨by rw [decide_eq_false HR.out]; rfl, rfl⟩)
      · go_wp2
        go_ret
        exact ⟨by rw [decide_eq_true (HX.out.2 fun i h => HA.out i h (by omega))]; rfl, rfl⟩
  · have HN := Lib.hid (show ¬ NameOk s from fun ⟨h1, h2, _⟩ => hs ⟨h1, h2⟩)
    go_enter Tryz.func57, Tryz.ntmps57
    go_wp2
    all_goals first
      | (exfalso; omega)
      | (go_ret
         exact ⟨by rw [decide_eq_false HN.out]; rfl, rfl⟩)
end Go.Hg

namespace Go.Hg
open Go.RowKit Go.Proofs

attribute [go_sem] isEmpty_iff

set_option maxHeartbeats 400000 in
theorem refBlank (v : PVal) (w : World) :
    Calls Tryz.prog 75 #[.agg #[.int .i64 v.kind, .int .i64 v.n, .string v.s]] w fun e w' => e = .returned (.bool (decide (BlankV v))) ∧ Grow w w' := by
  obtain ⟨k, n, s⟩ := v
  unfold BlankV
  have hg : ∀ o1, Grow w (w.alloc o1) := fun o1 => (Grow.rfl' w).allocd o1
  go_enter Tryz.func75, Tryz.ntmps75
  go_wp2
  all_goals
    go_ret
    refine ⟨?_, hg _⟩
    simp [*]
set_option maxHeartbeats 400000 in
theorem refGoodV (v : PVal) (w : World) :
    Calls Tryz.prog 74 #[.agg #[.int .i64 v.kind, .int .i64 v.n, .string v.s]] w fun e w' => e = .returned (.bool (decide (GoodV v))) ∧ Grow w w' := by
  obtain ⟨k, n, s⟩ := v
  unfold GoodV
  have hg : ∀ o1, Grow w (w.alloc o1) := fun o1 => (Grow.rfl' w).allocd o1
  go_enter Tryz.func74, Tryz.ntmps74
  go_wp2
  all_goals
    (try simp only [beq_iff_eq, beq_eq_false_iff_ne, ne_eq] at *)
    go_ret
    refine ⟨?_, hg _⟩
    simp [*]
    try omega

end Go.Hg

namespace Go.Hg
open Go.RowKit Go.Proofs

set_option maxHeartbeats 400000 in
theorem refNew (w : World) : Calls Tryz.prog 35 #[] w fun e w' => ∃ B, e = .returned (.pointer (some ⟨B, 0, none⟩)) ∧ GraphOk 86 (fun b => w.heap.size ≤ b) w' B PGraph.empty ∧ Grow w w' := by
  have hg : ∀ o, Grow w (w.alloc o) := fun o => (Grow.rfl' w).allocd o
  have HB := Lib.hid (heap_alloc_new w (.cells #[.slice none 0 0, .slice none 0 0, .int .i64 1] 86))
  have HG := Lib.hid hg; clear hg
  go_enter Tryz.func35, Tryz.ntmps35
  go_wp2
  go_ret
  exact ⟨_, rfl, ⟨_, _, fun _ => False, none, none, HB.out, Nat.le_refl _, id, fun _ h => h.elim, by simp, by simp, OwnL.nil _ _ _ _, OwnL.nil _ _ _ _⟩, HG.out _⟩
end Go.Hg

namespace Go.Hg
open Go.RowKit Go.Proofs

set_option maxHeartbeats 400000 in
theorem refList (S : Nat → Prop) (nv ev rv iv : Value) (c : PCat) (kind : Int) (w : World) (hc : CatR S w nv ev rv iv c) :
    Calls Tryz.prog 105 #[c.arg nv ev rv iv, .int .i64 kind] w fun e w' => ∃ v, e = .returned v ∧ StrsR S w' v (c.typesOf kind) ∧ Grow w w' := by
  have HC := Lib.hid hc
  obtain ⟨na, nc, ea, ec, ra, rc, ia, ic, rfl, rfl, rfl, rfl⟩ := hc.slices
  have HG := Lib.hid (show ∀ o, Grow w (w.alloc o) from fun o => (Grow.rfl' w).allocd o)
  clear hc
  have h1' : ∀ h : kind = 1, (kind == 1) = true := fun h => by simp [h]
  by_cases h1 : kind = 1
  · subst h1
    clear h1'
    go_enter Tryz.func105, Tryz.ntmps105
    go_wp2
    go_ret
    exact ⟨_, rfl, (HC.out.grow (HG.out _)).1, HG.out _⟩
  · by_cases h2 : kind = 2
    · subst h2
      clear h1'
      go_enter Tryz.func105, Tryz.ntmps105
      go_wp2
      go_ret
      exact ⟨_, rfl, (HC.out.grow (HG.out _)).2.1, HG.out _⟩
    · have HX := Lib.hid (show c.typesOf kind = [] by unfold PCat.typesOf; rw [if_neg h1, if_neg h2])
      have h1' : (kind == 1) = false := by simpa using h1
      have h2' : (kind == 2) = false := by simpa using h2
      go_enter Tryz.func105, Tryz.ntmps105
      go_wp2
      go_ret
      exact ⟨_, rfl, by rw [HX.out]; exact ⟨none, 0, [], rfl, by simp, by simp [maxLen], rfl, by simp, by simp⟩, HG.out _⟩

set_option maxRecDepth 100000 in
set_option maxHeartbeats 1000000 in
theorem refHas (S : Nat → Prop) (nv ev rv iv : Value) (c : PCat) (kind : Int) (s : ByteArray) (w : World) (hc : CatR S w nv ev rv iv c) :
    Calls Tryz.prog 73 #[c.arg nv ev rv iv, .int .i64 kind, .string s] w fun e w' => e = .returned (.bool (memS s (c.typesOf kind))) ∧ Grow w w' := by
  have HC := Lib.hid hc
  obtain ⟨na, nc, ea, ec, ra, rc, ia, ic, rfl, rfl, rfl, rfl⟩ := hc.slices
  have HG := Lib.hid (show ∀ o, Grow w (w.alloc o) from fun o => (Grow.rfl' w).allocd o)
  clear hc
  go_enter Tryz.func73, Tryz.ntmps73
  go_wp2_with fail
  refine (refList S _ _ _ _ c kind _ (HC.out.grow (HG.out _))).mono ?_
  rintro e w2 ⟨v, rfl, hv, hw2⟩
  obtain ⟨l, hll⟩ : ∃ l, c.typesOf kind = l := ⟨_, rfl⟩
  rw [hll] at hv
  have HLL := Lib.hid hll; clear hll
  obtain ⟨aa, ca, rfl, hal, hac, hA⟩ := SlR.open hv
  unfold maxLen at hac
  have HA := Lib.hid hA; have HW2 := Lib.hid ((HG.out _).step hw2); clear hA hv hw2
  go_wp2
  go_loopg [8] l.length (fun g i wr => ∃ k : Nat, k ≤ l.length ∧ g = l.length - k ∧ i = .int .i64 k ∧ s ∉ l.take k ∧ w2 = wr)
  case atStart => exact ⟨0, by omega, by omega, rfl, by simp, rfl⟩
  case round =>
    obtain ⟨k, hk, rfl, rfl, hall, rfl⟩ := hrel
    have HALL := Lib.hid hall; clear hall
    by_cases hkl : k < l.length
    · obtain ⟨ba, oa, ra, rfl, hSa, hba, hRa, hca⟩ := HA.out k l[k] (List.getElem?_eq_getElem hkl)
      have a0 := hca 0 (.string l[k]) (by unfold RStr at hRa; rw [hRa]; rfl)
      simp only [Nat.mul_one, Nat.add_zero] at a0
      clear hca hRa hSa hba
      have HM := Lib.hid (List.getElem_mem hkl)
      have HT := Lib.hid (show l.take (k + 1) = l.take k ++ [l[k]] from List.take_succ_eq_append_getElem hkl)
      generalize l[k] = x at *
      cases hn : decide (x = s)
      all_goals go_wp2
      · go_roundg (l.length - (k + 1))
        case measure => omega
        case rel => exact ⟨k + 1, by omega, rfl, by go_num, by rw [HT.out]; intro h; rcases List.mem_append.1 h with h | h; exact HALL.out h; simp at h; exact of_decide_eq_false hn h.symm, rfl⟩
      · go_ret
        exact ⟨by rw [HLL.out, memS_true (show s ∈ l by rw [← of_decide_eq_true hn]; exact HM.out)]; rfl, HW2.out⟩
    · have HX := Lib.hid (show l.take k = l from List.take_of_length_le (by omega))
      go_wp2
      go_ret
      exact ⟨by rw [HLL.out, memS_false (show s ∉ l by rw [← HX.out]; exact HALL.out)]; rfl, HW2.out⟩
end Go.Hg

namespace Go.Hg
open Go.RowKit Go.Proofs

theorem ins_allLt {o : List PProp} {x : PProp} (h : allLt o x.name = true) : ins o x = o ++ [x] := by
  unfold allLt at h
  unfold ins
  have h1 : ∀ p ∈ o, ltS p.name x.name = true := by simpa using h
  have e1 : (o.takeWhile fun p => ltS p.name x.name) = o := by
    have h2 := List.takeWhile_append_of_pos (l₂ := []) h1
    simpa using h2
  have e2 : (o.dropWhile fun p => ltS p.name x.name) = [] := by
    have h2 := List.dropWhile_append_of_pos (l₂ := []) h1
    simpa using h2
  rw [e1, e2]
theorem ins_snoc {o : List PProp} {x p : PProp} (h : allLt o x.name = false) : ins (o ++ [p]) x = ins o x ++ [p] := by
  unfold allLt at h
  unfold ins
  have h1 : ∃ q ∈ o, ltS q.name x.name = false := by
    have := List.all_eq_false.1 h
    obtain ⟨q, hq, hn⟩ := this
    exact ⟨q, hq, by simpa using hn⟩
  obtain ⟨q, hq, hn⟩ := h1
  induction o with
  | nil => cases hq
  | cons a o ih =>
    by_cases ha : ltS a.name x.name = true
    · have hq' : q ∈ o := by
        rcases List.mem_cons.1 hq with e | e
        · subst e; rw [hn] at ha; cases ha
        · exact e
      have ih' := ih (List.all_eq_false.2 ⟨q, hq', by rw [hn]; simp⟩) hq'
      simp only [List.cons_append, List.takeWhile_cons, List.dropWhile_cons, ha, if_true]
      rw [ih']
    · simp [ha]
theorem ins_snoc_ge {o : List PProp} {x p : PProp} (h : allLt o x.name = true) (hp : ltS p.name x.name = false) : ins (o ++ [p]) x = o ++ [x] ++ [p] := by
  have h1 : ∀ p ∈ o, ltS p.name x.name = true := by simpa [allLt] using h
  unfold ins
  rw [List.takeWhile_append_of_pos h1, List.dropWhile_append_of_pos h1]
  simp [hp]
end Go.Hg

namespace Go.Hg
open Go.RowKit Go.Proofs

theorem one4 (a b c d : Value) (ha : a.oneCell' = true) (hb : b.oneCell' = true) (hc : c.oneCell' = true) (hd : d.oneCell' = true) : ∀ u ∈ [a, b, c, d], u.oneCell' = true := by
  intro u hu; simp only [List.mem_cons, List.not_mem_nil, or_false] at hu; rcases hu with rfl | rfl | rfl | rfl <;> assumption
def rmid (o : List PProp) (name : ByteArray) (x : PVal) : List PProp := if x.kind = 0 then o else mid o ⟨name, x⟩
def rput (o : List PProp) (name : ByteArray) (x : PVal) : Bool := decide (x.kind = 0) || !(allLt o name)
theorem rmid_put {o : List PProp} {name : ByteArray} {x : PVal} {p : PProp} (h : rput o name x = true) : rmid (o ++ [p]) name x = rmid o name x ++ [p] ∧ rput (o ++ [p]) name x = true := by
  unfold rput at h
  unfold rmid rput mid
  by_cases hk : x.kind = 0
  · simp [hk]
  · have ha : allLt o name = false := by simpa [hk] using h
    have h2 := ins_snoc (x := ⟨name, x⟩) (p := p) ha
    have hb : allLt (o ++ [p]) name = false := by rw [allLt_snoc, ha]; rfl
    simp only [hk, ha, hb, if_false, Bool.false_eq_true, h2]
    simp
theorem rmid_lt {o : List PProp} {name : ByteArray} {x : PVal} {p : PProp} (h : rput o name x = false) (hp : ltS p.name name = true) : rmid (o ++ [p]) name x = rmid o name x ++ [p] ∧ rput (o ++ [p]) name x = false := by
  unfold rput at h
  simp only [Bool.or_eq_false_iff, decide_eq_false_iff_not, Bool.not_eq_false'] at h
  unfold rmid rput mid
  have hb : allLt (o ++ [p]) name = true := by rw [allLt_snoc, h.2, hp]; rfl
  simp only [h.1, h.2, hb, if_true, if_false]
  simp
theorem rmid_ge {o : List PProp} {name : ByteArray} {x : PVal} {p : PProp} (h : rput o name x = false) (hp : ltS p.name name = false) : rmid (o ++ [p]) name x = rmid o name x ++ [⟨name, x⟩] ++ [p] ∧ rput (o ++ [p]) name x = true := by
  unfold rput at h
  simp only [Bool.or_eq_false_iff, decide_eq_false_iff_not, Bool.not_eq_false'] at h
  have h2 := ins_snoc_ge (x := ⟨name, x⟩) (p := p) h.2 hp
  have hb : allLt (o ++ [p]) name = false := by rw [allLt_snoc, h.2, hp]; rfl
  unfold rmid rput mid
  simp only [h.1, h.2, hb, if_true, if_false, Bool.false_eq_true, h2]
  simp
theorem rmid_end {l : List PProp} {name : ByteArray} {x : PVal} : setP l name x = if rput (fil l name) name x = true then rmid (fil l name) name x else rmid (fil l name) name x ++ [⟨name, x⟩] := by
  unfold setP rput rmid mid
  by_cases hk : x.kind = 0
  · simp [hk]
  · cases ha : allLt (fil l name) name
    · simp [hk]
    · simp [hk, ins_allLt (x := ⟨name, x⟩) ha]
theorem rmid_length (o : List PProp) (name : ByteArray) (x : PVal) : (rmid o name x).length ≤ o.length + 1 := by
  have h2 := congrArg List.length (List.takeWhile_append_dropWhile (p := fun p : PProp => ltS p.name (PProp.mk name x).name) (l := o))
  rw [List.length_append] at h2
  unfold rmid mid ins
  split
  · omega
  · split
    · omega
    · rw [List.length_append, List.length_cons]; omega

set_option maxRecDepth 100000 in
set_option maxHeartbeats 4000000 in
theorem refSet (S : Nat → Prop) (v : Value) (l : List PProp) (name : ByteArray) (x : PVal) (w : World) (hl : PropsR S w v l) (hb : l.length ≤ 1073741824) :
    Calls Tryz.prog 50 #[v, .string name, .agg #[.int .i64 x.kind, .int .i64 x.n, .string x.s]] w fun e w' =>
      ∃ v', e = .returned v' ∧ PropsR (fun b => w.heap.size ≤ b) w' v' (setP l name x) ∧ Grow w w' := by
  obtain ⟨aa, ca, rfl, hal, hac, hA⟩ := SlR.open hl
  clear hl
  unfold maxLen at hac
  have HA := Lib.hid hA; clear hA
  have HB := Lib.hid hb; clear hb
  obtain ⟨iP, hiP, hzP0, hzP1, hzP2⟩ := info_parts infoProp
  have hbx : ∀ w', Grow (w.alloc (.cells #[.int .i64 x.kind, .int .i64 x.n, .string x.s] 33)) w' → w'.heap[w.heap.size]? = some (.cells #[.int .i64 x.kind, .int .i64 x.n, .string x.s] 33 (0, 0)) := fun w' hg => by
    rw [hg.heapEq (by simp)]; exact heap_alloc_new w _
  have HBX := Lib.hid hbx; clear hbx
  have HG0 := Lib.hid (show Grow w (w.alloc (.cells #[.int .i64 x.kind, .int .i64 x.n, .string x.s] 33)) from (Grow.rfl' w).allocd _)
  have HS0 := Lib.hid (show (w.alloc (.cells #[.int .i64 x.kind, .int .i64 x.n, .string x.s] 33)).heap.size = w.heap.size + 1 by simp)
  have HP0 := Lib.hid (show decide (x.kind = 0) = rput [] name x by simp [rput, allLt])
  have HM0 := Lib.hid (show rmid [] name x = [] by unfold rmid mid allLt; split <;> simp)
  have hk0 : (x.kind == 0) = rput [] name x := by rw [← HP0.out]; by_cases h : x.kind = 0 <;> simp [h]
  go_enter Tryz.func50, Tryz.ntmps50
  go_wp2
  clear hk0
  generalize w.alloc (.cells #[.int .i64 x.kind, .int .i64 x.n, .string x.s] 33) = W0 at *
  go_loopg [7, 8, 9] l.length (fun g vo vp i wr => ∃ (k : Nat) (ob : Option Nat), k ≤ l.length ∧ g = l.length - k ∧ i = .int .i64 k ∧ vp = .bool (rput (fil (l.take k) name) name x) ∧ PropsO wr vo (rmid (fil (l.take k) name) name x) ob ∧ (∀ b, ob = some b → W0.heap.size ≤ b) ∧ Grow W0 wr)
  case atStart => exact ⟨0, none, by omega, by omega, rfl, rfl, by rw [List.take_zero, show fil [] name = [] from rfl, HM0.out]; exact OwnS.nil _ _ _, by simp, Grow.rfl' W0⟩
  case round =>
    obtain ⟨k, ob, hk, rfl, rfl, rfl, hown, hob, hgr⟩ := hrel
    have hgw : Grow w wr := HG0.out.step hgr
    have HGW := Lib.hid hgw; have HGR := Lib.hid hgr; have HOB := Lib.hid hob; have HOWN := Lib.hid hown
    have hv0 := HBX.out wr hgr
    have hvb : w.heap.size < wr.heap.size := by have := hgr.size; have := HS0.out; omega
    have v0 : wr.cell? ⟨w.heap.size, 0, none⟩ = some (.int .i64 x.kind) := by rw [blk_cell hv0]; rfl
    have v1 : wr.cell? ⟨w.heap.size, 1, none⟩ = some (.int .i64 x.n) := by rw [blk_cell hv0]; rfl
    have v2 : wr.cell? ⟨w.heap.size, 2, none⟩ = some (.string x.s) := by rw [blk_cell hv0]; rfl
    obtain ⟨oo, co, rfl, -, -⟩ := hown.isSlice
    have HLEN := Lib.hid (show (rmid (fil (l.take k) name) name x).length ≤ 1073741826 by
      have := rmid_length (fil (l.take k) name) name x; have := fil_length (l.take k) name; have := List.length_take_le k l; have := HB.out; omega)
    clear hv0 hown hob hgr
    by_cases hkl : k < l.length
    · obtain ⟨ba, oa, ra, rfl, hSa, hba, hRa, hca⟩ := HA.out k l[k] (List.getElem?_eq_getElem hkl)
      obtain ⟨hba', a0, a1, a2, a3⟩ := hRa.at hba hgw hca
      have HBAL := Lib.hid hba
      clear hca hRa hSa hba hgw
      have HT := Lib.hid (show l.take (k + 1) = l.take k ++ [l[k]] from List.take_succ_eq_append_getElem hkl)
      generalize l[k] = p at *
      have hba1 : ba < wr.heap.size + 1 := by omega
      cases hn : decide (p.name = name)
      · have HF := Lib.hid (show fil (l.take (k + 1)) name = fil (l.take k) name ++ [p] by rw [HT.out, fil_snoc_ne (of_decide_eq_false hn)])
        generalize fil (l.take k) name = o at *
        cases hp : rput o name x
        · cases hs : Op.bytesLess p.name.toList name.toList
          · -- both are appended
            obtain ⟨e1, e2⟩ := rmid_ge (p := p) hp hs
            have HE1 := Lib.hid e1; have HE2 := Lib.hid e2; clear e1 e2
            have hW : Grow wr (wr.alloc (.cells #[.string name, .int .i64 x.kind, .int .i64 x.n, .string x.s] 105)) := (Grow.rfl' wr).allocd _
            have HW := Lib.hid hW; clear hW
            go_wp2_with (at_builtin; go_must (refine wpList_append_S _ rfl (.tmp 37) (.tmp 41) 87 rfl 105 iP _ 4 48 Tryz.underlying87 hiP hzP0 hzP1 hzP2 rfl (by decide) (.slice oo (rmid o name x).length co) (rmid o name x).length _ ob rfl (HOWN.out.grow HW.out) (.slice (some ⟨wr.heap.size, 0, none⟩) 1 1) rfl 1 _ (Rd.lit (wr) #[.string name, .int .i64 x.kind, .int .i64 x.n, .string x.s] 105 4 1 rfl) (one4 _ _ _ _ rfl rfl rfl rfl) (by have := HLEN.out; unfold maxLen; omega) (by have := HLEN.out; omega) ?_))
            intro v5 w5 ob5 h1 h2 h3
            have hgW5 : Grow W0 w5 := (HGR.out.step HW.out).modd h2 (fun b hb => HOB.out b hb)
            have hOB5 : ∀ b, ob5 = some b → W0.heap.size ≤ b := by
              have hsz := HGR.out.size
              have h0 := HOB.out
              intro b hb
              rcases h3 with h3 | ⟨g, h3, hge⟩
              · exact h0 b (by rw [← h3]; exact hb)
              · rw [h3] at hb; cases hb; omega
            have hP5 : PropsO w5 v5 (rmid o name x ++ [⟨name, x⟩]) ob5 := by
              unfold PropsO; rw [flat_snoc, List.length_append]; exact h1
            obtain ⟨oo5, co5, rfl, -, -⟩ := hP5.isSlice
            obtain ⟨-, -, -, -, hw5⟩ : True ∧ True ∧ True ∧ True ∧ ∀ o' , ba < w.heap.size → w5.cell? ⟨ba, o', none⟩ = w.cell? ⟨ba, o', none⟩ := ⟨trivial, trivial, trivial, trivial, fun o' hb => (HG0.out.step hgW5).cell (p := ⟨ba, o', none⟩) hb⟩
            have HG5 := Lib.hid hgW5; have HOB5 := Lib.hid hOB5; have HP5 := Lib.hid hP5
            have hsz5 : ba < w5.heap.size := by have := h2.size; simp at this; omega
            have HBAW := Lib.hid (show ∀ o', w5.cell? ⟨ba, o', none⟩ = wr.cell? ⟨ba, o', none⟩ from fun o' => by
              have e : w5.heap[ba]? = wr.heap[ba]? := by
                rw [h2.block ba (by simp; omega) (fun h => by have := HOB.out ba h; have := HS0.out; have := HBAL.out; omega)]
                exact HW.out.heapEq hba'
              exact World.cell?_of_block (w := wr) e)
            have c0 := (HBAW.out _).trans a0
            have c1 := (HBAW.out _).trans a1
            have c2 := (HBAW.out _).trans a2
            have c3 := (HBAW.out _).trans a3
            have HSZ := Lib.hid (show w5.heap.size = w5.heap.size from rfl)
            clear h1 h2 h3 hgW5 hOB5 hP5 hw5 a0 a1 a2 a3 v0 v1 v2
            have HLEN5 := Lib.hid (show (rmid o name x ++ [(⟨name, x⟩ : PProp)]).length ≤ 1073741827 by have := HLEN.out; rw [List.length_append]; simp; omega)
            go_wp2_with (at_builtin; go_must (refine wpList_append_S _ rfl (.tmp 43) (.tmp 48) 87 rfl 105 iP _ 4 48 Tryz.underlying87 hiP hzP0 hzP1 hzP2 rfl (by decide) (.slice oo5 (rmid o name x ++ [(⟨name, x⟩ : PProp)]).length co5) (rmid o name x ++ [(⟨name, x⟩ : PProp)]).length _ ob5 rfl (HP5.out.grow ((Grow.rfl' _).allocd _)) (.slice (some ⟨w5.heap.size, 0, none⟩) 1 1) rfl 1 _ (Rd.lit (w5) #[.string p.name, .int .i64 p.v.kind, .int .i64 p.v.n, .string p.v.s] 105 4 1 rfl) (one4 _ _ _ _ rfl rfl rfl rfl) (by have := HLEN5.out; unfold maxLen; omega) (by have := HLEN5.out; omega) ?_))
            intro v6 w6 ob6 h1 h2 h3
            have hP6 : PropsO w6 v6 (rmid (o ++ [p]) name x) ob6 := by
              unfold PropsO; rw [HE1.out]; simpa [PProp.cells] using h1
            have hOB6 : ∀ b, ob6 = some b → W0.heap.size ≤ b := by
              have hsz := HG5.out.size
              have h0 := HOB5.out
              intro b hb
              rcases h3 with h3 | ⟨g, h3, hge⟩
              · exact h0 b (by rw [← h3]; exact hb)
              · rw [h3] at hb; cases hb; omega
            have hg6 : Grow W0 w6 := (HG5.out.allocd _).modd h2 (fun b hb => HOB5.out b hb)
            have H6 := Lib.hid hP6; have HO6 := Lib.hid hOB6; have HG6 := Lib.hid hg6
            clear h1 h2 h3 hP6 hOB6 hg6
            go_wp2_with fail
            go_roundg (l.length - (k + 1))
            case measure => omega
            case rel => exact ⟨k + 1, ob6, by omega, rfl, by go_num, by rw [HF.out, HE2.out], by rw [HF.out]; exact H6.out, HO6.out, HG6.out⟩
          · obtain ⟨e1, e2⟩ := rmid_lt (p := p) hp hs
            have HE1 := Lib.hid e1; have HE2 := Lib.hid e2; clear e1 e2
            have hW : Grow wr (wr.alloc (.cells #[.string p.name, .int .i64 p.v.kind, .int .i64 p.v.n, .string p.v.s] 105)) := (Grow.rfl' wr).allocd _
            have HW := Lib.hid hW; clear hW
            go_wp2_with (at_builtin; go_must (refine wpList_append_S _ rfl (.tmp 43) (.tmp 48) 87 rfl 105 iP _ 4 48 Tryz.underlying87 hiP hzP0 hzP1 hzP2 rfl (by decide) (.slice oo (rmid o name x).length co) (rmid o name x).length _ ob rfl (HOWN.out.grow HW.out) (.slice (some ⟨wr.heap.size, 0, none⟩) 1 1) rfl 1 _ (Rd.lit (wr) #[.string p.name, .int .i64 p.v.kind, .int .i64 p.v.n, .string p.v.s] 105 4 1 rfl) (one4 _ _ _ _ rfl rfl rfl rfl) (by have := HLEN.out; unfold maxLen; omega) (by have := HLEN.out; omega) ?_))
            intro v5 w5 ob5 h1 h2 h3
            have hgW5 : Grow W0 w5 := (HGR.out.step HW.out).modd h2 (fun b hb => HOB.out b hb)
            have hOB5 : ∀ b, ob5 = some b → W0.heap.size ≤ b := by
              have hsz := HGR.out.size
              have h0 := HOB.out
              intro b hb
              rcases h3 with h3 | ⟨g, h3, hge⟩
              · exact h0 b (by rw [← h3]; exact hb)
              · rw [h3] at hb; cases hb; omega
            have hP5 : PropsO w5 v5 (rmid (o ++ [p]) name x) ob5 := by
              unfold PropsO; rw [HE1.out, flat_snoc, List.length_append]; exact h1
            have HG5 := Lib.hid hgW5; have HOB5 := Lib.hid hOB5; have HP5 := Lib.hid hP5
            clear h1 h2 h3 hgW5 hOB5 hP5
            go_wp2_with fail
            go_roundg (l.length - (k + 1))
            case measure => omega
            case rel => exact ⟨k + 1, ob5, by omega, rfl, by go_num, by rw [HF.out, HE2.out], by rw [HF.out]; exact HP5.out, HOB5.out, HG5.out⟩
        · obtain ⟨e1, e2⟩ := rmid_put (p := p) hp
          have HE1 := Lib.hid e1; have HE2 := Lib.hid e2; clear e1 e2
          have hW : Grow wr (wr.alloc (.cells #[.string p.name, .int .i64 p.v.kind, .int .i64 p.v.n, .string p.v.s] 105)) := (Grow.rfl' wr).allocd _
          have HW := Lib.hid hW; clear hW
          go_wp2_with (at_builtin; go_must (refine wpList_append_S _ rfl (.tmp 43) (.tmp 48) 87 rfl 105 iP _ 4 48 Tryz.underlying87 hiP hzP0 hzP1 hzP2 rfl (by decide) (.slice oo (rmid o name x).length co) (rmid o name x).length _ ob rfl (HOWN.out.grow HW.out) (.slice (some ⟨wr.heap.size, 0, none⟩) 1 1) rfl 1 _ (Rd.lit (wr) #[.string p.name, .int .i64 p.v.kind, .int .i64 p.v.n, .string p.v.s] 105 4 1 rfl) (one4 _ _ _ _ rfl rfl rfl rfl) (by have := HLEN.out; unfold maxLen; omega) (by have := HLEN.out; omega) ?_))
          intro v5 w5 ob5 h1 h2 h3
          have hgW5 : Grow W0 w5 := (HGR.out.step HW.out).modd h2 (fun b hb => HOB.out b hb)
          have hOB5 : ∀ b, ob5 = some b → W0.heap.size ≤ b := by
            have hsz := HGR.out.size
            have h0 := HOB.out
            intro b hb
            rcases h3 with h3 | ⟨g, h3, hge⟩
            · exact h0 b (by rw [← h3]; exact hb)
            · rw [h3] at hb; cases hb; omega
          have hP5 : PropsO w5 v5 (rmid (o ++ [p]) name x) ob5 := by
            unfold PropsO; rw [HE1.out, flat_snoc, List.length_append]; exact h1
          have HG5 := Lib.hid hgW5; have HOB5 := Lib.hid hOB5; have HP5 := Lib.hid hP5
          clear h1 h2 h3 hgW5 hOB5 hP5
          go_wp2_with fail
          go_roundg (l.length - (k + 1))
          case measure => omega
          case rel => exact ⟨k + 1, ob5, by omega, rfl, by go_num, by rw [HF.out, HE2.out], by rw [HF.out]; exact HP5.out, HOB5.out, HG5.out⟩
      · have HF := Lib.hid (show fil (l.take (k + 1)) name = fil (l.take k) name by rw [HT.out, fil_snoc_eq (of_decide_eq_true hn)])
        go_wp2_with fail
        go_roundg (l.length - (k + 1))
        case measure => omega
        case rel => exact ⟨k + 1, ob, by omega, rfl, by go_num, by rw [HF.out], by rw [HF.out]; exact HOWN.out, HOB.out, HGR.out⟩
    · have hkk : l.take k = l := List.take_of_length_le (by omega)
      rw [hkk] at HOWN HLEN
      simp only [hkk] at *
      have HEND := Lib.hid (rmid_end (l := l) (name := name) (x := x))
      generalize fil l name = o at *
      cases hp : rput o name x
      · have hW : Grow wr (wr.alloc (.cells #[.string name, .int .i64 x.kind, .int .i64 x.n, .string x.s] 105)) := (Grow.rfl' wr).allocd _
        have HW := Lib.hid hW; clear hW
        go_wp2_with (at_builtin; go_must (refine wpList_append_S _ rfl (.tmp 52) (.tmp 56) 87 rfl 105 iP _ 4 48 Tryz.underlying87 hiP hzP0 hzP1 hzP2 rfl (by decide) (.slice oo (rmid o name x).length co) (rmid o name x).length _ ob rfl (HOWN.out.grow HW.out) (.slice (some ⟨wr.heap.size, 0, none⟩) 1 1) rfl 1 _ (Rd.lit (wr) #[.string name, .int .i64 x.kind, .int .i64 x.n, .string x.s] 105 4 1 rfl) (one4 _ _ _ _ rfl rfl rfl rfl) (by have := HLEN.out; unfold maxLen; omega) (by have := HLEN.out; omega) ?_))
        intro v5 w5 ob5 h1 h2 h3
        have hgW5 : Grow W0 w5 := (HGR.out.step HW.out).modd h2 (fun b hb => HOB.out b hb)
        have hOB5 : ∀ b, ob5 = some b → W0.heap.size ≤ b := by
          have hsz := HGR.out.size
          have h0 := HOB.out
          intro b hb
          rcases h3 with h3 | ⟨g, h3, hge⟩
          · exact h0 b (by rw [← h3]; exact hb)
          · rw [h3] at hb; cases hb; omega
        have hP5 : PropsO w5 v5 (rmid o name x ++ [⟨name, x⟩]) ob5 := by
          unfold PropsO; rw [flat_snoc, List.length_append]; exact h1
        have HG5 := Lib.hid hgW5; have HOB5 := Lib.hid hOB5; have HP5 := Lib.hid hP5
        clear h1 h2 h3 hgW5 hOB5 hP5
        go_wp2_with fail
        go_ret
        refine ⟨_, rfl, ?_, HG0.out.step HG5.out⟩
        rw [HEND.out, hp, if_neg (by simp)]
        exact PropsR.sub HP5.out.props (fun b hb => by have := HOB5.out b hb; have := HS0.out; omega)
      · go_wp2_with fail
        go_ret
        refine ⟨_, rfl, ?_, HGW.out⟩
        rw [HEND.out, hp, if_pos rfl]
        exact PropsR.sub HOWN.out.props (fun b hb => by have := HOB.out b hb; have := HS0.out; omega)

end Go.Hg

namespace Go.Hg
open Go.RowKit Go.Proofs

theorem infoInt : (Tryz.prog.info? 2).map (fun i => (i.zero, i.size, i.bytes)) = some (some (.int .i64 0), 1, 8) := by kernel_rfl
theorem one1 (a : Value) (ha : a.oneCell' = true) : ∀ u ∈ [a], u.oneCell' = true := by
  intro u hu; simp only [List.mem_cons, List.not_mem_nil, or_false] at hu; subst hu; exact ha
end Go.Hg

namespace Go.Hg
open Go.RowKit Go.Proofs

abbrev OpsR (S : Nat → Prop) (w : World) (v : Value) (l : List POp) : Prop := SlR S w 10 (fun o r => r = POp.cells o) v l
def largeV (v : PVal) : Bool := decide (5000 < v.s.size)
def largeO (o : POp) : Bool := decide (1000 < o.typ.size) || (decide (1000 < o.name.size) || largeV o.v)
def fairOps (l : List POp) : Bool := (l.all fun o => !largeO o) && decide (l.length ≤ 200)

set_option maxHeartbeats 400000 in
theorem keepLargeValue (v : PVal) (w : World) : Calls Tryz.prog 61 #[.agg #[.int .i64 v.kind, .int .i64 v.n, .string v.s]] w fun e w' => e = .returned (.bool (largeV v)) ∧ Grow w w' := by
  have HW := Lib.hid (show ∀ o1, Grow w (w.alloc o1) from fun o1 => (Grow.rfl' w).allocd o1)
  have hd : decide ((5000 : Int) < (v.s.size : Int)) = largeV v := by unfold largeV; by_cases h : 5000 < v.s.size <;> simp [h] <;> omega
  go_enter Tryz.func61, Tryz.ntmps61
  go_wp2
  go_ret
  exact ⟨by first | (rw [← hd]; rfl) | rfl, HW.out _⟩

set_option maxRecDepth 100000 in
set_option maxHeartbeats 1000000 in
theorem keepLargeOp (o : POp) (w : World) : Calls Tryz.prog 38 #[o.args] w fun e w' => e = .returned (.bool (largeO o)) ∧ Grow w w' := by
  have HW := Lib.hid (show ∀ o1, Grow w (w.alloc o1) from fun o1 => (Grow.rfl' w).allocd o1)
  have HX := Lib.hid (show largeO o = (decide (1000 < o.typ.size) || (decide (1000 < o.name.size) || largeV o.v)) from rfl)
  have hd1 : decide ((1000 : Int) < (o.typ.size : Int)) = decide (1000 < o.typ.size) := by by_cases h : 1000 < o.typ.size <;> simp [h] <;> omega
  have hd2 : decide ((1000 : Int) < (o.name.size : Int)) = decide (1000 < o.name.size) := by by_cases h : 1000 < o.name.size <;> simp [h] <;> omega
  cases q1 : decide (1000 < o.typ.size)
  · rw [q1] at hd1
    cases q2 : decide (1000 < o.name.size)
    · rw [q2] at hd2
      have HY := Lib.hid (show largeO o = largeV o.v by rw [HX.out, q1, q2]; rfl)
      clear q1 q2
      go_enter Tryz.func38, Tryz.ntmps38
      go_wp2_with fail
      refine (keepLargeValue o.v _).mono ?_
      rintro e w2 ⟨rfl, hg⟩
      have HG := Lib.hid ((HW.out _).step hg); clear hg
      go_wp2
      go_ret
      exact ⟨by rw [HY.out]; rfl, HG.out⟩
    · rw [q2] at hd2
      have HY := Lib.hid (show largeO o = true by rw [HX.out, q1, q2]; rfl)
      clear q1 q2
      go_enter Tryz.func38, Tryz.ntmps38
      go_wp2
      go_ret
      exact ⟨by rw [HY.out]; rfl, HW.out _⟩
  · rw [q1] at hd1
    have HY := Lib.hid (show largeO o = true by rw [HX.out, q1]; rfl)
    clear q1
    go_enter Tryz.func38, Tryz.ntmps38
    go_wp2
    go_ret
    exact ⟨by rw [HY.out]; rfl, HW.out _⟩

theorem opCells {w wr : World} {o : POp} {r : List Value} {b off : Nat} (h : r = o.cells) (hb : b < w.heap.size) (g : Grow w wr) (hc : ∀ (j : Nat) c, r[j]? = some c → w.cell? ⟨b, off + j, none⟩ = some c) :
    b < wr.heap.size ∧ wr.cell? ⟨b, off, none⟩ = some (.int .i64 o.kind) ∧ wr.cell? ⟨b, off + 1, none⟩ = some (.int .i64 o.id) ∧ wr.cell? ⟨b, off + 2, none⟩ = some (.string o.typ) ∧
    wr.cell? ⟨b, off + 3, none⟩ = some (.int .i64 o.from_) ∧ wr.cell? ⟨b, off + 4, none⟩ = some (.int .i64 o.to_) ∧ wr.cell? ⟨b, off + 5, none⟩ = some (.string o.name) ∧ wr.cell? ⟨b, off + 6, none⟩ = some (.int .i64 o.v.kind) ∧
    wr.cell? ⟨b, off + 7, none⟩ = some (.int .i64 o.v.n) ∧ wr.cell? ⟨b, off + 8, none⟩ = some (.string o.v.s) ∧ wr.cell? ⟨b, off + 9, none⟩ = some (.bool o.cascade) := by
  subst h
  have e : ∀ o', wr.cell? ⟨b, o', none⟩ = w.cell? ⟨b, o', none⟩ := fun o' => World.cell?_of_block (w := w) (g.heapEq hb)
  have hs := g.size
  refine ⟨by omega, ?_, ?_, ?_, ?_, ?_, ?_, ?_, ?_, ?_, ?_⟩ <;> rw [e]
  · exact hc 0 _ rfl
  · exact hc 1 _ rfl
  · exact hc 2 _ rfl
  · exact hc 3 _ rfl
  · exact hc 4 _ rfl
  · exact hc 5 _ rfl
  · exact hc 6 _ rfl
  · exact hc 7 _ rfl
  · exact hc 8 _ rfl
  · exact hc 9 _ rfl

set_option maxRecDepth 100000 in
set_option maxHeartbeats 1000000 in
theorem lawFair (S : Nat → Prop) (v : Value) (l : List POp) (w : World) (hl : OpsR S w v l) :
    Calls Tryz.prog 36 #[v] w fun e w' => e = .returned (.bool (fairOps l)) ∧ Grow w w' := by
  obtain ⟨aa, ca, rfl, hal, hac, hA⟩ := SlR.open hl
  clear hl
  unfold maxLen at hac
  have HA := Lib.hid hA; clear hA
  have hd : decide ((l.length : Int) ≤ 200) = decide (l.length ≤ 200) := by by_cases h : l.length ≤ 200 <;> simp [h] <;> omega
  have HDD := Lib.hid hd; clear hd
  go_enter Tryz.func36, Tryz.ntmps36
  go_wp2
  go_loopg [3] l.length (fun g i wr => ∃ k : Nat, k ≤ l.length ∧ g = l.length - k ∧ i = .int .i64 k ∧ (∀ y ∈ l.take k, largeO y = false) ∧ Grow w wr)
  case atStart => exact ⟨0, by omega, by omega, rfl, by simp, Grow.rfl' w⟩
  case round =>
    obtain ⟨k, hk, rfl, rfl, hall, hgr⟩ := hrel
    have HALL := Lib.hid hall; have HGR := Lib.hid hgr; clear hall
    by_cases hkl : k < l.length
    · obtain ⟨ba, oa, ra, rfl, hSa, hba, hRa, hca⟩ := HA.out k l[k] (List.getElem?_eq_getElem hkl)
      obtain ⟨hba', a0, a1, a2, a3, a4, a5, a6, a7, a8, a9⟩ := opCells hRa hba hgr hca
      clear hca hRa hSa hba hgr
      have HM := Lib.hid (show l[k] ∈ l from List.getElem_mem hkl)
      have HT := Lib.hid (show l.take (k + 1) = l.take k ++ [l[k]] from List.take_succ_eq_append_getElem hkl)
      generalize l[k] = x at *
      go_wp2_with fail
      refine (keepLargeOp x _).mono ?_
      rintro e w2 ⟨rfl, hg⟩
      have HG := Lib.hid (HGR.out.step hg); clear hg
      cases hx : largeO x
      · go_wp2_with fail
        go_roundg (l.length - (k + 1))
        case measure => omega
        case rel => exact ⟨k + 1, by omega, rfl, by go_num, by rw [HT.out]; intro y hy; rcases List.mem_append.1 hy with h | h; exact HALL.out y h; simp at h; subst h; exact hx, HG.out⟩
      · have HF := Lib.hid (show fairOps l = false by unfold fairOps; rw [List.all_eq_false.2 ⟨x, HM.out, by rw [hx]; simp⟩]; rfl)
        go_wp2
        go_ret
        exact ⟨by rw [HF.out]; rfl, HG.out⟩
    · have HF := Lib.hid (show fairOps l = decide (l.length ≤ 200) by
        have h1 : l.take k = l := List.take_of_length_le (by omega)
        have h2 := HALL.out
        rw [h1] at h2
        unfold fairOps
        rw [List.all_eq_true.2 (fun y hy => by rw [h2 y hy]; rfl)]
        rfl)
      have hd := HDD.out
      clear hgr
      go_wp2
      go_ret
      exact ⟨by rw [HF.out]; first | rfl | (rw [← hd]; rfl), HGR.out⟩

end Go.Hg

namespace Go.Hg
open Go.RowKit Go.Proofs

def idxZ {α : Type} (f : α → Int) (l : List α) (id : Int) : Int := match l.findIdx? fun y => decide (f y = id) with | some k => (k : Int) | none => -1
theorem idxZ_at {α : Type} (f : α → Int) (l : List α) (id : Int) : IdxAt f l id (idxZ f l id) := by
  unfold idxZ
  cases h : l.findIdx? fun y => decide (f y = id) with
  | none =>
    rw [List.findIdx?_eq_none_iff] at h
    exact .inl ⟨rfl, List.any_eq_false.2 (fun y hy => by have := h y hy; simpa using this)⟩
  | some k =>
    obtain ⟨hl, he, -⟩ := List.findIdx?_eq_some_iff_getElem.1 h
    exact .inr ⟨k, l[k], rfl, List.getElem?_eq_getElem hl, by simpa using he, List.any_eq_true.2 ⟨l[k], List.getElem_mem hl, he⟩⟩
theorem idxZ_hit {α : Type} {f : α → Int} {l : List α} {id : Int} {k : Nat} {x : α} (hx : l[k]? = some x) (hid : f x = id) (hall : ∀ y ∈ l.take k, f y ≠ id) : idxZ f l id = k := by
  obtain ⟨hl, rfl⟩ := List.getElem?_eq_some_iff.1 hx
  have h : (l.findIdx? fun y => decide (f y = id)) = some k := List.findIdx?_eq_some_iff_getElem.2 ⟨hl, by simpa using hid, fun j hj => by
    have := hall l[j] (List.mem_take_iff_getElem.2 ⟨j, by omega, rfl⟩)
    simpa using this⟩
  unfold idxZ
  rw [h]
theorem idxZ_miss {α : Type} {f : α → Int} {l : List α} {id : Int} (hall : ∀ y ∈ l, f y ≠ id) : idxZ f l id = -1 := by
  have h : (l.findIdx? fun y => decide (f y = id)) = none := List.findIdx?_eq_none_iff.2 fun y hy => by have := hall y hy; simpa using this
  unfold idxZ
  rw [h]

set_option maxRecDepth 100000 in
set_option maxHeartbeats 1000000 in
theorem refNode (S : Nat → Prop) (B : Nat) (G : PGraph) (id : Int) (w : World) (h : GraphRd 86 S w B G) :
    Calls Tryz.prog 49 #[.pointer (some ⟨B, 0, none⟩), .int .i64 id] w fun e w' => e = .returned (.int .i64 (idxZ (fun x : PNode => x.id) G.nodes id)) ∧ w' = w := by
  obtain ⟨na, nc, ea, ec, hB, g0, g1, g2, hn, -⟩ := h.read
  obtain ⟨_, _, hv, hal, hac, hA⟩ := SlR.open hn
  simp only [Value.slice.injEq, true_and] at hv
  obtain ⟨rfl, rfl⟩ := hv
  unfold maxLen at hac
  have HA := Lib.hid hA
  clear h hn hA
  generalize hll : G.nodes = l at *
  have HLL := Lib.hid hll
  clear hll
  go_enter Tryz.func49, Tryz.ntmps49
  go_wp2
  go_loopg [5] l.length (fun g i wr => ∃ k : Nat, k ≤ l.length ∧ g = l.length - k ∧ i = .int .i64 k ∧ (∀ y ∈ l.take k, y.id ≠ id) ∧ wr = w)
  case atStart => exact ⟨0, by omega, by omega, rfl, by simp, rfl⟩
  case round =>
    obtain ⟨k, hk, rfl, rfl, hall, rfl⟩ := hrel
    have HALL := Lib.hid hall; clear hall
    by_cases hkl : k < l.length
    · obtain ⟨ba, oa, ra, rfl, hSa, hba, hRa, hca⟩ := HA.out k l[k] (List.getElem?_eq_getElem hkl)
      obtain ⟨pva, hba', a0, a1, a2, hpa⟩ := hRa.at hba (Grow.rfl' _) hca
      clear hca hRa hSa hba hpa
      have HE := Lib.hid (show l[k]? = some l[k] from List.getElem?_eq_getElem hkl)
      have HT := Lib.hid (show l.take (k + 1) = l.take k ++ [l[k]] from List.take_succ_eq_append_getElem hkl)
      generalize l[k] = x at *
      by_cases hx : x.id = id
      · have hx' : (x.id == id) = true := by simpa using hx
        have HX := Lib.hid hx
        clear hx
        go_wp2
        go_ret
        exact ⟨by rw [idxZ_hit HE.out HX.out HALL.out]; rfl, rfl⟩
      · have hx' : (x.id == id) = false := by simpa using hx
        have HX := Lib.hid hx
        clear hx
        go_wp2_with fail
        go_roundg (l.length - (k + 1))
        case measure => omega
        case rel => exact ⟨k + 1, by omega, rfl, by go_num, by rw [HT.out]; intro y hy; rcases List.mem_append.1 hy with h | h; exact HALL.out y h; simp at h; subst h; exact HX.out, rfl⟩
    · have h1 : l.take k = l := List.take_of_length_le (by omega)
      have h2 := HALL.out
      rw [h1] at h2
      have H2 := Lib.hid h2
      clear h1 h2
      go_wp2
      go_ret
      exact ⟨by rw [idxZ_miss H2.out]; rfl, rfl⟩

set_option maxRecDepth 100000 in
set_option maxHeartbeats 1000000 in
theorem refEdge (S : Nat → Prop) (B : Nat) (G : PGraph) (id : Int) (w : World) (h : GraphRd 86 S w B G) :
    Calls Tryz.prog 51 #[.pointer (some ⟨B, 0, none⟩), .int .i64 id] w fun e w' => e = .returned (.int .i64 (idxZ (fun x : PEdge => x.id) G.edges id)) ∧ w' = w := by
  obtain ⟨na, nc, ea, ec, hB, g0, g1, g2, -, hn⟩ := h.read
  obtain ⟨_, _, hv, hal, hac, hA⟩ := SlR.open hn
  simp only [Value.slice.injEq, true_and] at hv
  obtain ⟨rfl, rfl⟩ := hv
  unfold maxLen at hac
  have HA := Lib.hid hA
  clear h hn hA
  generalize hll : G.edges = l at *
  have HLL := Lib.hid hll
  clear hll
  go_enter Tryz.func51, Tryz.ntmps51
  go_wp2
  go_loopg [5] l.length (fun g i wr => ∃ k : Nat, k ≤ l.length ∧ g = l.length - k ∧ i = .int .i64 k ∧ (∀ y ∈ l.take k, y.id ≠ id) ∧ wr = w)
  case atStart => exact ⟨0, by omega, by omega, rfl, by simp, rfl⟩
  case round =>
    obtain ⟨k, hk, rfl, rfl, hall, rfl⟩ := hrel
    have HALL := Lib.hid hall; clear hall
    by_cases hkl : k < l.length
    · obtain ⟨ba, oa, ra, rfl, hSa, hba, hRa, hca⟩ := HA.out k l[k] (List.getElem?_eq_getElem hkl)
      obtain ⟨pva, hba', a0, a1, a2, a3, a4, hpa⟩ := hRa.at hba (Grow.rfl' _) hca
      clear hca hRa hSa hba hpa
      have HE := Lib.hid (show l[k]? = some l[k] from List.getElem?_eq_getElem hkl)
      have HT := Lib.hid (show l.take (k + 1) = l.take k ++ [l[k]] from List.take_succ_eq_append_getElem hkl)
      generalize l[k] = x at *
      by_cases hx : x.id = id
      · have hx' : (x.id == id) = true := by simpa using hx
        have HX := Lib.hid hx
        clear hx
        go_wp2
        go_ret
        exact ⟨by rw [idxZ_hit HE.out HX.out HALL.out]; rfl, rfl⟩
      · have hx' : (x.id == id) = false := by simpa using hx
        have HX := Lib.hid hx
        clear hx
        go_wp2_with fail
        go_roundg (l.length - (k + 1))
        case measure => omega
        case rel => exact ⟨k + 1, by omega, rfl, by go_num, by rw [HT.out]; intro y hy; rcases List.mem_append.1 hy with h | h; exact HALL.out y h; simp at h; subst h; exact HX.out, rfl⟩
    · have h1 : l.take k = l := List.take_of_length_le (by omega)
      have h2 := HALL.out
      rw [h1] at h2
      have H2 := Lib.hid h2
      clear h1 h2
      go_wp2
      go_ret
      exact ⟨by rw [idxZ_miss H2.out]; rfl, rfl⟩
end Go.Hg

namespace Go.Hg
open Go.RowKit Go.Proofs

def atG (G : PGraph) (id : Int) : List Int := (G.edges.filter fun x => atE x id).map (·.id)
set_option maxRecDepth 100000 in
set_option maxHeartbeats 2000000 in
theorem refAt (S : Nat → Prop) (B : Nat) (G : PGraph) (id : Int) (w : World) (h : GraphRd 86 S w B G) (hb : G.edges.length ≤ 1099511627776) :
    Calls Tryz.prog 47 #[.pointer (some ⟨B, 0, none⟩), .int .i64 id] w (IdsPost (atG G id) w) := by
  obtain ⟨na, nc, ea, ec, hB, c0, c1, c2, -, hn⟩ := h.read
  obtain ⟨iP, hiP, hzP0, hzP1, hzP2⟩ := info_parts infoInt
  obtain ⟨_, _, hv, hal, hac, hA⟩ := SlR.open hn
  simp only [Value.slice.injEq, true_and] at hv
  obtain ⟨rfl, rfl⟩ := hv
  unfold maxLen at hac
  have HS := Lib.hid (show ∀ w', Grow w w' → B < w'.heap.size ∧ w'.cell? ⟨B, 1, none⟩ = some (.slice ea G.edges.length ec) from fun w' hg => ⟨Nat.lt_of_lt_of_le hB hg.size, (hg.cell (p := ⟨B, 1, none⟩) hB).trans c1⟩)
  have HA := Lib.hid hA; have HB := Lib.hid hb
  clear h hn hA hb c0 c2
  unfold atG
  generalize G.edges = l at *
  go_enter Tryz.func47, Tryz.ntmps47
  go_wp2
  go_loopg [5, 6] l.length (fun g vo i wr => ∃ (k : Nat) (ob : Option Nat), k ≤ l.length ∧ g = l.length - k ∧ i = .int .i64 k ∧ IdsO wr vo (((l.take k).filter fun x => atE x id).map (·.id)) ob ∧ (∀ b, ob = some b → w.heap.size ≤ b) ∧ Grow w wr)
  case atStart => exact ⟨0, none, by omega, by omega, rfl, OwnS.nil _ _ _, by simp, Grow.rfl' w⟩
  case round =>
    obtain ⟨k, ob, hk, rfl, rfl, hown, hob, hgr⟩ := hrel
    have HOWN := Lib.hid hown; have HOB := Lib.hid hob; have HGR := Lib.hid hgr
    obtain ⟨oo, co, rfl, -, -⟩ := hown.isSlice
    obtain ⟨hBr, c1r⟩ := HS.out _ HGR.out
    clear c1
    by_cases hkl : k < l.length
    · obtain ⟨ba, oa, ra, rfl, hSa, hba, hRa, hca⟩ := HA.out k l[k] (List.getElem?_eq_getElem hkl)
      obtain ⟨pva, hba', a0, a1, a2, a3, a4, hpa⟩ := hRa.at hba hgr hca
      clear hca hRa hSa hba hgr hown hob hpa
      have HT := Lib.hid (show l.take (k + 1) = l.take k ++ [l[k]] from List.take_succ_eq_append_getElem hkl)
      have HFL := Lib.hid (show ((l.take k).filter fun x => atE x id).length ≤ l.length from Nat.le_trans (List.length_filter_le _ _) (List.length_take_le' k l))
      generalize l[k] = p at *
      generalize hfl : ((l.take k).filter fun x => atE x id).map (·.id) = fl at *
      have hfll : ((l.take k).filter fun x => atE x id).length = fl.length := by rw [← hfl, List.length_map]
      rw [hfll] at HFL
      have HFF := Lib.hid hfl
      clear hfl hfll
      by_cases hp1 : p.from_ = id
      · have hq1 : (p.from_ == id) = true := by simpa using hp1
        have HATE := Lib.hid (show atE p id = true by unfold atE; simp [hp1])
        clear hp1
        have HW := Lib.hid (show ∀ o1, Grow wr (wr.alloc o1) from fun o1 => (Grow.rfl' wr).allocd o1)
        have hf1 : Hid (((l.take (k + 1)).filter fun x => atE x id).map (·.id) = fl ++ [p.id]) := Lib.hid (by rw [HT.out, List.filter_append, ← HFF.out]; simp [HATE.out])
        have HRD := Lib.hid (Rd.lit wr #[.int .i64 p.id] 2 1 1 rfl)
        go_wp2_with (at_builtin; go_must (refine wpList_append_S _ rfl (.tmp 38) (.tmp 47) 92 rfl 2 iP _ 1 8 Tryz.underlying92 hiP hzP0 hzP1 hzP2 rfl (by decide) (.slice oo fl.length co) fl.length _ ob rfl (HOWN.out.grow (HW.out _)) (.slice (some ⟨wr.heap.size, 0, none⟩) 1 1) rfl 1 _ HRD.out (one1 _ rfl) (by have := HB.out; have := HFL.out; unfold maxLen; omega) (by have := HB.out; have := HFL.out; omega) ?_))
        intro v' w5 ob' h1 h2 h3
        have hown5 : IdsO w5 v' (((l.take (k + 1)).filter fun x => atE x id).map (·.id)) ob' := by
          rw [hf1.out]
          unfold IdsO
          rw [List.length_append, List.map_append]
          exact h1
        have hsz := HGR.out.size
        have hob5 : ∀ b, ob' = some b → w.heap.size ≤ b := by
          intro b hb
          rcases h3 with h3 | ⟨g, h3, hge⟩
          · exact HOB.out b (by rw [← h3]; exact hb)
          · rw [h3] at hb; cases hb; first | omega | (simp at hge; omega)
        have hg5 : Grow w w5 := (HGR.out.step (HW.out _)).modd h2 (fun b hb => HOB.out b hb)
        have H5 := Lib.hid hown5; have HO5 := Lib.hid hob5; have HG5 := Lib.hid hg5
        clear h1 h2 h3 hown5 hob5 hg5 hsz
        go_wp2_with fail
        go_roundg (l.length - (k + 1))
        case measure => omega
        case rel => exact ⟨k + 1, ob', by omega, rfl, by go_num, H5.out, HO5.out, HG5.out⟩
      · have hq1 : (p.from_ == id) = false := by simpa using hp1
        by_cases hp2 : p.to_ = id
        · have hq2 : (p.to_ == id) = true := by simpa using hp2
          have HATE := Lib.hid (show atE p id = true by unfold atE; simp [hp2])
          clear hp1 hp2
          have HW := Lib.hid (show ∀ o1, Grow wr (wr.alloc o1) from fun o1 => (Grow.rfl' wr).allocd o1)
          have hf1 : Hid (((l.take (k + 1)).filter fun x => atE x id).map (·.id) = fl ++ [p.id]) := Lib.hid (by rw [HT.out, List.filter_append, ← HFF.out]; simp [HATE.out])
          have HRD := Lib.hid (Rd.lit wr #[.int .i64 p.id] 2 1 1 rfl)
          go_wp2_with (at_builtin; go_must (refine wpList_append_S _ rfl (.tmp 38) (.tmp 47) 92 rfl 2 iP _ 1 8 Tryz.underlying92 hiP hzP0 hzP1 hzP2 rfl (by decide) (.slice oo fl.length co) fl.length _ ob rfl (HOWN.out.grow (HW.out _)) (.slice (some ⟨wr.heap.size, 0, none⟩) 1 1) rfl 1 _ HRD.out (one1 _ rfl) (by have := HB.out; have := HFL.out; unfold maxLen; omega) (by have := HB.out; have := HFL.out; omega) ?_))
          intro v' w5 ob' h1 h2 h3
          have hown5 : IdsO w5 v' (((l.take (k + 1)).filter fun x => atE x id).map (·.id)) ob' := by
            rw [hf1.out]
            unfold IdsO
            rw [List.length_append, List.map_append]
            exact h1
          have hsz := HGR.out.size
          have hob5 : ∀ b, ob' = some b → w.heap.size ≤ b := by
            intro b hb
            rcases h3 with h3 | ⟨g, h3, hge⟩
            · exact HOB.out b (by rw [← h3]; exact hb)
            · rw [h3] at hb; cases hb; first | omega | (simp at hge; omega)
          have hg5 : Grow w w5 := (HGR.out.step (HW.out _)).modd h2 (fun b hb => HOB.out b hb)
          have H5 := Lib.hid hown5; have HO5 := Lib.hid hob5; have HG5 := Lib.hid hg5
          clear h1 h2 h3 hown5 hob5 hg5 hsz
          go_wp2_with fail
          go_roundg (l.length - (k + 1))
          case measure => omega
          case rel => exact ⟨k + 1, ob', by omega, rfl, by go_num, H5.out, HO5.out, HG5.out⟩
        · have hq2 : (p.to_ == id) = false := by simpa using hp2
          have HATE := Lib.hid (show atE p id = false by unfold atE; simp [hp1, hp2])
          clear hp1 hp2
          have hf1 : Hid (((l.take (k + 1)).filter fun x => atE x id).map (·.id) = fl) := Lib.hid (by rw [HT.out, List.filter_append, ← HFF.out]; simp [HATE.out])
          go_wp2_with fail
          go_roundg (l.length - (k + 1))
          case measure => omega
          case rel => exact ⟨k + 1, ob, by omega, rfl, by go_num, by rw [hf1.out]; exact HOWN.out, HOB.out, HGR.out⟩
    · have hkk : l.take k = l := List.take_of_length_le (by omega)
      rw [hkk] at HOWN
      clear hown hob hgr
      simp only [hkk]
      go_wp2
      go_ret
      exact ⟨_, ob, rfl, HOWN.out, HOB.out, HGR.out⟩

def RPropsPost (S : Nat → Prop) (G : PGraph) (id : Int) (w : World) (e : Ending) (w' : World) : Prop :=
  ((findP G id = none ∧ e = .returned (.tuple #[.slice none 0 0, .bool false])) ∨ ∃ ps pv, findP G id = some ps ∧ e = .returned (.tuple #[pv, .bool true]) ∧ PropsR S w pv ps) ∧ w' = w
theorem idxZ_none {α : Type} {f : α → Int} {l : List α} {id : Int} (h : (l.any fun y => decide (f y = id)) = false) : idxZ f l id = -1 :=
  idxZ_miss fun y hy => by have := List.any_eq_false.1 h y hy; simpa using this
theorem idxZ_some {α : Type} {f : α → Int} {l : List α} {id : Int} (h : (l.any fun y => decide (f y = id)) = true) : ∃ (k : Nat) (x : α), idxZ f l id = k ∧ k < l.length ∧ l[k]? = some x ∧ f x = id := by
  rcases idxZ_at f l id with ⟨-, h2⟩ | ⟨k, x, h1, h2, h3, -⟩
  · rw [h] at h2; cases h2
  · exact ⟨k, x, h1, (List.getElem?_eq_some_iff.1 h2).1, h2, h3⟩
theorem findP_node {G : PGraph} {id : Int} {k : Nat} {x : PNode} (hs : (G.nodes.map (·.id)).Pairwise (· < ·)) (hx : G.nodes[k]? = some x) (hid : x.id = id) : findP G id = some x.props := by
  unfold findP
  rw [find_idx (fun x : PNode => x.id) hs hx hid]
theorem findP_edge {G : PGraph} {id : Int} {k : Nat} {x : PEdge} (hn : hasN G id = false) (hs : (G.edges.map (·.id)).Pairwise (· < ·)) (hx : G.edges[k]? = some x) (hid : x.id = id) : findP G id = some x.props := by
  unfold findP
  rw [find_none (fun x : PNode => x.id) hn, find_idx (fun x : PEdge => x.id) hs hx hid]
theorem findP_no {G : PGraph} {id : Int} (hn : hasN G id = false) (he : hasE G id = false) : findP G id = none := by
  unfold findP
  rw [find_none (fun x : PNode => x.id) hn, find_none (fun x : PEdge => x.id) he]
set_option maxRecDepth 100000 in
set_option maxHeartbeats 2000000 in
theorem refProps (S : Nat → Prop) (B : Nat) (G : PGraph) (id : Int) (w : World) (h : GraphRd 86 S w B G) (hs : (G.nodes.map (·.id)).Pairwise (· < ·)) (hse : (G.edges.map (·.id)).Pairwise (· < ·)) :
    Calls Tryz.prog 76 #[.pointer (some ⟨B, 0, none⟩), .int .i64 id] w (RPropsPost S G id w) := by
  have HR := Lib.hid h; have HSN := Lib.hid hs; have HSE := Lib.hid hse
  obtain ⟨na, nc, ea, ec, hB, c0, c1, c2, hn, he⟩ := h.read
  obtain ⟨_, _, hv, hal, hac, hA⟩ := SlR.open hn
  simp only [Value.slice.injEq, true_and] at hv
  obtain ⟨rfl, rfl⟩ := hv
  obtain ⟨_, _, hv, hel, hec, hE⟩ := SlR.open he
  simp only [Value.slice.injEq, true_and] at hv
  obtain ⟨rfl, rfl⟩ := hv
  unfold maxLen at hac hec
  have HA := Lib.hid hA; have HE := Lib.hid hE
  clear h hn he hA hE hs hse
  go_enter Tryz.func76, Tryz.ntmps76
  go_wp2_with fail
  refine (refNode S B G id _ HR.out).mono ?_
  rintro e w2 ⟨rfl, rfl⟩
  cases hN : hasN G id
  · rw [idxZ_none (f := fun x : PNode => x.id) hN]
    have HN := Lib.hid hN; clear hN
    go_wp2_with fail
    refine (refEdge S B G id _ HR.out).mono ?_
    rintro e w2 ⟨rfl, rfl⟩
    cases hE : hasE G id
    · rw [idxZ_none (f := fun x : PEdge => x.id) hE]
      have HX := Lib.hid (findP_no HN.out hE); clear hE
      go_wp2
      go_ret2
      exact ⟨.inl ⟨HX.out, rfl⟩, rfl⟩
    · obtain ⟨k, x, hz, hkl, hx, hid⟩ := idxZ_some (f := fun x : PEdge => x.id) hE
      rw [hz]
      have HX := Lib.hid (findP_edge HN.out HSE.out hx hid)
      obtain ⟨ba, oa, ra, rfl, hSa, hba, hRa, hca⟩ := HE.out k x hx
      obtain ⟨pva, hba', a0, a1, a2, a3, a4, hpa⟩ := hRa.at hba (Grow.rfl' _) hca
      obtain ⟨pa, pc, rfl⟩ := hpa.isSlice
      have HPA := Lib.hid hpa
      have hk0 : decide ((0 : Int) ≤ (k : Int)) = true := by simp
      clear hE hz hx hid hca hRa hSa hba hpa
      go_wp2
      go_ret2
      exact ⟨.inr ⟨x.props, _, HX.out, rfl, HPA.out⟩, rfl⟩
  · obtain ⟨k, x, hz, hkl, hx, hid⟩ := idxZ_some (f := fun x : PNode => x.id) hN
    rw [hz]
    have HX := Lib.hid (findP_node HSN.out hx hid)
    obtain ⟨ba, oa, ra, rfl, hSa, hba, hRa, hca⟩ := HA.out k x hx
    obtain ⟨pva, hba', a0, a1, a2, hpa⟩ := hRa.at hba (Grow.rfl' _) hca
    obtain ⟨pa, pc, rfl⟩ := hpa.isSlice
    have HPA := Lib.hid hpa
    have hk0 : decide ((0 : Int) ≤ (k : Int)) = true := by simp
    clear hN hz hx hid hca hRa hSa hba hpa
    go_wp2
    go_ret2
    exact ⟨.inr ⟨x.props, _, HX.out, rfl, HPA.out⟩, rfl⟩
end Go.Hg

namespace Go.Hg
open Go.RowKit Go.Proofs

theorem ob_case {o o' : Option Nat} {n m : Nat} (h : o' = o ∨ ∃ g, o' = some g ∧ m ≤ g) (hn : n ≤ m) (ho : ∀ g, o = some g → n ≤ g) : ∀ g, o' = some g → n ≤ g := by
  intro g hg
  rcases h with h | ⟨g', h, hm⟩
  · exact ho g (h ▸ hg)
  · rw [h] at hg
    cases hg
    omega
theorem raddN_close {T : TypeId} {S R : Nat → Prop} {w wA w5 w6 : World} {B : Nat} {G : PGraph} {on oe on5 : Option Nat} {ev v5 : Value} {rows : List (List Value)} {o : POp}
    (h2 : S B) (h3 : ¬ R B) (h4 : ∀ b, R b → S b ∧ b < w.heap.size) (h5 : ∀ g, on = some g → S g ∧ ¬ R g ∧ g ≠ B ∧ g < w.heap.size ∧ oe ≠ some g) (h6 : ∀ g, oe = some g → S g ∧ ¬ R g ∧ g ≠ B ∧ g < w.heap.size ∧ on ≠ some g)
    (h8 : OwnL w 91 5 (REdge R w) ev G.edges oe) (r1 : rows.length = G.nodes.length) (r3 : ∀ (k : Nat) x r, G.nodes[k]? = some x → rows[k]? = some r → RNode R w x r ∧ r.length = 3)
    (hA : Mod (fun b => b = B) w wA) (k1 : OwnS w5 89 3 v5 (G.nodes.length + 1) (rows.flatten ++ [.int .i64 G.next, .string o.typ, .slice none 0 0]) on5) (k2 : Mod (fun k => on = some k) wA w5)
    (k3 : on5 = on ∨ ∃ g, on5 = some g ∧ wA.heap.size ≤ g) (m56 : Mod (fun b => b = B) w5 w6) (hb6 : w6.heap[B]? = some (.cells #[v5, ev, .int .i64 (G.next + 1)] T (0, 0))) (hBw : B < w.heap.size) :
    GraphOk T (fun b => S b ∨ w.heap.size ≤ b) w6 B (addNodeG o G) ∧ Mod S w w6 := by
  have m5 : Mod (fun b => b = B ∨ on = some b) w w5 := (hA.mono (fun _ h => .inl h)).step (k2.mono (fun _ h => .inr h))
  have m6 : Mod (fun b => b = B ∨ on = some b) w w6 := m5.step (m56.mono (fun _ h => .inl h))
  have hsz := hA.size
  have hR : ∀ b, R b → ¬ (b = B ∨ on = some b) := fun b hb h => h.elim (fun e => h3 (e ▸ hb)) (fun e => (h5 b e).2.1 hb)
  have h5B : ∀ g, on5 = some g → g ≠ B ∧ (S g ∨ w.heap.size ≤ g) ∧ ¬ R g := by
    intro g hg
    rcases k3 with k3 | ⟨g', k3, hge⟩
    · rw [k3] at hg
      exact ⟨(h5 g hg).2.2.1, .inl (h5 g hg).1, (h5 g hg).2.1⟩
    · rw [k3] at hg; cases hg
      exact ⟨by omega, .inr (by omega), fun hh => by have := (h4 _ hh).2; omega⟩
  refine ⟨⟨v5, ev, R, on5, oe, hb6, .inl h2, h3, fun b hb => ⟨.inl (h4 b hb).1, Nat.lt_of_lt_of_le (h4 b hb).2 m6.size⟩, fun g hg => (h5B g hg).2, fun g hg => ⟨.inl (h6 g hg).1, (h6 g hg).2.1⟩, ?_, ?_⟩, m6.mono (fun b hb => hb.elim (fun e => e ▸ h2) (fun e => (h5 b e).1))⟩
  · refine ⟨rows ++ [[.int .i64 G.next, .string o.typ, .slice none 0 0]], by show _ = (G.nodes ++ [_]).length; simp [r1], fun k y r hk hk' => ?_, ?_⟩
    · change (G.nodes ++ [_])[k]? = some y at hk
      by_cases hlt : k < G.nodes.length
      · rw [List.getElem?_append_left hlt] at hk
        rw [List.getElem?_append_left (by omega)] at hk'
        obtain ⟨a, b⟩ := r3 k y r hk hk'
        exact ⟨a.mod m6 hR, b⟩
      · rw [List.getElem?_append_right (by omega)] at hk
        rw [List.getElem?_append_right (by omega), r1] at hk'
        have e : k - G.nodes.length = 0 := by have := (List.getElem?_eq_some_iff.1 hk).1; simp at this; omega
        rw [e] at hk hk'
        simp at hk hk'
        subst hk; subst hk'
        exact ⟨⟨_, rfl, PropsR.nil _ _⟩, rfl⟩
    · have h := k1.keep (w' := w6) (fun g hg => m56.block g (k1.lt g hg) (h5B g hg).1)
      show OwnS _ _ _ _ (G.nodes ++ [_]).length _ _
      rw [List.length_append, List.length_singleton]
      simpa using h
  · exact h8.edgesMod m6 (fun g hg h => h.elim (h6 g hg).2.2.1 (h6 g hg).2.2.2.2) hR

theorem raddE_close {T : TypeId} {S R : Nat → Prop} {w wA w5 w6 : World} {B : Nat} {G : PGraph} {on oe on5 : Option Nat} {nv v5 : Value} {rows : List (List Value)} {o : POp}
    (h2 : S B) (h3 : ¬ R B) (h4 : ∀ b, R b → S b ∧ b < w.heap.size) (h5 : ∀ g, on = some g → S g ∧ ¬ R g ∧ g ≠ B ∧ g < w.heap.size ∧ oe ≠ some g) (h6 : ∀ g, oe = some g → S g ∧ ¬ R g ∧ g ≠ B ∧ g < w.heap.size ∧ on ≠ some g)
    (h7 : OwnL w 89 3 (RNode R w) nv G.nodes on) (r1 : rows.length = G.edges.length) (r3 : ∀ (k : Nat) x r, G.edges[k]? = some x → rows[k]? = some r → REdge R w x r ∧ r.length = 5)
    (hA : Mod (fun b => b = B) w wA) (k1 : OwnS w5 91 5 v5 (G.edges.length + 1) (rows.flatten ++ [.int .i64 G.next, .string o.typ, .int .i64 o.from_, .int .i64 o.to_, .slice none 0 0]) on5) (k2 : Mod (fun k => oe = some k) wA w5)
    (k3 : on5 = oe ∨ ∃ g, on5 = some g ∧ wA.heap.size ≤ g) (m56 : Mod (fun b => b = B) w5 w6) (hb6 : w6.heap[B]? = some (.cells #[nv, v5, .int .i64 (G.next + 1)] T (0, 0))) (hBw : B < w.heap.size) :
    GraphOk T (fun b => S b ∨ w.heap.size ≤ b) w6 B (addEdgeG o G) ∧ Mod S w w6 := by
  have m5 : Mod (fun b => b = B ∨ oe = some b) w w5 := (hA.mono (fun _ h => .inl h)).step (k2.mono (fun _ h => .inr h))
  have m6 : Mod (fun b => b = B ∨ oe = some b) w w6 := m5.step (m56.mono (fun _ h => .inl h))
  have hsz := hA.size
  have hR : ∀ b, R b → ¬ (b = B ∨ oe = some b) := fun b hb h => h.elim (fun e => h3 (e ▸ hb)) (fun e => (h6 b e).2.1 hb)
  have h5B : ∀ g, on5 = some g → g ≠ B ∧ (S g ∨ w.heap.size ≤ g) ∧ ¬ R g := by
    intro g hg
    rcases k3 with k3 | ⟨g', k3, hge⟩
    · rw [k3] at hg
      exact ⟨(h6 g hg).2.2.1, .inl (h6 g hg).1, (h6 g hg).2.1⟩
    · rw [k3] at hg; cases hg
      exact ⟨by omega, .inr (by omega), fun hh => by have := (h4 _ hh).2; omega⟩
  refine ⟨⟨nv, v5, R, on, on5, hb6, .inl h2, h3, fun b hb => ⟨.inl (h4 b hb).1, Nat.lt_of_lt_of_le (h4 b hb).2 m6.size⟩, fun g hg => ⟨.inl (h5 g hg).1, (h5 g hg).2.1⟩, fun g hg => (h5B g hg).2, ?_, ?_⟩, m6.mono (fun b hb => hb.elim (fun e => e ▸ h2) (fun e => (h6 b e).1))⟩
  · exact h7.nodesMod m6 (fun g hg h => h.elim (h5 g hg).2.2.1 (h5 g hg).2.2.2.2) hR
  · refine ⟨rows ++ [[.int .i64 G.next, .string o.typ, .int .i64 o.from_, .int .i64 o.to_, .slice none 0 0]], by show _ = (G.edges ++ [_]).length; simp [r1], fun k y r hk hk' => ?_, ?_⟩
    · change (G.edges ++ [_])[k]? = some y at hk
      by_cases hlt : k < G.edges.length
      · rw [List.getElem?_append_left hlt] at hk
        rw [List.getElem?_append_left (by omega)] at hk'
        obtain ⟨a, b⟩ := r3 k y r hk hk'
        exact ⟨a.mod m6 hR, b⟩
      · rw [List.getElem?_append_right (by omega)] at hk
        rw [List.getElem?_append_right (by omega), r1] at hk'
        have e : k - G.edges.length = 0 := by have := (List.getElem?_eq_some_iff.1 hk).1; simp at this; omega
        rw [e] at hk hk'
        simp at hk hk'
        subst hk; subst hk'
        exact ⟨⟨_, rfl, PropsR.nil _ _⟩, rfl⟩
    · have h := k1.keep (w' := w6) (fun g hg => m56.block g (k1.lt g hg) (h5B g hg).1)
      show OwnS _ _ _ _ (G.edges ++ [_]).length _ _
      rw [List.length_append, List.length_singleton]
      simpa using h

theorem rcutN_close {T : TypeId} {S R : Nat → Prop} {w w6 w7 : World} {B k : Nat} {G : PGraph} {on oe o6 : Option Nat} {ev v6 : Value} {rows : List (List Value)}
    (h2 : S B) (h3 : ¬ R B) (h4 : ∀ b, R b → S b ∧ b < w.heap.size) (_h5 : ∀ g, on = some g → S g ∧ ¬ R g ∧ g ≠ B ∧ g < w.heap.size ∧ oe ≠ some g) (h6 : ∀ g, oe = some g → S g ∧ ¬ R g ∧ g ≠ B ∧ g < w.heap.size ∧ on ≠ some g)
    (h8 : OwnL w 91 5 (REdge R w) ev G.edges oe) (r1 : rows.length = G.nodes.length) (r2 : ∀ r ∈ rows, r.length = 3) (r3 : ∀ (k : Nat) x r, G.nodes[k]? = some x → rows[k]? = some r → RNode R w x r ∧ r.length = 3)
    (hkl : k < G.nodes.length) (k1 : OwnS w6 89 3 v6 (G.nodes.length - 1) (rows.flatten.take (k * 3) ++ rows.flatten.drop ((k + 1) * 3)) o6) (k2 : Grow w w6)
    (k3 : ∀ g, o6 = some g → w.heap.size ≤ g) (m67 : Mod (fun b => b = B) w6 w7) (hb7 : w7.heap[B]? = some (.cells #[v6, ev, .int .i64 G.next] T (0, 0))) (hBw : B < w.heap.size) :
    GraphOk T (fun b => S b ∨ w.heap.size ≤ b) w7 B ⟨G.nodes.take k ++ G.nodes.drop (k + 1), G.edges, G.next⟩ ∧ Mod (fun b => b = B) w w7 := by
  have m7 : Mod (fun b => b = B) w w7 := (Mod.of_grow k2).step m67
  have hRB : ∀ b, R b → ¬ (b = B) := fun b hb e => h3 (e ▸ hb)
  refine ⟨⟨v6, ev, R, o6, oe, hb7, .inl h2, h3, fun b hb => ⟨.inl (h4 b hb).1, Nat.lt_of_lt_of_le (h4 b hb).2 m7.size⟩, fun g hg => ⟨.inr (k3 g hg), fun hh => by have := (h4 _ hh).2; have := k3 g hg; omega⟩, fun g hg => ⟨.inl (h6 g hg).1, (h6 g hg).2.1⟩, ?_, ?_⟩, m7⟩
  · refine OwnL.erase r1 r2 r3 (fun x r _ hR => hR.mod m7 hRB) hkl ?_
    exact k1.keep (fun g hg => m67.block g (k1.lt g hg) (fun e => by have := k3 g hg; omega))
  · exact h8.edgesMod m7 (fun g hg e => (h6 g hg).2.2.1 e) hRB

theorem rcutE_close {T : TypeId} {S R : Nat → Prop} {w w6 w7 : World} {B k : Nat} {G : PGraph} {on oe o6 : Option Nat} {nv v6 : Value} {rows : List (List Value)}
    (h2 : S B) (h3 : ¬ R B) (h4 : ∀ b, R b → S b ∧ b < w.heap.size) (h5 : ∀ g, on = some g → S g ∧ ¬ R g ∧ g ≠ B ∧ g < w.heap.size ∧ oe ≠ some g) (_h6 : ∀ g, oe = some g → S g ∧ ¬ R g ∧ g ≠ B ∧ g < w.heap.size ∧ on ≠ some g)
    (h7 : OwnL w 89 3 (RNode R w) nv G.nodes on) (r1 : rows.length = G.edges.length) (r2 : ∀ r ∈ rows, r.length = 5) (r3 : ∀ (k : Nat) x r, G.edges[k]? = some x → rows[k]? = some r → REdge R w x r ∧ r.length = 5)
    (hkl : k < G.edges.length) (k1 : OwnS w6 91 5 v6 (G.edges.length - 1) (rows.flatten.take (k * 5) ++ rows.flatten.drop ((k + 1) * 5)) o6) (k2 : Grow w w6)
    (k3 : ∀ g, o6 = some g → w.heap.size ≤ g) (m67 : Mod (fun b => b = B) w6 w7) (hb7 : w7.heap[B]? = some (.cells #[nv, v6, .int .i64 G.next] T (0, 0))) (hBw : B < w.heap.size) :
    GraphOk T (fun b => S b ∨ w.heap.size ≤ b) w7 B ⟨G.nodes, G.edges.take k ++ G.edges.drop (k + 1), G.next⟩ ∧ Mod (fun b => b = B) w w7 := by
  have m7 : Mod (fun b => b = B) w w7 := (Mod.of_grow k2).step m67
  have hRB : ∀ b, R b → ¬ (b = B) := fun b hb e => h3 (e ▸ hb)
  refine ⟨⟨nv, v6, R, on, o6, hb7, .inl h2, h3, fun b hb => ⟨.inl (h4 b hb).1, Nat.lt_of_lt_of_le (h4 b hb).2 m7.size⟩, fun g hg => ⟨.inl (h5 g hg).1, (h5 g hg).2.1⟩, fun g hg => ⟨.inr (k3 g hg), fun hh => by have := (h4 _ hh).2; have := k3 g hg; omega⟩, ?_, ?_⟩, m7⟩
  · exact h7.nodesMod m7 (fun g hg e => (h5 g hg).2.2.1 e) hRB
  · refine OwnL.erase r1 r2 r3 (fun x r _ hR => hR.mod m7 hRB) hkl ?_
    exact k1.keep (fun g hg => m67.block g (k1.lt g hg) (fun e => by have := k3 g hg; omega))

set_option maxRecDepth 100000 in
set_option maxHeartbeats 4000000 in
theorem refCut (S : Nat → Prop) (B : Nat) (G : PGraph) (id : Int) (w : World) (h : GraphOk 86 S w B G) (hi : G.edges.length ≤ 1024) (hs : (G.edges.map (·.id)).Pairwise (· < ·)) (hn : hasE G id = true) :
    Calls Tryz.prog 48 #[.pointer (some ⟨B, 0, none⟩), .int .i64 id] w fun e w' => (∃ v, e = .returned v) ∧ GraphOk 86 (fun b => S b ∨ w.heap.size ≤ b) w' B ⟨G.nodes, G.edges.filter (fun x => !decide (x.id = id)), G.next⟩ ∧ Mod (fun b => b = B) w w' := by
  obtain ⟨iP, hiP, hzP0, hzP1, hzP2⟩ := info_parts infoEdge
  have HRD := Lib.hid h.rd
  obtain ⟨nv, ev, R, on, oe, h1, h2, h3, h4, h5, h6, h7, h8⟩ := h.parts (by decide) (by decide)
  have H2 := Lib.hid h2; have H3 := Lib.hid h3; have H4 := Lib.hid h4; have H5 := Lib.hid h5; have H6 := Lib.hid h6; have H7 := Lib.hid h7; have H8 := Lib.hid h8
  have HLN := Lib.hid hi; have HS := Lib.hid hs
  have HBW := Lib.hid h1
  have hBW : B < w.heap.size := blk_lt h1
  obtain ⟨k, x, hz, hkl, hx, hid⟩ := idxZ_some (f := fun x : PEdge => x.id) hn
  have HZ := Lib.hid hz; have HX := Lib.hid hx; have HXI := Lib.hid hid
  clear h h1 h2 h3 h4 h5 h6 h7 h8 hi hs hn hz hx hid
  obtain ⟨rows, hr1, hr2, hr3, hos⟩ := H8.out.rowLen
  have HR1 := Lib.hid hr1; have HR2 := Lib.hid hr2; have HR3 := Lib.hid hr3
  have hxl := hos.1
  obtain ⟨g, cap, cur, hnv, hog, hblk, hnc, hcm, hcs, htk⟩ : ∃ g cap, ∃ cur : Array Value, ev = .slice (some ⟨g, 0, none⟩) G.edges.length cap ∧ oe = some g ∧ w.heap[g]? = some (.cells cur 91 (0, 0)) ∧ G.edges.length ≤ cap ∧ cap ≤ maxLen ∧ cur.size = cap * 5 ∧ cur.toList.take (G.edges.length * 5) = rows.flatten := by
    rcases hos.2 with ⟨_, _, h, _⟩ | ⟨g, cap, cur, h1, h2, h3, h4, h5, h6, h7⟩
    · omega
    · exact ⟨g, cap, cur, h1, h2, h3, h4, h5, h6, h7⟩
  subst hnv
  have hgw : g < w.heap.size := blk_lt hblk
  have hrd1 : ∀ w', Grow w w' → Rd w' 5 (.slice (some ⟨g, 0, none⟩) k cap) k (rows.flatten.take (k * 5)) := fun w' hg => ⟨by rw [List.length_take, hxl]; have := Nat.mul_le_mul_right 5 (Nat.le_of_lt hkl); omega, _, _, rfl, .inr ⟨_, rfl, fun j u hu => by
    rw [Addr.add_lit, blk_cell ((hg.heapEq hgw).trans hblk), ← Array.getElem?_toList]
    rw [← htk, List.take_take, List.getElem?_take] at hu
    split at hu
    · simpa using hu
    · cases hu⟩⟩
  have hrd2 : ∀ w' o c, Grow w w' → (cap = k + 1 ∨ o = (k + 1) * 5) → Rd w' 5 (.slice (some ⟨g, o, none⟩) (G.edges.length - (k + 1)) c) (G.edges.length - (k + 1)) (rows.flatten.drop ((k + 1) * 5)) := fun w' o c hg ho => ⟨by rw [List.length_drop, hxl, Nat.sub_mul], _, _, rfl, by
    rcases ho with ho | rfl
    · exact .inl (by omega)
    · exact .inr ⟨_, rfl, fun j u hu => by
        rw [Addr.add_lit, blk_cell ((hg.heapEq hgw).trans hblk), ← Array.getElem?_toList]
        rw [← htk, List.getElem?_drop, List.getElem?_take] at hu
        split at hu
        · exact hu
        · cases hu⟩⟩
  have HRD1 := Lib.hid hrd1; have HRD2 := Lib.hid hrd2
  have HOS0 := Lib.hid (OwnS.lit w.drew #[] 91 5 0 (by unfold maxLen; omega) (by simp))
  have HG1 := Lib.hid (show ∀ o1, Grow w (w.drew.alloc o1) from fun o1 => ((Grow.rfl' w).drewd).allocd o1)
  have HONE := Lib.hid (OwnL.one_flatE HR1.out HR3.out)
  have g0 : w.cell? ⟨B, 1, none⟩ = some (.slice (some ⟨g, 0, none⟩) G.edges.length cap) := by rw [blk_cell HBW.out]; rfl
  have f0 := blk_free HBW.out 1
  have hq1 : (0 : Int) ≤ (k : Int) + 1 := by omega
  have hq2 : (k : Int) ≤ (k : Int) + 1 := by omega
  have hq3 : (k : Int) + 1 ≤ (G.edges.length : Int) := by omega
  have hq4 : ((k : Int) + 1).toNat = k + 1 := by omega
  have hq5 : (G.edges.length : Int) ≤ (cap : Int) := by omega
  have hq6 : (k : Int) ≤ (cap : Int) := by omega
  have hq7 : IntKind.i64.wrap ((k : Int) + 1) = (k : Int) + 1 := by have := HLN.out; rw [IntKind.wrap_i64]; omega
  have HHOG := Lib.hid hog
  clear hr1 hr2 hr3 hos hxl hblk hcs htk hrd1 hrd2 hog
  unfold maxLen at hcm
  clear g0 f0
  go_enter Tryz.func48, Tryz.ntmps48
  go_wp2_with fail
  refine (refEdge S B G id _ HRD.out).mono ?_
  rintro e w2 ⟨rfl, hw2⟩
  rw [hw2, HZ.out]
  clear hw2 w2
  have g0 : w.cell? ⟨B, 1, none⟩ = some (.slice (some ⟨g, 0, none⟩) G.edges.length cap) := (blk_cell HBW.out 1).trans rfl
  have f0 := blk_free HBW.out 1
  by_cases hce : cap = k + 1
  · have hnk : G.edges.length = k + 1 := by omega
    have HRD3 := Lib.hid (show ∀ w', Grow w w' → Rd w' 5 (.slice (some ⟨g, 0, none⟩) 0 0) 0 (rows.flatten.drop ((k + 1) * 5)) from fun w' hg => by
      have := HRD2.out w' 0 0 hg (.inl hce)
      rwa [hnk, Nat.sub_self] at this)
    subst hce
    go_wp2_with fail
    go_region_law (first | (refine step_append_S rfl (.tmp 9) (.tmp 15) 84 rfl 91 iP _ 5 64 Tryz.underlying84 hiP hzP0 hzP1 hzP2 rfl (by decide) (.slice (some ⟨w.heap.size, 0, none⟩) 0 0) 0 [] (some w.heap.size) (by rfl) HOS0.out (.slice (some ⟨g, 0, none⟩) k (k + 1)) (by rfl) k _ (HRD1.out _ (HG1.out _)) (fun u hu => HONE.out u (List.mem_of_mem_take hu)) (by have := HLN.out; unfold maxLen; omega) (by have := HLN.out; omega) ?_; intro v5 w5 o5 k1 k2 k3 k4; rw [Nat.zero_add, List.nil_append] at k1; obtain ⟨oa5, cap5, rfl, -, -⟩ := k1.isSlice; have K1 := Lib.hid k1; have K2 := Lib.hid ((HG1.out _).modd k2 (fun b hb => by cases hb; exact Nat.le_refl _)); have K3 := Lib.hid (ob_case k3 (HG1.out _).size (fun g hg => by cases hg; exact Nat.le_refl _)); have hb5 := (K2.out.heapEq hBW).trans HBW.out; have HB5 := Lib.hid hb5; have hB5 := blk_lt hb5; have q0 : w5.cell? ⟨B, 1, none⟩ = some (.slice (some ⟨g, 0, none⟩) G.edges.length (k + 1)) := (blk_cell hb5 1).trans rfl; have qf := blk_free hb5 1; clear hb5 k1 k2 k3 k4) | (refine step_append_S rfl (.tmp 16) (.tmp 23) 84 rfl 91 iP _ 5 64 Tryz.underlying84 hiP hzP0 hzP1 hzP2 rfl (by decide) (.slice oa5 k cap5) k _ o5 (by rfl) K1.out (.slice (some ⟨g, 0, none⟩) 0 0) (by rfl) 0 _ (HRD3.out _ K2.out) (fun u hu => HONE.out u (List.mem_of_mem_drop hu)) (by have := HLN.out; unfold maxLen; omega) (by have := HLN.out; omega) ?_; intro v6 w6 o6 j1 j2 j3 j4; rw [show k + 0 = G.edges.length - 1 by omega] at j1; obtain ⟨oa6, cap6, rfl, -, -⟩ := j1.isSlice; have J1 := Lib.hid j1; have J2 := Lib.hid (K2.out.modd j2 (fun b hb => K3.out b hb)); have J3 := Lib.hid (ob_case j3 K2.out.size K3.out); have hb6 := (J2.out.heapEq hBW).trans HBW.out; have HB6 := Lib.hid hb6; have hB6 := blk_lt hb6; have r0 : w6.cell? ⟨B, 1, none⟩ = some (.slice (some ⟨g, 0, none⟩) G.edges.length (k + 1)) := (blk_cell hb6 1).trans rfl; have rf6 := blk_free hb6 1; clear hb6 j1 j2 j3 j4))
    all_goals
      go_wp2
      go_end0
      have hcl := rcutE_close H2.out H3.out H4.out H5.out H6.out H7.out HR1.out HR2.out HR3.out hkl J1.out J2.out J3.out ((Mod.rfl' (fun b => b = B) w6).setd (p := ⟨B, 1, none⟩) (.inl rfl) _) (heap_setCell_same w6 B 1 _ _ _ HB6.out) hBW
      try rw [show G.edges.length - 1 = k by omega] at hcl
      refine ⟨⟨_, rfl⟩, ?_, hcl.2⟩
      rw [filter_idx (fun x : PEdge => x.id) HS.out HX.out HXI.out]
      exact hcl.1
  · have hcd : ¬ cap = k + 1 := hce
    go_wp2_with fail
    go_region_law (first | (refine step_append_S rfl (.tmp 9) (.tmp 15) 84 rfl 91 iP _ 5 64 Tryz.underlying84 hiP hzP0 hzP1 hzP2 rfl (by decide) (.slice (some ⟨w.heap.size, 0, none⟩) 0 0) 0 [] (some w.heap.size) (by rfl) HOS0.out (.slice (some ⟨g, 0, none⟩) k cap) (by rfl) k _ (HRD1.out _ (HG1.out _)) (fun u hu => HONE.out u (List.mem_of_mem_take hu)) (by have := HLN.out; unfold maxLen; omega) (by have := HLN.out; omega) ?_; intro v5 w5 o5 k1 k2 k3 k4; rw [Nat.zero_add, List.nil_append] at k1; obtain ⟨oa5, cap5, rfl, -, -⟩ := k1.isSlice; have K1 := Lib.hid k1; have K2 := Lib.hid ((HG1.out _).modd k2 (fun b hb => by cases hb; exact Nat.le_refl _)); have K3 := Lib.hid (ob_case k3 (HG1.out _).size (fun g hg => by cases hg; exact Nat.le_refl _)); have hb5 := (K2.out.heapEq hBW).trans HBW.out; have HB5 := Lib.hid hb5; have hB5 := blk_lt hb5; have q0 : w5.cell? ⟨B, 1, none⟩ = some (.slice (some ⟨g, 0, none⟩) G.edges.length cap) := (blk_cell hb5 1).trans rfl; have qf := blk_free hb5 1; clear hb5 k1 k2 k3 k4) | (refine step_append_S rfl (.tmp 16) (.tmp 23) 84 rfl 91 iP _ 5 64 Tryz.underlying84 hiP hzP0 hzP1 hzP2 rfl (by decide) (.slice oa5 k cap5) k _ o5 (by rfl) K1.out (.slice (some ⟨g, ((k + 1) * 5), none⟩) (G.edges.length - (k + 1)) (cap - (k + 1))) (by rfl) (G.edges.length - (k + 1)) _ (HRD2.out _ _ _ K2.out (.inr rfl)) (fun u hu => HONE.out u (List.mem_of_mem_drop hu)) (by have := HLN.out; unfold maxLen; omega) (by have := HLN.out; omega) ?_; intro v6 w6 o6 j1 j2 j3 j4; rw [show k + (G.edges.length - (k + 1)) = G.edges.length - 1 by omega] at j1; obtain ⟨oa6, cap6, rfl, -, -⟩ := j1.isSlice; have J1 := Lib.hid j1; have J2 := Lib.hid (K2.out.modd j2 (fun b hb => K3.out b hb)); have J3 := Lib.hid (ob_case j3 K2.out.size K3.out); have hb6 := (J2.out.heapEq hBW).trans HBW.out; have HB6 := Lib.hid hb6; have hB6 := blk_lt hb6; have r0 : w6.cell? ⟨B, 1, none⟩ = some (.slice (some ⟨g, 0, none⟩) G.edges.length cap) := (blk_cell hb6 1).trans rfl; have rf6 := blk_free hb6 1; clear hb6 j1 j2 j3 j4))
    all_goals
      go_wp2
      go_end0
      have hcl := rcutE_close H2.out H3.out H4.out H5.out H6.out H7.out HR1.out HR2.out HR3.out hkl J1.out J2.out J3.out ((Mod.rfl' (fun b => b = B) w6).setd (p := ⟨B, 1, none⟩) (.inl rfl) _) (heap_setCell_same w6 B 1 _ _ _ HB6.out) hBW
      try rw [show G.edges.length - 1 = k by omega] at hcl
      refine ⟨⟨_, rfl⟩, ?_, hcl.2⟩
      rw [filter_idx (fun x : PEdge => x.id) HS.out HX.out HXI.out]
      exact hcl.1
end Go.Hg
