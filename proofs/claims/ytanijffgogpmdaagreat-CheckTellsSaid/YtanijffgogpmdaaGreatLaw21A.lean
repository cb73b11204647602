/- law21.wakes; keep.LargeRule, Longs of any. No condition. -/
import Derived.Test.YtanijffgogpmdaaGreatChkL
import Derived.Test.YtanijffgogpmdaaGreatChkK
import Derived.Test.YtanijffgogpmdaaGreatChkN
namespace Go.Hg
open Go.RowKit Go.Proofs

theorem rulesLit (W : World) (l : List PRule) (hm : l.length ≤ maxLen) {nb : Nat} (h : W.heap.size = nb) : SlR (fun _ => True) (W.alloc (.cells (l.map PRule.cells).flatten.toArray 24)) 8 RRule (.slice (some ⟨nb, 0, none⟩) l.length l.length) l := by
  subst h
  have hf : (l.map PRule.cells).flatten.length = l.length * 8 := by
    clear hm
    induction l with
    | nil => rfl
    | cons a t ih => simp only [List.map_cons, List.flatten_cons, List.length_append, ih, List.length_cons]; simp; omega
  have h1 := OwnS.lit W (l.map PRule.cells).flatten.toArray 24 8 l.length hm (by simpa using hf)
  have h2 : OwnL (W.alloc (.cells (l.map PRule.cells).flatten.toArray 24)) 24 8 RRule (.slice (some ⟨W.heap.size, 0, none⟩) l.length l.length) l (some W.heap.size) := ⟨l.map PRule.cells, by simp, fun k x r hx hr => by
    rw [List.getElem?_map, hx] at hr
    simp only [Option.map_some, Option.some.injEq] at hr
    subst hr
    exact ⟨rfl, rfl⟩, by simpa using h1⟩
  exact h2.toSl (fun _ _ => trivial)

def sB : ByteArray := ⟨#[98]⟩
def w21r5 : PRule := ⟨5, 2, sCity, sA, ByteArray.empty, ByteArray.empty, 0, 2⟩
def w21r3 : PRule := ⟨3, 2, sCity, sB, ByteArray.empty, ByteArray.empty, 0, 2⟩
theorem w21_fair : fairOps [wo1] = true := by decide
theorem w21_made : madeG [wo1] = wG1 := by unfold madeG madeK; exact wg1
theorem w21_first : firstR wG1.nodes wG1.edges [w21r5, w21r3] = some 3 := by decide
theorem w21_brok : BrokenR wG1.nodes wG1.edges w21r5 [1] := ⟨fun h => absurd h (by decide), fun _ => by unfold BrkR; rw [if_neg (by decide), if_pos (by decide)]; decide⟩
theorem opsLit1 (W : World) (o : POp) {nb : Nat} (h : W.heap.size = nb) : OpsR (fun _ => True) (W.alloc (.cells o.cells.toArray 44)) (.slice (some ⟨nb, 0, none⟩) 1 1) [o] := by
  subst h
  exact opsOwn (l := [o]) (ob := some W.heap.size) (by
    have h1 := OwnS.lit W o.cells.toArray 44 10 1 (by simp [maxLen]) rfl
    simpa using h1)

set_option maxRecDepth 100000 in
set_option maxHeartbeats 4000000 in
theorem law21Wakes (w : World) : Calls Tryz.prog 14 #[] w fun e w' => e = .returned (.bool true) ∧ Grow w w' := by
  have HO1 := Lib.hid (opsLit1 w wo1 rfl)
  have HW := Lib.hid (show ∀ o1, Grow w (w.alloc o1) from fun o1 => (Grow.rfl' w).allocd o1)
  go_enter Tryz.func14, Tryz.ntmps14
  go_wp2_with fail
  refine (lawMade _ _ [wo1] _ HO1.out).mono ?_
  rintro e w2 h2
  obtain ⟨-, B1, B2, rfl, hpr⟩ : fairOps [wo1] = true ∧ ∃ (B1 B2 : Nat), e = .returned (.tuple #[.pointer (some ⟨B1, 0, none⟩), .pointer (some ⟨B2, 0, none⟩), .bool true]) ∧ Pair 120 55 _ w2 B1 B2 (madeG [wo1]) (madeG [wo1]) := by
    rcases h2 with ⟨h, _⟩ | h
    · rw [w21_fair] at h; cases h
    · exact h
  rw [w21_made] at hpr
  have HG2 := Lib.hid ((HW.out _).step hpr.grown)
  obtain ⟨S1, hok⟩ := hpr.left
  have HGA := Lib.hid (gAt_of hok.rd wi1); have HGN := Lib.hid (gNode_of hok.rd wi1)
  have HRL := Lib.hid (rulesLit w2 [w21r5, w21r3] (by simp [maxLen]) rfl)
  have HA2 := Lib.hid (show ∀ o1 o2, Grow w2 ((w2.alloc o1).alloc o2) from fun o1 o2 => ((Grow.rfl' w2).allocd o1).allocd o2)
  have HNB := Lib.hid (show ∀ o1 o2 w', Grow ((w2.alloc o1).alloc o2) w' → w'.heap[w2.heap.size]? = some o1 ∧ w'.heap[w2.heap.size + 1]? = some o2 from fun o1 o2 w' g => by
    have h2 := heap_alloc_new (w2.alloc o1) o2
    rw [World.size_alloc] at h2
    exact ⟨(g.heapEq (by simp; omega)).trans ((((Grow.rfl' (w2.alloc o1)).allocd o2).heapEq (by simp)).trans (heap_alloc_new w2 o1)), (g.heapEq (by simp)).trans h2⟩)
  clear hpr hok h2
  go_wp2_with fail
  refine (checkWhole _ _ _ [w21r5, w21r3] _ _ _ _ _ _ _ (HGA.out.grow (HA2.out _ _)) (HRL.out.growS ((Grow.rfl' _).allocd _)) (by decide) ⟨⟨_, _, _, rfl⟩, ⟨_, _, _, rfl⟩, ⟨_, _, _, rfl⟩, ⟨_, rfl⟩⟩).mono ?_
  rintro e w3 ⟨rfl, g3⟩
  rw [w21_first]
  have HG3 := Lib.hid ((HA2.out _ _).step g3)
  obtain ⟨hn0, hn1⟩ := HNB.out _ _ w3 g3
  have hl1 := blk_lt hn1
  have d0 : w3.cell? ⟨w2.heap.size + 1, 0, none⟩ = some (.slice none 0 0) := (blk_cell hn1 _).trans rfl
  have d1 : w3.cell? ⟨w2.heap.size + 1, 1, none⟩ = some (.slice none 0 0) := (blk_cell hn1 _).trans rfl
  have d2 : w3.cell? ⟨w2.heap.size + 1, 2, none⟩ = some (.slice (some ⟨w2.heap.size, 0, none⟩) 2 2) := (blk_cell hn1 _).trans rfl
  have d3 : w3.cell? ⟨w2.heap.size + 1, 3, none⟩ = some (.slice none 0 0) := (blk_cell hn1 _).trans rfl
  have d4 : w3.cell? ⟨w2.heap.size + 1, 4, none⟩ = some (.int .i64 0) := (blk_cell hn1 _).trans rfl
  have HN0 := Lib.hid hn0; have HN1 := Lib.hid hn1
  have HRL3 := Lib.hid ((HRL.out.growS ((Grow.rfl' _).allocd _)).growS g3)
  clear g3 hn0 hn1
  go_wp2_with fail
  refine (checkCommit _ (fun _ => True) _ _ _ _ _ _ _ _ (.slice none 0 0) [w21r5, w21r3] [] w3 (HGA.out.grow HG3.out) (by decide) HRL3.out ⟨none, 0, [], rfl, Nat.le_refl _, by simp [maxLen], rfl, by simp, by simp⟩ (by decide) (by decide) ⟨⟨_, _, _, rfl⟩, ⟨_, _, _, rfl⟩, ⟨_, _, _, rfl⟩, ⟨_, rfl⟩⟩).mono ?_
  rintro e w4 ⟨rfl, g4⟩
  have HG4 := Lib.hid (HG3.out.step g4)
  have hn0 := (g4.heapEq (blk_lt HN0.out)).trans HN0.out
  have hn1 := (g4.heapEq (blk_lt HN1.out)).trans HN1.out
  have hl1 := blk_lt hn1
  have hl0 := blk_lt hn0
  have e2 : w4.cell? ⟨w2.heap.size + 1, 2, none⟩ = some (.slice (some ⟨w2.heap.size, 0, none⟩) 2 2) := (blk_cell hn1 _).trans rfl
  have f0 : w4.cell? ⟨w2.heap.size, 0, none⟩ = some (.int .i64 5) := (blk_cell hn0 _).trans rfl
  have f1 : w4.cell? ⟨w2.heap.size, 1, none⟩ = some (.int .i64 2) := (blk_cell hn0 _).trans rfl
  have f2 : w4.cell? ⟨w2.heap.size, 2, none⟩ = some (.string sCity) := (blk_cell hn0 _).trans rfl
  have f3 : w4.cell? ⟨w2.heap.size, 3, none⟩ = some (.string sA) := (blk_cell hn0 _).trans rfl
  have f4 : w4.cell? ⟨w2.heap.size, 4, none⟩ = some (.string ByteArray.empty) := (blk_cell hn0 _).trans rfl
  have f5 : w4.cell? ⟨w2.heap.size, 5, none⟩ = some (.string ByteArray.empty) := (blk_cell hn0 _).trans rfl
  have f6 : w4.cell? ⟨w2.heap.size, 6, none⟩ = some (.int .i64 0) := (blk_cell hn0 _).trans rfl
  have f7 : w4.cell? ⟨w2.heap.size, 7, none⟩ = some (.int .i64 2) := (blk_cell hn0 _).trans rfl
  clear g4 hn0 hn1 d0 d1 d2 d3 d4
  go_wp2_with fail
  refine (checkBroken _ _ _ w21r5 w4 (HGA.out.grow HG4.out) (HGN.out.grow HG4.out) (by decide) (by decide) (by decide)).mono ?_
  rintro e w5 ⟨v5, L, rfl, hL, hv5, g5⟩
  obtain rfl : L = [1] := hL.uniq w21_brok
  obtain ⟨a5, c5, rfl, _, _, hA⟩ := SlR.open hv5
  obtain ⟨b5, o5, r5, rfl, -, hb5, rfl, hc⟩ := hA 0 1 rfl
  have k0 : w5.cell? ⟨b5, o5, none⟩ = some (.int .i64 1) := by simpa using hc 0 _ rfl
  have HG5 := Lib.hid (HG2.out.step (HG4.out.step g5))
  clear hL hv5 g5 hA hc e2 f0 f1 f2 f3 f4 f5 f6 f7
  go_wp2
  go_ret
  exact ⟨rfl, HG5.out⟩
end Go.Hg
