/- (undo.Trail).Mark, Back; (undo.Trail).Back; Two graphs side by side, the program's and the reference's; hedgerowlaw17.Same of equal ones; The graph of wakes, of layer 18; law18.Made as the laws behind it want it; small facts; (undo.Trail).Done, Marks. Conditions: those that each theorem names. -/
import Derived.WalkKit
import Derived.WalkSpells
import Derived.WalkLawsBesides
import Derived.Lib.Hide
import Derived.BigQuiet
import Derived.Deep.LoopGhost
import Derived.Maps.OwnOps
import Derived.Maps.OwnSet
import Derived.Carry
import Derived.Test.YtfachjfohhhgeaaGreatRows
import Derived.Lib.SlKeysI
import Derived.Lib.SliceRun
import Derived.WideMake
import Derived.Deep.RegionLaw
import Derived.Lib.Overlaps
import Derived.Deep.RegionHeld3
import Derived.Laws.ResultCell
import Derived.Shelf.SlSortCmp.WholeK
import Derived.Laws.EntriesVeiled
import Derived.Test.YtfachjfohhhgeaaGreatUdJ
namespace Go.Hg
open Go.RowKit Go.Proofs

theorem TrailAt.newM {S K : Nat → Prop} {ol om om' : Option Nat} {w w5 : World} {A B : Nat} {T : PTrail} {mv' : Value} {m' : List (ByteArray × Nat)} (h : TrailAt S K ol om w A B T) (m5 : Mod (fun b => om = some b) w w5) (hm : OwnL w5 81 2 RMark mv' m' om') (h1 : om' = om ∨ ∃ g, om' = some g ∧ w.heap.size ≤ g) :
    TrailAt S K ol om' (w5.setCell ⟨A, 2, none⟩ mv') A B ⟨T.g, T.l, m'⟩ := by
  obtain ⟨lv, mv, q1, q2, q3, q4, q5, q6, q7, q8, q9⟩ := h
  have hA := blk_lt q1
  have m : Mod (fun b => om = some b ∨ b = A) w (w5.setCell ⟨A, 2, none⟩ mv') := (m5.mono (fun _ h => .inl h)).setd (p := ⟨A, 2, none⟩) (.inl (.inr rfl)) _
  have m6 : Mod (fun b => b = A) w5 (w5.setCell ⟨A, 2, none⟩ mv') := (Mod.rfl' (fun b => b = A) w5).setd (p := ⟨A, 2, none⟩) (.inl rfl) _
  have h2 : ∀ g, om' = some g → ¬ K g ∧ g ≠ A ∧ ¬ S g ∧ ol ≠ some g := fun g hg => by
    rcases h1 with h | ⟨g', h, hge⟩
    · rw [h] at hg
      exact ⟨(q8 g hg).1, (q8 g hg).2, fun hh => (q5 g hh).2.2.2.1 hg, fun hh => (q7 g hh).2.2 hg⟩
    · rw [h] at hg; cases hg
      exact ⟨fun hh => by have := q9 _ hh; omega, by omega, fun hh => by have := (q5 _ hh).2.2.2.2; omega, fun hh => by have := q2.lt _ hh; omega⟩
  refine ⟨lv, mv', heap_setCell_same w5 A 2 _ _ _ (blk_mod q1 m5 (fun hh => (q8 A hh).2 rfl)), q2.keep (fun g hg => m.block g (q2.lt g hg) (fun hh => hh.elim (q7 g hg).2.2 (q7 g hg).2.1)) (fun x r _ hR => ?_), hm.keep (fun g hg => m6.block g (hm.lt g hg) (h2 g hg).2.1) (fun _ _ _ h => h), q4.keep m (fun b hb hh => hh.elim (q5 b hb).2.2.2.1 (q5 b hb).2.1), fun b hb => ?_, q6, fun g hg => ⟨(q7 g hg).1, (q7 g hg).2.1, fun h => (h2 g h).2.2.2 hg⟩, fun g hg => ⟨(h2 g hg).1, (h2 g hg).2.1⟩, fun b hb => Nat.lt_of_lt_of_le (q9 b hb) m.size⟩
  · obtain ⟨fv, hr, hb⟩ := hR
    exact ⟨fv, hr, hb.mod m (fun b hb hh => hh.elim (fun h => (q8 b h).1 hb) (fun h => q6 (h ▸ hb)))⟩
  · obtain ⟨a, b, c, d, e⟩ := q5 b hb
    exact ⟨a, b, c, fun h => (h2 _ h).2.2.1 hb, Nat.lt_of_lt_of_le e m.size⟩
theorem TrailAt.newL {S K : Nat → Prop} {ol ol' om : Option Nat} {w w5 : World} {A B : Nat} {T : PTrail} {lv' : Value} {l' : List (POp × PGraph)} (h : TrailAt S K ol om w A B T) (m5 : Mod (fun b => ol = some b) w w5) (hl : OwnL w5 78 11 (RChg K w5 B) lv' l' ol') (h1 : ol' = ol ∨ ∃ g, ol' = some g ∧ w.heap.size ≤ g) :
    TrailAt S K ol' om (w5.setCell ⟨A, 1, none⟩ lv') A B ⟨T.g, l', T.marks⟩ := by
  obtain ⟨lv, mv, q1, q2, q3, q4, q5, q6, q7, q8, q9⟩ := h
  have hA := blk_lt q1
  have m : Mod (fun b => ol = some b ∨ b = A) w (w5.setCell ⟨A, 1, none⟩ lv') := (m5.mono (fun _ h => .inl h)).setd (p := ⟨A, 1, none⟩) (.inl (.inr rfl)) _
  have m6 : Mod (fun b => b = A) w5 (w5.setCell ⟨A, 1, none⟩ lv') := (Mod.rfl' (fun b => b = A) w5).setd (p := ⟨A, 1, none⟩) (.inl rfl) _
  have h2 : ∀ g, ol' = some g → ¬ K g ∧ g ≠ A ∧ ¬ S g ∧ om ≠ some g := fun g hg => by
    rcases h1 with h | ⟨g', h, hge⟩
    · rw [h] at hg
      exact ⟨(q7 g hg).1, (q7 g hg).2.1, fun hh => (q5 g hh).2.2.1 hg, (q7 g hg).2.2⟩
    · rw [h] at hg; cases hg
      exact ⟨fun hh => by have := q9 _ hh; omega, by omega, fun hh => by have := (q5 _ hh).2.2.2.2; omega, fun hh => by have := q3.lt _ hh; omega⟩
  refine ⟨lv', mv, heap_setCell_same w5 A 1 _ _ _ (blk_mod q1 m5 (fun hh => (q7 A hh).2.1 rfl)), hl.keep (fun g hg => m6.block g (hl.lt g hg) (h2 g hg).2.1) (fun x r _ hR => ?_), q3.keep (fun g hg => m.block g (q3.lt g hg) (fun hh => hh.elim (fun h => (q7 g h).2.2 hg) (q8 g hg).2)) (fun _ _ _ h => h), q4.keep m (fun b hb hh => hh.elim (q5 b hb).2.2.1 (q5 b hb).2.1), fun b hb => ?_, q6, fun g hg => ⟨(h2 g hg).1, (h2 g hg).2.1, (h2 g hg).2.2.2⟩, q8, fun b hb => Nat.lt_of_lt_of_le (q9 b hb) m.size⟩
  · obtain ⟨fv, hr, hb⟩ := hR
    exact ⟨fv, hr, hb.mod m6 (fun b hb hh => q6 (hh ▸ hb))⟩
  · obtain ⟨a, b, c, d, e⟩ := q5 b hb
    exact ⟨a, b, fun h => (h2 _ h).2.2.1 hb, d, Nat.lt_of_lt_of_le e m.size⟩
theorem markFin {S K : Nat → Prop} {ol om om5 : Option Nat} {w w3 w5 : World} {A B : Nat} {T : PTrail} {P : Nat → Prop} {m : List (ByteArray × Nat)} {name : ByteArray} {rows : List (List Value)} {v5 : Value} (hat : TrailAt S K ol om w3 A B ⟨T.g, T.l, m⟩) (g3 : Mod P w w3) (o : Obj)
    (r1 : rows.length = m.length) (r2 : ∀ (k : Nat) x r, m[k]? = some x → rows[k]? = some r → RMark x r ∧ r.length = 2) (k2 : Mod (fun k => om = some k) (w3.drew.alloc o) w5) (k3 : om5 = om ∨ ∃ g, om5 = some g ∧ (w3.drew.alloc o).heap.size ≤ g)
    (k1 : OwnS w5 81 2 v5 (m.length + 1) (rows.flatten ++ [.string name, .int .i64 T.l.length]) om5) (p1 : P A) (p2 : ∀ b, S b → P b) (p3 : ∀ b, K b → P b) (p4 : ∀ g, ol = some g → P g) (p5 : ∀ g, om = some g → P g) :
    TrailOk (fun b => P b ∨ w.heap.size ≤ b) (w5.setCell ⟨A, 2, none⟩ v5) A B ⟨T.g, T.l, m ++ [(name, T.l.length)]⟩ ∧ Mod P w (w5.setCell ⟨A, 2, none⟩ v5) := by
  have gd : Grow w3 (w3.drew.alloc o) := ((Grow.rfl' w3).drewd).allocd o
  have hsz := gd.size
  have hs3 := g3.size
  have hm5 : Mod (fun k => om = some k) w3 w5 := (Mod.of_grow gd).step k2
  have k3' : om5 = om ∨ ∃ g, om5 = some g ∧ w3.heap.size ≤ g := k3.imp id (fun ⟨g, h1, h2⟩ => ⟨g, h1, Nat.le_trans hsz h2⟩)
  have hown : OwnL w5 81 2 RMark v5 (m ++ [(name, T.l.length)]) om5 := by
    obtain ⟨c1, c2⟩ := joinRows (Q := RMark) (sz := 2) (m := [(name, T.l.length)]) (r2 := [[.string name, .int .i64 T.l.length]]) r1 r2 rfl (fun k y r hy hr => by
      cases k with
      | zero => simp at hy hr; subst hy; subst hr; exact ⟨rfl, rfl⟩
      | succ k => simp at hy)
    refine ⟨_, c1, c2, ?_⟩
    rw [List.flatten_append, List.length_append]
    simpa using k1
  refine ⟨⟨S, K, ol, om5, hat.newM hm5 hown k3', .inl p1, fun b hb => .inl (p2 b hb), fun b hb => .inl (p3 b hb), fun g hg => .inl (p4 g hg), fun g hg => ?_⟩, ?_⟩
  · rcases k3' with h | ⟨g', h, hge⟩
    · exact .inl (p5 g (h ▸ hg))
    · rw [h] at hg; cases hg; exact .inr (by omega)
  · exact (g3.step (hm5.mono (fun b hb => p5 b hb))).setd (p := ⟨A, 2, none⟩) (.inl p1) _

def markT (T : PTrail) (name : ByteArray) : Int × PTrail :=
  if ¬ NameOk name then (1, T) else if (T.marks.filter fun x => !decide (x.1 = name)).length = 8 then (3, T) else (0, ⟨T.g, T.l, (T.marks.filter fun x => !decide (x.1 = name)) ++ [(name, T.l.length)]⟩)
theorem idx_none {l : List (ByteArray × Nat)} {name : ByteArray} (h : ∀ x ∈ l, x.1 ≠ name) : (l.filter fun x => !decide (x.1 = name)) = l := List.filter_eq_self.2 (fun x hx => by simpa using h x hx)
theorem idx_some {l : List (ByteArray × Nat)} {name : ByteArray} {k : Nat} {x : ByteArray × Nat} (hn : (l.map (·.1)).Nodup) (hx : l[k]? = some x) (he : x.1 = name) : (l.filter fun x => !decide (x.1 = name)) = l.take k ++ l.drop (k + 1) := by
  subst he
  have hk := (List.getElem?_eq_some_iff.1 hx).1
  have e : l = l.take k ++ x :: l.drop (k + 1) := by
    have h1 : l[k] = x := (List.getElem?_eq_some_iff.1 hx).2
    rw [← h1, ← List.drop_eq_getElem_cons hk, List.take_append_drop]
  have hn2 := hn
  rw [e, List.map_append, List.map_cons, List.nodup_append, List.nodup_cons] at hn2
  obtain ⟨-, ⟨h2, -⟩, h3⟩ := hn2
  conv => lhs; rw [e]
  rw [List.filter_append, List.filter_cons, List.filter_eq_self.2 (fun y hy => by
    have := h3 y.1 (List.mem_map_of_mem hy) x.1 (by simp)
    simpa using this), List.filter_eq_self.2 (fun y hy => by
    have : y.1 ≠ x.1 := fun he => h2 (he ▸ List.mem_map_of_mem hy)
    simpa using this)]
  simp

def MarkPost (P : Nat → Prop) (A B : Nat) (T : PTrail) (name : ByteArray) (w : World) (e : Ending) (w' : World) : Prop :=
  e = .returned (.int .i64 (markT T name).1) ∧ TrailOk (fun b => P b ∨ w.heap.size ≤ b) w' A B (markT T name).2 ∧ Mod P w w'
set_option maxRecDepth 100000 in
set_option maxHeartbeats 4000000 in
theorem undoMark (P : Nat → Prop) (A B : Nat) (T : PTrail) (name : ByteArray) (w : World) (h : TrailOk P w A B T) (hT : TInv T) :
    Calls Tryz.prog 15 #[capU A, .string name] w (MarkPost P A B T name w) := by
  have HOK := Lib.hid h; have HT := Lib.hid hT
  obtain ⟨S, K, ol, om, hat, p1, p2, p3, p4, p5⟩ := h
  have HAT := Lib.hid hat; have P1 := Lib.hid p1; have P2 := Lib.hid p2; have P3 := Lib.hid p3; have P4 := Lib.hid p4; have P5 := Lib.hid p5
  obtain ⟨la, lc, ma, mc, hA, hAl, c0, c1, c2, -, -⟩ := hat.read
  have HA := Lib.hid hA
  have hln := hT.len; have hml := hT.mlen
  have HSELF := Lib.hid (show TrailOk (fun b => P b ∨ w.heap.size ≤ b) w A B T from HOK.out.sub (fun b hb => .inl hb))
  obtain ⟨iM, hiM, hzM0, hzM1, hzM2⟩ := info_parts infoMark
  clear hat hT p1 p2 p3 p4 p5 hA
  go_enter Tryz.func15, Tryz.ntmps15
  cases hnm : decide (NameOk name)
  · have HNM := Lib.hid (show ¬ NameOk name from of_decide_eq_false hnm)
    have HNB := Lib.hid (fun w => (valName name w).mono (fun e w' (h : e = .returned (.bool (decide (NameOk name))) ∧ w' = w) => (⟨by rw [h.1, hnm], h.2⟩ : e = .returned (.bool false) ∧ w' = w)))
    clear hnm
    go_wp2_with (first | (go_at_call 39; refine (undoNone2 A B w c0).mono ?_; rintro e w2 ⟨rfl, hw2⟩; subst hw2) | (go_at_call 42; refine (HNB.out _).mono ?_; rintro e w2 ⟨rfl, hw2⟩; have hw2x := hw2.symm; subst hw2x))
    go_ret
    have e : markT T name = (1, T) := by unfold markT; rw [if_pos HNM.out]
    exact ⟨by rw [e]; rfl, by rw [e]; exact HSELF.out, Mod.rfl' _ _⟩
  · have HNM := Lib.hid (show NameOk name from of_decide_eq_true hnm)
    have HNB := Lib.hid (fun w => (valName name w).mono (fun e w' (h : e = .returned (.bool (decide (NameOk name))) ∧ w' = w) => (⟨by rw [h.1, hnm], h.2⟩ : e = .returned (.bool true) ∧ w' = w)))
    clear hnm
    go_wp2_with (first | (go_at_call 39; refine (undoNone2 A B w c0).mono ?_; rintro e w2 ⟨rfl, hw2⟩; subst hw2) | (go_at_call 42; refine (HNB.out _).mono ?_; rintro e w2 ⟨rfl, hw2⟩; have hw2x := hw2.symm; subst hw2x))
    refine (undoFind S K ol om A B T name _ HAT.out).mono ?_
    rintro e w3 ⟨r, rfl, hr, hg3⟩
    have hat3 : TrailAt S K ol om w3 A B T := HAT.out.keep (Mod.of_grow (F := fun _ => False) hg3) (fun h => h) (fun _ _ h => h) (fun _ _ h => h) (fun _ _ h => h) (fun _ _ h => h)
    have HM3 := Lib.hid (Mod.of_grow (F := P) hg3)
    have HOK3 := Lib.hid (HSELF.out.grow hg3)
    clear c0 c1 c2 hAl hg3
    rcases hr with ⟨rfl, hall⟩ | ⟨k, x, rfl, hx, hxn, -⟩
    · have HFI := Lib.hid (idx_none hall)
      clear hall
      obtain ⟨m, hm⟩ : ∃ m, m = T.marks := ⟨_, rfl⟩
      have hat4 : TrailAt S K ol om w3 A B ⟨T.g, T.l, m⟩ := by rw [hm]; exact hat3
      have hml2 : m.length ≤ 8 := by rw [hm]; exact hml
      have HMM := Lib.hid hm
      clear hat3 hm hml
      have HAT4 := Lib.hid hat4
      obtain ⟨la, lc, oa, oc, hA3, hAl, c0, c1, c2, -, q3⟩ := hat4.read
      obtain ⟨rows, r1, rlen, r2, r3⟩ := q3.rowLen
      dsimp only at hA3 c1 c2 r1 r2 r3
      have R1 := Lib.hid r1; have R2 := Lib.hid r2
      have gd : ∀ o1, Grow w3 (w3.drew.alloc o1) := fun o1 => ((Grow.rfl' w3).drewd).allocd o1
      have R3 := Lib.hid (show ∀ o1, OwnS (w3.drew.alloc o1) 81 2 (.slice oa m.length oc) m.length rows.flatten om from fun o1 => r3.grow (gd o1))
      have hAne : om ≠ some A := by
        obtain ⟨_, _, _, _, _, _, _, _, _, h, _⟩ := hat4
        exact fun e => (h A e).2 rfl
      have HKB := Lib.hid (show ∀ o1 w5, Mod (fun k => om = some k) (w3.drew.alloc o1) w5 → w5.heap[A]? = some (.cells #[capU B, .slice la T.l.length lc, .slice oa m.length oc] 74 (0, 0)) from fun o1 w5 hm => (hm.block A (Nat.lt_of_lt_of_le hAl (gd o1).size) hAne).trans (((gd o1).heapEq hAl).trans hA3))
      have HSA := Lib.hid (show ∀ o1, (w3.drew.alloc o1).cell? ⟨A, 2, none⟩ = some (.slice oa m.length oc) ∧ (w3.drew.alloc o1).cell? ⟨A, 1, none⟩ = some (.slice la T.l.length lc) from fun o1 =>
        ⟨(blk_cell (((gd o1).heapEq hAl).trans hA3) 2).trans rfl, (blk_cell (((gd o1).heapEq hAl).trans hA3) 1).trans rfl⟩)
      have HRD := Lib.hid (Rd.lit w3.drew #[.string name, .int .i64 T.l.length] 81 2 1 rfl)
      clear r1 rlen r2 r3 q3 hat4 hA3 gd hAne
      by_cases h8 : m.length = 8
      · go_wp2
        go_ret
        have e : markT T name = (3, T) := by unfold markT; rw [if_neg (by simpa using HNM.out), HFI.out, if_pos (by rw [← HMM.out]; exact h8)]
        exact ⟨by rw [e]; rfl, by rw [e]; exact HOK3.out, HM3.out⟩
      · go_wp2
        refine wp_region_noPanic ?_
        refine wp_region_Z (S := fun w' => w'.cell? ⟨A, 2, none⟩ = some (.slice oa m.length oc) ∧ w'.cell? ⟨A, 1, none⟩ = some (.slice la T.l.length lc)) (z := 16) (by kernel_rfl) ?_ (fun hHeld => ?_)
        · exact ⟨c2, c1⟩
        refine' wpAnyZ_take (i := 0) (oi := ?o1) (v := _) (by kernel_rfl) (by simp only [List.getElem?_toArray, List.getElem?_cons_zero]; rfl) (by kernel_rfl) (by kernel_rfl) (by kernel_rfl) (fun _ _ _ h => h) (Or.inl ⟨by rfl, ?y1⟩) (by assumption) ?r1
        case y1 =>
          intro wS hSw
          try dsimp only at hSw
          go_simp
          all_goals with_reducible rfl
        simp only [Act.put, List.setIfInBounds_toArray, List.set_cons_zero, List.set_cons_succ]
        refine' wpAnyZ_take (i := 1) (oi := ?o2) (v := _) (by kernel_rfl) (by simp only [List.getElem?_toArray, List.getElem?_cons_succ, List.getElem?_cons_zero]; rfl) (by kernel_rfl) (by kernel_rfl) (by kernel_rfl) (fun _ _ _ h => h) (Or.inl ⟨by rfl, ?y2⟩) (by assumption) ?r2
        case y2 =>
          intro wS hSw
          try dsimp only at hSw
          go_simp
          all_goals with_reducible rfl
        simp only [Act.put, List.setIfInBounds_toArray, List.set_cons_zero, List.set_cons_succ]
        refine' wpAnyZ_take (i := 2) (oi := ?o3) (v := _) (by kernel_rfl) (by simp only [List.getElem?_toArray, List.getElem?_cons_succ, List.getElem?_cons_zero]; rfl) (by kernel_rfl) (by kernel_rfl) (by kernel_rfl) (fun _ _ _ h => h) (Or.inl ⟨by rfl, ?y3⟩) (by assumption) ?r3
        case y3 =>
          intro wS hSw
          try dsimp only at hSw
          go_simp
          all_goals with_reducible rfl
        simp only [Act.put, List.setIfInBounds_toArray, List.set_cons_zero, List.set_cons_succ]
        refine' wpAnyZ_take (i := 3) (oi := ?o4) (v := _) (by kernel_rfl) (by simp only [List.getElem?_toArray, List.getElem?_cons_succ, List.getElem?_cons_zero]; rfl) (by kernel_rfl) (by kernel_rfl) (by kernel_rfl) (fun _ _ _ h => h) (Or.inl ⟨by rfl, ?y4⟩) (by assumption) ?r4
        case y4 =>
          intro wS hSw
          try dsimp only at hSw
          go_simp
          all_goals with_reducible rfl
        simp only [Act.put, List.setIfInBounds_toArray, List.set_cons_zero, List.set_cons_succ]
        refine' wpAnyZ_take (i := 4) (oi := ?o5) (v := _) (by kernel_rfl) (by simp only [List.getElem?_toArray, List.getElem?_cons_succ, List.getElem?_cons_zero]; rfl) (by kernel_rfl) (by kernel_rfl) (by kernel_rfl) (fun _ _ _ h => h) (Or.inl ⟨by rfl, ?y5⟩) (by assumption) ?r5
        case y5 =>
          intro wS hSw
          try dsimp only at hSw
          go_simp
          all_goals with_reducible rfl
        simp only [Act.put, List.setIfInBounds_toArray, List.set_cons_zero, List.set_cons_succ]
        refine' wpAnyZ_take (i := 5) (oi := ?o6) (v := _) (by kernel_rfl) (by simp only [List.getElem?_toArray, List.getElem?_cons_succ, List.getElem?_cons_zero]; rfl) (by kernel_rfl) (by kernel_rfl) (by kernel_rfl) (fun _ _ _ h => h) (Or.inl ⟨by rfl, ?y6⟩) (by assumption) ?r6
        case y6 =>
          intro wS hSw
          try dsimp only at hSw
          go_simp
          all_goals with_reducible rfl
        simp only [Act.put, List.setIfInBounds_toArray, List.set_cons_zero, List.set_cons_succ]
        refine' wpAnyZ_take (i := 6) (oi := ?o7) (v := _) (by kernel_rfl) (by simp only [List.getElem?_toArray, List.getElem?_cons_succ, List.getElem?_cons_zero]; rfl) (by kernel_rfl) (by kernel_rfl) (by kernel_rfl) (fun _ _ _ h => h) (Or.inl ⟨by rfl, ?y7⟩) (by assumption) ?r7
        case y7 =>
          intro wS hSw
          try dsimp only at hSw
          go_simp
          all_goals with_reducible rfl
        simp only [Act.put, List.setIfInBounds_toArray, List.set_cons_zero, List.set_cons_succ]
        refine' wpAnyZ_take (i := 7) (oi := ?o8) (v := _) (by kernel_rfl) (by simp only [List.getElem?_toArray, List.getElem?_cons_succ, List.getElem?_cons_zero]; rfl) (by kernel_rfl) (by kernel_rfl) (by kernel_rfl) (fun _ _ _ h => h) (Or.inl ⟨by rfl, ?y8⟩) (by assumption) ?r8
        case y8 =>
          intro wS hSw
          try dsimp only at hSw
          go_simp
          all_goals with_reducible rfl
        simp only [Act.put, List.setIfInBounds_toArray, List.set_cons_zero, List.set_cons_succ]
        refine' wpAnyZ_take (i := 8) (oi := ?o9) (v := _) (by kernel_rfl) (by simp only [List.getElem?_toArray, List.getElem?_cons_succ, List.getElem?_cons_zero]; rfl) (by kernel_rfl) (by kernel_rfl) (by kernel_rfl) (fun _ _ _ h => h) (Or.inl ⟨by rfl, ?y9⟩) (by assumption) ?r9
        case y9 =>
          intro wS hSw
          try dsimp only at hSw
          go_simp
          all_goals with_reducible rfl
        simp only [Act.put, List.setIfInBounds_toArray, List.set_cons_zero, List.set_cons_succ]
        refine' wpAnyZ_take (i := 9) (oi := ?o10) (v := _) (by kernel_rfl) (by simp only [List.getElem?_toArray, List.getElem?_cons_succ, List.getElem?_cons_zero]; rfl) (by kernel_rfl) (by kernel_rfl) (by kernel_rfl) (fun _ _ _ h => h) (Or.inl ⟨by rfl, ?y10⟩) (by assumption) ?r10
        case y10 =>
          intro wS hSw
          try dsimp only at hSw
          go_simp
          all_goals with_reducible rfl
        simp only [Act.put, List.setIfInBounds_toArray, List.set_cons_zero, List.set_cons_succ]
        refine' wpAnyZ_take (i := 10) (oi := ?o11) (v := _) (by kernel_rfl) (by simp only [List.getElem?_toArray, List.getElem?_cons_succ, List.getElem?_cons_zero]; rfl) (by kernel_rfl) (by kernel_rfl) (by kernel_rfl) (fun _ _ _ h => h) (Or.inl ⟨by rfl, ?y11⟩) (by assumption) ?r11
        case y11 =>
          intro wS hSw
          try dsimp only at hSw
          go_simp
          all_goals with_reducible rfl
        simp only [Act.put, List.setIfInBounds_toArray, List.set_cons_zero, List.set_cons_succ]
        refine' wpAnyZ_take (i := 11) (oi := ?o12) (v := _) (by kernel_rfl) (by simp only [List.getElem?_toArray, List.getElem?_cons_succ, List.getElem?_cons_zero]; rfl) (by kernel_rfl) (by kernel_rfl) (by kernel_rfl) (fun _ _ _ h => h) (Or.inl ⟨by rfl, ?y12⟩) (by assumption) ?r12
        case y12 =>
          intro wS hSw
          try dsimp only at hSw
          go_simp
          all_goals with_reducible rfl
        simp only [Act.put, List.setIfInBounds_toArray, List.set_cons_zero, List.set_cons_succ]
        refine wpAnyZ_ready (rs := [12]) (by kernel_rfl) (by simp) ?_
        refine' AllZ.cons (o := ?o13) (by simp only [List.getElem?_toArray, List.getElem?_cons_succ, List.getElem?_cons_zero]; rfl) (fun K hK => ?s13) ?m13
        case m13 => exact AllZ.nil
        go_simp
        refine hK.out _ _ ?_ (fun hHeld => ?_)
        · exact HSA.out _
        clear hK K
        try simp only [Act.put, List.setIfInBounds_toArray, List.set_cons_zero, List.set_cons_succ]
        refine wpAnyZ_ready (rs := [13]) (by kernel_rfl) (by simp) ?_
        refine' AllZ.cons (o := ?o14) (by simp only [List.getElem?_toArray, List.getElem?_cons_succ, List.getElem?_cons_zero]; rfl) (fun K hK => ?s14) ?m14
        case m14 => exact AllZ.nil
        (refine step_append_S rfl (.tmp 43) (.tmp 51) 72 rfl 81 iM _ 2 24 Tryz.underlying72 hiM hzM0 hzM1 hzM2 rfl (by decide) (.slice oa m.length oc) m.length rows.flatten om (by simp [Act.eval]) (R3.out _) (.slice (some ⟨w3.heap.size, 0, none⟩) 1 1) (by simp [Act.eval]) 1 _ HRD.out (by intro u hu; simp only [List.mem_cons, List.not_mem_nil, or_false] at hu; rcases hu with rfl | rfl <;> rfl) (by unfold maxLen; omega) (by omega) ?_; intro v5 w5 om5 k1 k2 k3 k4; obtain ⟨oa5, oc5, rfl, -, -⟩ := k1.isSlice; have K1 := Lib.hid k1; have K2 := Lib.hid k2; have K3 := Lib.hid k3; have HB5 := Lib.hid (HKB.out _ _ k2); have q2 : w5.cell? ⟨A, 2, none⟩ = some (.slice oa m.length oc) := (blk_cell HB5.out 2).trans rfl; have q1 : w5.cell? ⟨A, 1, none⟩ = some (.slice la T.l.length lc) := (blk_cell HB5.out 1).trans rfl; have qf := blk_free HB5.out 2; have ql := blk_lt HB5.out; clear k1 k2 k3 k4)
        refine hK.out _ _ ?_ (fun hHeld => ?_)
        · exact ⟨q2, q1⟩
        clear hK K
        try simp only [Act.put, List.setIfInBounds_toArray, List.set_cons_zero, List.set_cons_succ]
        refine wpAnyZ_ready (rs := [14]) (by kernel_rfl) (by simp) ?_
        refine' AllZ.cons (o := ?o15) (by simp only [List.getElem?_toArray, List.getElem?_cons_succ, List.getElem?_cons_zero]; rfl) (fun K hK => ?s15) ?m15
        case m15 => exact AllZ.nil
        go_simp
        refine hK.out _ _ ?_ (fun hHeld => ?_)
        · exact ⟨q2, q1⟩
        clear hK K
        try simp only [Act.put, List.setIfInBounds_toArray, List.set_cons_zero, List.set_cons_succ]
        refine wpAnyZ_ready (rs := [15]) (by kernel_rfl) (by simp) ?_
        refine' AllZ.cons (o := ?o16) (by simp only [List.getElem?_toArray, List.getElem?_cons_succ, List.getElem?_cons_zero]; rfl) (fun K hK => ?s16) ?m16
        case m16 => exact AllZ.nil
        go_simp
        refine hK.out _ _ ?_ (fun hHeld => ?_)
        · exact ⟨q2, q1⟩
        clear hK K
        try simp only [Act.put, List.setIfInBounds_toArray, List.set_cons_zero, List.set_cons_succ]
        refine wpAnyZ_ready (rs := [16]) (by kernel_rfl) (by simp) ?_
        refine' AllZ.last (o := ?o17) (by simp only [List.getElem?_toArray, List.getElem?_cons_succ, List.getElem?_cons_zero]; rfl) (fun K hK => ?s17)
        go_simp
        refine hK.out _ _ ?_
        clear hK K
        try simp only [Act.put, List.setIfInBounds_toArray, List.set_cons_zero, List.set_cons_succ]
        refine wpAnyZ_done (by kernel_rfl) ?_ _
        refine NoPanic.normal ?_
        go_wp2
        go_ret
        have e : markT T name = (0, ⟨T.g, T.l, m ++ [(name, T.l.length)]⟩) := by unfold markT; rw [if_neg (by simpa using HNM.out), HFI.out, if_neg (by rw [← HMM.out]; exact h8), ← HMM.out]
        obtain ⟨f1, f2⟩ := markFin HAT4.out HM3.out _ R1.out R2.out K2.out K3.out K1.out P1.out P2.out P3.out P4.out P5.out
        exact ⟨by rw [e]; rfl, by rw [e]; exact f1, f2⟩
    · have HFI := Lib.hid (idx_some HT.out.mnd hx hxn)
      have hkl := (List.getElem?_eq_some_iff.1 hx).1
      have hm7 : (T.marks.take k ++ T.marks.drop (k + 1)).length ≤ 7 := by rw [List.length_append, List.length_take, List.length_drop]; omega
      have HAT3 := Lib.hid hat3
      obtain ⟨la, lc, ma, mc, hA3, hAl, c0, c1, c2, -, q3⟩ := hat3.read
      obtain ⟨rows, r1, rlen, r2, r3⟩ := q3.rowLen
      have hone : ∀ u ∈ rows.flatten, u.oneCell' = true := one_flat r1 r2 (fun x r h => by
        unfold RMark at h; subst h
        intro u hu
        simp only [List.mem_cons, List.not_mem_nil, or_false] at hu
        rcases hu with rfl | rfl <;> rfl)
      have R1 := Lib.hid r1; have RL := Lib.hid rlen; have R2 := Lib.hid r2; have R3 := Lib.hid r3; have RO := Lib.hid hone; have HA3 := Lib.hid hA3
      have hAne : om ≠ some A := by
        obtain ⟨_, _, _, _, _, _, _, _, _, h, _⟩ := hat3
        exact fun e => (h A e).2 rfl
      clear r1 rlen r2 r3 hone hat3 q3 hA3 hx hxn
      go_wp2_with fail
      refine (deleteMark _ T.marks.length rows.flatten om k _ R3.out (by omega) hkl RO.out).mono ?_
      rintro e w4 ⟨v4, rfl, k4, m4⟩
      have hown4 : OwnL w4 81 2 RMark v4 (T.marks.take k ++ T.marks.drop (k + 1)) om := OwnL.erase R1.out RL.out R2.out (fun _ _ _ h => h) hkl k4
      have HATZ := Lib.hid (HAT3.out.newM m4 hown4 (.inl rfl))
      have HMZ := Lib.hid (show Mod P w (w4.setCell ⟨A, 2, none⟩ v4) from (HM3.out.step (m4.mono (fun b hb => P5.out b hb))).setd (p := ⟨A, 2, none⟩) (.inl P1.out) _)
      have hb4 : w4.heap[A]? = some (.cells #[capU B, .slice la T.l.length lc, .slice ma T.marks.length mc] 74 (0, 0)) := blk_mod HA3.out m4 hAne
      have e2 : w4.cell? ⟨A, 2, none⟩ = some (.slice ma T.marks.length mc) := (blk_cell hb4 2).trans rfl
      have f2 := blk_free hb4 2
      have hl4 := blk_lt hb4
      obtain ⟨a4, c4, rfl, -, -⟩ := k4.isSlice
      clear k4 m4 hown4 hb4 c0 c1 c2 hAl hAne R1 RL R2 R3 RO HA3 HAT3
      go_wp2
      generalize w4.setCell ⟨A, 2, none⟩ (.slice a4 (T.marks.length - 1) c4) = wz at *
      clear e2 f2 hl4
      generalize T.marks.take k ++ T.marks.drop (k + 1) = m at *
      have hat4 := HATZ.out
      have HAT4 := Lib.hid hat4
      obtain ⟨la, lc, oa, oc, hA3, hAl, c0, c1, c2, -, q3⟩ := hat4.read
      obtain ⟨rows, r1, rlen, r2, r3⟩ := q3.rowLen
      dsimp only at hA3 c1 c2 r1 r2 r3
      have R1 := Lib.hid r1; have R2 := Lib.hid r2
      have gd : ∀ o1, Grow wz (wz.drew.alloc o1) := fun o1 => ((Grow.rfl' wz).drewd).allocd o1
      have R3 := Lib.hid (show ∀ o1, OwnS (wz.drew.alloc o1) 81 2 (.slice oa m.length oc) m.length rows.flatten om from fun o1 => r3.grow (gd o1))
      have hAne : om ≠ some A := by
        obtain ⟨_, _, _, _, _, _, _, _, _, h, _⟩ := hat4
        exact fun e => (h A e).2 rfl
      have HKB := Lib.hid (show ∀ o1 w5, Mod (fun k => om = some k) (wz.drew.alloc o1) w5 → w5.heap[A]? = some (.cells #[capU B, .slice la T.l.length lc, .slice oa m.length oc] 74 (0, 0)) from fun o1 w5 hm => (hm.block A (Nat.lt_of_lt_of_le hAl (gd o1).size) hAne).trans (((gd o1).heapEq hAl).trans hA3))
      have HSA := Lib.hid (show ∀ o1, (wz.drew.alloc o1).cell? ⟨A, 2, none⟩ = some (.slice oa m.length oc) ∧ (wz.drew.alloc o1).cell? ⟨A, 1, none⟩ = some (.slice la T.l.length lc) from fun o1 =>
        ⟨(blk_cell (((gd o1).heapEq hAl).trans hA3) 2).trans rfl, (blk_cell (((gd o1).heapEq hAl).trans hA3) 1).trans rfl⟩)
      have HRD := Lib.hid (Rd.lit wz.drew #[.string name, .int .i64 T.l.length] 81 2 1 rfl)
      clear r1 rlen r2 r3 q3 hat4 hA3 gd hAne
      refine wp_region_noPanic ?_
      refine wp_region_Z (S := fun w' => w'.cell? ⟨A, 2, none⟩ = some (.slice oa m.length oc) ∧ w'.cell? ⟨A, 1, none⟩ = some (.slice la T.l.length lc)) (z := 16) (by kernel_rfl) ?_ (fun hHeld => ?_)
      · exact ⟨c2, c1⟩
      refine' wpAnyZ_take (i := 0) (oi := ?o18) (v := _) (by kernel_rfl) (by simp only [List.getElem?_toArray, List.getElem?_cons_zero]; rfl) (by kernel_rfl) (by kernel_rfl) (by kernel_rfl) (fun _ _ _ h => h) (Or.inl ⟨by rfl, ?y18⟩) (by assumption) ?r18
      case y18 =>
        intro wS hSw
        try dsimp only at hSw
        go_simp
        all_goals with_reducible rfl
      simp only [Act.put, List.setIfInBounds_toArray, List.set_cons_zero, List.set_cons_succ]
      refine' wpAnyZ_take (i := 1) (oi := ?o19) (v := _) (by kernel_rfl) (by simp only [List.getElem?_toArray, List.getElem?_cons_succ, List.getElem?_cons_zero]; rfl) (by kernel_rfl) (by kernel_rfl) (by kernel_rfl) (fun _ _ _ h => h) (Or.inl ⟨by rfl, ?y19⟩) (by assumption) ?r19
      case y19 =>
        intro wS hSw
        try dsimp only at hSw
        go_simp
        all_goals with_reducible rfl
      simp only [Act.put, List.setIfInBounds_toArray, List.set_cons_zero, List.set_cons_succ]
      refine' wpAnyZ_take (i := 2) (oi := ?o20) (v := _) (by kernel_rfl) (by simp only [List.getElem?_toArray, List.getElem?_cons_succ, List.getElem?_cons_zero]; rfl) (by kernel_rfl) (by kernel_rfl) (by kernel_rfl) (fun _ _ _ h => h) (Or.inl ⟨by rfl, ?y20⟩) (by assumption) ?r20
      case y20 =>
        intro wS hSw
        try dsimp only at hSw
        go_simp
        all_goals with_reducible rfl
      simp only [Act.put, List.setIfInBounds_toArray, List.set_cons_zero, List.set_cons_succ]
      refine' wpAnyZ_take (i := 3) (oi := ?o21) (v := _) (by kernel_rfl) (by simp only [List.getElem?_toArray, List.getElem?_cons_succ, List.getElem?_cons_zero]; rfl) (by kernel_rfl) (by kernel_rfl) (by kernel_rfl) (fun _ _ _ h => h) (Or.inl ⟨by rfl, ?y21⟩) (by assumption) ?r21
      case y21 =>
        intro wS hSw
        try dsimp only at hSw
        go_simp
        all_goals with_reducible rfl
      simp only [Act.put, List.setIfInBounds_toArray, List.set_cons_zero, List.set_cons_succ]
      refine' wpAnyZ_take (i := 4) (oi := ?o22) (v := _) (by kernel_rfl) (by simp only [List.getElem?_toArray, List.getElem?_cons_succ, List.getElem?_cons_zero]; rfl) (by kernel_rfl) (by kernel_rfl) (by kernel_rfl) (fun _ _ _ h => h) (Or.inl ⟨by rfl, ?y22⟩) (by assumption) ?r22
      case y22 =>
        intro wS hSw
        try dsimp only at hSw
        go_simp
        all_goals with_reducible rfl
      simp only [Act.put, List.setIfInBounds_toArray, List.set_cons_zero, List.set_cons_succ]
      refine' wpAnyZ_take (i := 5) (oi := ?o23) (v := _) (by kernel_rfl) (by simp only [List.getElem?_toArray, List.getElem?_cons_succ, List.getElem?_cons_zero]; rfl) (by kernel_rfl) (by kernel_rfl) (by kernel_rfl) (fun _ _ _ h => h) (Or.inl ⟨by rfl, ?y23⟩) (by assumption) ?r23
      case y23 =>
        intro wS hSw
        try dsimp only at hSw
        go_simp
        all_goals with_reducible rfl
      simp only [Act.put, List.setIfInBounds_toArray, List.set_cons_zero, List.set_cons_succ]
      refine' wpAnyZ_take (i := 6) (oi := ?o24) (v := _) (by kernel_rfl) (by simp only [List.getElem?_toArray, List.getElem?_cons_succ, List.getElem?_cons_zero]; rfl) (by kernel_rfl) (by kernel_rfl) (by kernel_rfl) (fun _ _ _ h => h) (Or.inl ⟨by rfl, ?y24⟩) (by assumption) ?r24
      case y24 =>
        intro wS hSw
        try dsimp only at hSw
        go_simp
        all_goals with_reducible rfl
      simp only [Act.put, List.setIfInBounds_toArray, List.set_cons_zero, List.set_cons_succ]
      refine' wpAnyZ_take (i := 7) (oi := ?o25) (v := _) (by kernel_rfl) (by simp only [List.getElem?_toArray, List.getElem?_cons_succ, List.getElem?_cons_zero]; rfl) (by kernel_rfl) (by kernel_rfl) (by kernel_rfl) (fun _ _ _ h => h) (Or.inl ⟨by rfl, ?y25⟩) (by assumption) ?r25
      case y25 =>
        intro wS hSw
        try dsimp only at hSw
        go_simp
        all_goals with_reducible rfl
      simp only [Act.put, List.setIfInBounds_toArray, List.set_cons_zero, List.set_cons_succ]
      refine' wpAnyZ_take (i := 8) (oi := ?o26) (v := _) (by kernel_rfl) (by simp only [List.getElem?_toArray, List.getElem?_cons_succ, List.getElem?_cons_zero]; rfl) (by kernel_rfl) (by kernel_rfl) (by kernel_rfl) (fun _ _ _ h => h) (Or.inl ⟨by rfl, ?y26⟩) (by assumption) ?r26
      case y26 =>
        intro wS hSw
        try dsimp only at hSw
        go_simp
        all_goals with_reducible rfl
      simp only [Act.put, List.setIfInBounds_toArray, List.set_cons_zero, List.set_cons_succ]
      refine' wpAnyZ_take (i := 9) (oi := ?o27) (v := _) (by kernel_rfl) (by simp only [List.getElem?_toArray, List.getElem?_cons_succ, List.getElem?_cons_zero]; rfl) (by kernel_rfl) (by kernel_rfl) (by kernel_rfl) (fun _ _ _ h => h) (Or.inl ⟨by rfl, ?y27⟩) (by assumption) ?r27
      case y27 =>
        intro wS hSw
        try dsimp only at hSw
        go_simp
        all_goals with_reducible rfl
      simp only [Act.put, List.setIfInBounds_toArray, List.set_cons_zero, List.set_cons_succ]
      refine' wpAnyZ_take (i := 10) (oi := ?o28) (v := _) (by kernel_rfl) (by simp only [List.getElem?_toArray, List.getElem?_cons_succ, List.getElem?_cons_zero]; rfl) (by kernel_rfl) (by kernel_rfl) (by kernel_rfl) (fun _ _ _ h => h) (Or.inl ⟨by rfl, ?y28⟩) (by assumption) ?r28
      case y28 =>
        intro wS hSw
        try dsimp only at hSw
        go_simp
        all_goals with_reducible rfl
      simp only [Act.put, List.setIfInBounds_toArray, List.set_cons_zero, List.set_cons_succ]
      refine' wpAnyZ_take (i := 11) (oi := ?o29) (v := _) (by kernel_rfl) (by simp only [List.getElem?_toArray, List.getElem?_cons_succ, List.getElem?_cons_zero]; rfl) (by kernel_rfl) (by kernel_rfl) (by kernel_rfl) (fun _ _ _ h => h) (Or.inl ⟨by rfl, ?y29⟩) (by assumption) ?r29
      case y29 =>
        intro wS hSw
        try dsimp only at hSw
        go_simp
        all_goals with_reducible rfl
      simp only [Act.put, List.setIfInBounds_toArray, List.set_cons_zero, List.set_cons_succ]
      refine wpAnyZ_ready (rs := [12]) (by kernel_rfl) (by simp) ?_
      refine' AllZ.cons (o := ?o30) (by simp only [List.getElem?_toArray, List.getElem?_cons_succ, List.getElem?_cons_zero]; rfl) (fun K hK => ?s30) ?m30
      case m30 => exact AllZ.nil
      go_simp
      refine hK.out _ _ ?_ (fun hHeld => ?_)
      · exact HSA.out _
      clear hK K
      try simp only [Act.put, List.setIfInBounds_toArray, List.set_cons_zero, List.set_cons_succ]
      refine wpAnyZ_ready (rs := [13]) (by kernel_rfl) (by simp) ?_
      refine' AllZ.cons (o := ?o31) (by simp only [List.getElem?_toArray, List.getElem?_cons_succ, List.getElem?_cons_zero]; rfl) (fun K hK => ?s31) ?m31
      case m31 => exact AllZ.nil
      (refine step_append_S rfl (.tmp 43) (.tmp 51) 72 rfl 81 iM _ 2 24 Tryz.underlying72 hiM hzM0 hzM1 hzM2 rfl (by decide) (.slice oa m.length oc) m.length rows.flatten om (by simp [Act.eval]) (R3.out _) (.slice (some ⟨wz.heap.size, 0, none⟩) 1 1) (by simp [Act.eval]) 1 _ HRD.out (by intro u hu; simp only [List.mem_cons, List.not_mem_nil, or_false] at hu; rcases hu with rfl | rfl <;> rfl) (by unfold maxLen; omega) (by omega) ?_; intro v5 w5 om5 k1 k2 k3 k4; obtain ⟨oa5, oc5, rfl, -, -⟩ := k1.isSlice; have K1 := Lib.hid k1; have K2 := Lib.hid k2; have K3 := Lib.hid k3; have HB5 := Lib.hid (HKB.out _ _ k2); have q2 : w5.cell? ⟨A, 2, none⟩ = some (.slice oa m.length oc) := (blk_cell HB5.out 2).trans rfl; have q1 : w5.cell? ⟨A, 1, none⟩ = some (.slice la T.l.length lc) := (blk_cell HB5.out 1).trans rfl; have qf := blk_free HB5.out 2; have ql := blk_lt HB5.out; clear k1 k2 k3 k4)
      refine hK.out _ _ ?_ (fun hHeld => ?_)
      · exact ⟨q2, q1⟩
      clear hK K
      try simp only [Act.put, List.setIfInBounds_toArray, List.set_cons_zero, List.set_cons_succ]
      refine wpAnyZ_ready (rs := [14]) (by kernel_rfl) (by simp) ?_
      refine' AllZ.cons (o := ?o32) (by simp only [List.getElem?_toArray, List.getElem?_cons_succ, List.getElem?_cons_zero]; rfl) (fun K hK => ?s32) ?m32
      case m32 => exact AllZ.nil
      go_simp
      refine hK.out _ _ ?_ (fun hHeld => ?_)
      · exact ⟨q2, q1⟩
      clear hK K
      try simp only [Act.put, List.setIfInBounds_toArray, List.set_cons_zero, List.set_cons_succ]
      refine wpAnyZ_ready (rs := [15]) (by kernel_rfl) (by simp) ?_
      refine' AllZ.cons (o := ?o33) (by simp only [List.getElem?_toArray, List.getElem?_cons_succ, List.getElem?_cons_zero]; rfl) (fun K hK => ?s33) ?m33
      case m33 => exact AllZ.nil
      go_simp
      refine hK.out _ _ ?_ (fun hHeld => ?_)
      · exact ⟨q2, q1⟩
      clear hK K
      try simp only [Act.put, List.setIfInBounds_toArray, List.set_cons_zero, List.set_cons_succ]
      refine wpAnyZ_ready (rs := [16]) (by kernel_rfl) (by simp) ?_
      refine' AllZ.last (o := ?o34) (by simp only [List.getElem?_toArray, List.getElem?_cons_succ, List.getElem?_cons_zero]; rfl) (fun K hK => ?s34)
      go_simp
      refine hK.out _ _ ?_
      clear hK K
      try simp only [Act.put, List.setIfInBounds_toArray, List.set_cons_zero, List.set_cons_succ]
      refine wpAnyZ_done (by kernel_rfl) ?_ _
      refine NoPanic.normal ?_
      go_wp2
      go_ret
      have e : markT T name = (0, ⟨T.g, T.l, m ++ [(name, T.l.length)]⟩) := by unfold markT; rw [if_neg (by simpa using HNM.out), HFI.out, if_neg (by omega)]
      obtain ⟨f1, f2⟩ := markFin HAT4.out HMZ.out _ R1.out R2.out K2.out K3.out K1.out P1.out P2.out P3.out P4.out P5.out
      exact ⟨by rw [e]; rfl, by rw [e]; exact f1, f2⟩
end Go.Hg

namespace Go.Hg
open Go.RowKit Go.Proofs

def backT (T : PTrail) (name : ByteArray) : Int × PTrail :=
  match T.marks.findIdx? (fun x => decide (x.1 = name)) with
  | none => (60, T)
  | some k => (0, ⟨(cutT T (((T.marks[k]?).map (·.2)).getD 0)).g, (cutT T (((T.marks[k]?).map (·.2)).getD 0)).l, T.marks.take (k + 1)⟩)
theorem findIdx_no {l : List (ByteArray × Nat)} {name : ByteArray} (h : ∀ x ∈ l, x.1 ≠ name) : l.findIdx? (fun x => decide (x.1 = name)) = none := by
  rw [List.findIdx?_eq_none_iff]
  intro x hx
  simpa using h x hx
theorem findIdx_yes {l : List (ByteArray × Nat)} {name : ByteArray} {k : Nat} {x : ByteArray × Nat} (hx : l[k]? = some x) (he : x.1 = name) (h : ∀ y ∈ l.take k, y.1 ≠ name) : l.findIdx? (fun x => decide (x.1 = name)) = some k := by
  obtain ⟨hk, rfl⟩ := List.getElem?_eq_some_iff.1 hx
  rw [List.findIdx?_eq_some_iff_getElem]
  refine ⟨hk, by simpa using he, fun j hj => ?_⟩
  have := h l[j] (List.mem_take_iff_getElem.2 ⟨j, by omega, rfl⟩)
  simpa using this
def BackPostT (P : Nat → Prop) (A B : Nat) (T : PTrail) (name : ByteArray) (w : World) (e : Ending) (w' : World) : Prop :=
  e = .returned (.int .i64 (backT T name).1) ∧ TrailOk (fun b => P b ∨ w.heap.size ≤ b) w' A B (backT T name).2 ∧ Mod P w w'
set_option maxRecDepth 100000 in
set_option maxHeartbeats 2000000 in
theorem undoBackTo (P : Nat → Prop) (A B : Nat) (T : PTrail) (name : ByteArray) (w : World) (h : TrailOk P w A B T) (hT : TInv T) :
    Calls Tryz.prog 16 #[capU A, .string name] w (BackPostT P A B T name w) := by
  have HOK := Lib.hid h; have HT := Lib.hid hT
  obtain ⟨S, K, ol, om, hat, p1, p2, p3, p4, p5⟩ := h
  have HAT := Lib.hid hat; have P1 := Lib.hid p1; have P2 := Lib.hid p2; have P3 := Lib.hid p3; have P4 := Lib.hid p4; have P5 := Lib.hid p5
  obtain ⟨la, lc, ma, mc, hA, hAl, c0, c1, c2, -, -⟩ := hat.read
  have hml := hT.mlen
  clear hat hT p1 p2 p3 p4 p5 hA
  go_enter Tryz.func16, Tryz.ntmps16
  go_wp2_with (first | (go_at_call 39; refine (undoNone2 A B w c0).mono ?_; rintro e w2 ⟨rfl, hw2⟩; subst hw2))
  refine (undoFind S K ol om A B T name _ HAT.out).mono ?_
  rintro e w3 ⟨r, rfl, hr, hg3⟩
  have HG3 := Lib.hid hg3
  have hat3 : TrailAt S K ol om w3 A B T := HAT.out.keep (Mod.of_grow (F := fun _ => False) hg3) (fun h => h) (fun _ _ h => h) (fun _ _ h => h) (fun _ _ h => h) (fun _ _ h => h)
  clear c0 c1 c2 hAl hg3
  rcases hr with ⟨rfl, hall⟩ | ⟨k, x, rfl, hx, hxn, hpre⟩
  · have HE := Lib.hid (show backT T name = (60, T) by unfold backT; simp only [findIdx_no hall])
    clear hat3 hall
    go_wp2
    go_ret
    exact ⟨by rw [HE.out]; rfl, by rw [HE.out]; exact (HOK.out.grow HG3.out).sub (fun b hb => .inl hb), Mod.of_grow HG3.out⟩
  · have hkl := (List.getElem?_eq_some_iff.1 hx).1
    have HE := Lib.hid (show backT T name = (0, ⟨(cutT T x.2).g, (cutT T x.2).l, T.marks.take (k + 1)⟩) by unfold backT; simp only [findIdx_yes hx hxn hpre, hx, Option.map_some, Option.getD_some])
    have hx64 := HT.out.mat x (List.mem_of_getElem? hx)
    have HAT3 := Lib.hid hat3
    obtain ⟨la, lc, oa, oc, hA3, hAl, c0, c1, c2, -, q3⟩ := hat3.read
    obtain ⟨g0, rfl⟩ : ∃ g0, om = some g0 := by
      obtain ⟨_, _, _, h⟩ := q3
      rcases h.2 with ⟨_, _, h, _⟩ | ⟨g0, _, _, _, h, _⟩
      · omega
      · exact ⟨g0, h⟩
    have hoa : oa = some ⟨g0, 0, none⟩ := by
      obtain ⟨_, _, _, h⟩ := q3
      rcases h.2 with ⟨_, _, _, h, _⟩ | ⟨g1, _, _, h, h1, _⟩
      · cases h
      · simp only [Value.slice.injEq] at h; cases h1; exact h.1
    subst hoa
    obtain ⟨r, hr, -, hcell⟩ := q3.row hx
    unfold RMark at hr
    subst hr
    have cx : w3.cell? ⟨g0, k * 2 + 1, none⟩ = some (.int .i64 x.2) := by
      have h := hcell 1 _ rfl
      rwa [Nat.zero_add] at h
    have hgl := q3.lt g0 rfl
    clear hat3 q3 hcell hx hxn hpre hA3
    go_wp2_with fail
    refine (undoCut S K ol (some g0) A B T x.2 _ HAT3.out HT.out hx64).mono ?_
    rintro e w4 ⟨rfl, S', hat4, hS', hm4⟩
    have HAT4 := Lib.hid hat4; have HS' := Lib.hid hS'; have HM4 := Lib.hid hm4
    obtain ⟨la4, lc4, oa4, oc4, hA4, hAl4, d0, d1, d2, -, q4⟩ := hat4.read
    have hmk : (cutT T x.2).marks = T.marks := rfl
    rw [hmk] at hA4 d2 q4
    have hoa4 : oa4 = some ⟨g0, 0, none⟩ := by
      obtain ⟨_, _, _, h⟩ := q4
      rcases h.2 with ⟨_, _, _, h, _⟩ | ⟨g1, _, _, h, h1, _⟩
      · cases h
      · simp only [Value.slice.injEq] at h; cases h1; exact h.1
    subst hoa4
    have hoc : T.marks.length ≤ oc4 := by obtain ⟨_, _, _, h⟩ := q4; obtain ⟨_, _, h1, h2, _⟩ := h.isSlice; simp only [Value.slice.injEq] at h1; omega
    have f4 := blk_free hA4 2
    have Q4 := Lib.hid q4
    have u1 : (0 : Int) ≤ (k : Int) + 1 := by omega
    have u2 : (k : Int) + 1 ≤ (oc4 : Int) := by omega
    have u3 : ((k : Int) + 1).toNat = k + 1 := by omega
    have u4 : ¬ oc4 = 0 := by omega
    clear hat4 hS' hm4 hA4 q4 hmk c0 c1 c2 cx
    go_wp2
    go_ret
    have q6 := OwnL.take Q4.out (k + 1) (by omega)
    have hn : ∀ g, some g0 = some g → ¬ K g ∧ g ≠ A ∧ ¬ S' g ∧ ol ≠ some g := fun g hg => by
      obtain ⟨lv, mv, z1, z2, z3, z4, z5, z6, z7, z8, z9⟩ := HAT4.out
      exact ⟨(z8 g hg).1, (z8 g hg).2, fun hh => (z5 g hh).2.2.2.1 hg, fun hh => (z7 g hh).2.2 hg⟩
    have h9 := HAT4.out.setM q6 hn
    refine ⟨by rw [HE.out]; rfl, ?_, ?_⟩
    · rw [HE.out]
      exact ⟨S', K, ol, some g0, h9, .inl P1.out, fun b hb => (HS'.out b hb).imp (P2.out b) (fun h => Nat.le_trans HG3.out.size h), fun b hb => .inl (P3.out b hb), fun g hg => .inl (P4.out g hg), fun g hg => .inl (P5.out g hg)⟩
    · exact ((Mod.of_grow HG3.out).step (HM4.out.mono (fun b hb => hb.elim (P2.out b) (fun e => e ▸ P1.out)))).setd (p := ⟨A, 2, none⟩) (.inl P1.out) _
end Go.Hg

namespace Go.Hg
open Go.RowKit Go.Proofs

def Pair (T1 T2 : TypeId) (w1 w : World) (B1 B2 : Nat) (G1 G2 : PGraph) : Prop :=
  ∃ S1 S2 : Nat → Prop, GraphOk T1 S1 w B1 G1 ∧ GraphOk T2 S2 w B2 G2 ∧ (∀ b, S1 b → ¬ S2 b) ∧ (∀ b, S1 b → w1.heap.size ≤ b ∧ b < w.heap.size) ∧ (∀ b, S2 b → w1.heap.size ≤ b ∧ b < w.heap.size) ∧ Grow w1 w
theorem Pair.grow {T1 T2 : TypeId} {w1 w w' : World} {B1 B2 : Nat} {G1 G2 : PGraph} (h : Pair T1 T2 w1 w B1 B2 G1 G2) (g : Grow w w') : Pair T1 T2 w1 w' B1 B2 G1 G2 := by
  obtain ⟨S1, S2, h1, h2, h3, h4, h5, h6⟩ := h
  exact ⟨S1, S2, h1.grow g, h2.grow g, h3, fun b hb => ⟨(h4 b hb).1, Nat.lt_of_lt_of_le (h4 b hb).2 g.size⟩, fun b hb => ⟨(h5 b hb).1, Nat.lt_of_lt_of_le (h5 b hb).2 g.size⟩, h6.step g⟩
end Go.Hg

namespace Go.Hg
def wa : POp := ⟨1, 0, sMan, 0, 0, ByteArray.empty, ⟨0, 0, ByteArray.empty⟩, false⟩
end Go.Hg

namespace Go.Hg
open Go.RowKit Go.Proofs

theorem infoOp : (Tryz.prog.info? 35).map (fun i => (i.zero, i.size, i.bytes)) = some (some (.agg #[.int .i64 0, .int .i64 0, .string ByteArray.empty, .int .i64 0, .int .i64 0, .string ByteArray.empty, .int .i64 0, .int .i64 0, .string ByteArray.empty, .bool false]), 10, 104) := by kernel_rfl
theorem oneOps (l : List POp) : ∀ u ∈ (l.map POp.cells).flatten, u.oneCell' = true := by
  intro u hu
  obtain ⟨r, hr, hur⟩ := List.mem_flatten.1 hu
  obtain ⟨o, -, rfl⟩ := List.mem_map.1 hr
  simp only [POp.cells, List.mem_cons, List.not_mem_nil, or_false] at hur
  rcases hur with rfl | rfl | rfl | rfl | rfl | rfl | rfl | rfl | rfl | rfl <;> rfl
end Go.Hg

namespace Go.Hg
open Go.RowKit Go.Proofs

theorem BackV.isFunc {K : Nat → Prop} {w : World} {B : Nat} {o : POp} {g : PGraph} {fv : Value} (h : BackV K w B o g fv) : ∃ f caps, fv = .func (.func f) #[] caps := by
  obtain ⟨gb, h0, h⟩ := h
  rcases h with ⟨h1, nb, h2, h3⟩ | ⟨h1, ob, vb, ps, h2, h3, h4, h5⟩ | ⟨h1, eb, x, pv, h2, h3, h4, h5, h6⟩ | ⟨h1, nb, eb, x, pv, ev, h2, h3, h4, h5, h6, h7, h8⟩
  · exact ⟨_, _, h3⟩
  · exact ⟨_, _, h5⟩
  · exact ⟨_, _, h6⟩
  · exact ⟨_, _, h8⟩
set_option maxRecDepth 100000 in
set_option maxHeartbeats 2000000 in
theorem undoDone (P : Nat → Prop) (A B : Nat) (T : PTrail) (w : World) (h : TrailOk P w A B T) (hT : TInv T) :
    Calls Tryz.prog 17 #[capU A] w fun e w' => ∃ v ob, e = .returned v ∧ OwnS w' 35 10 v T.l.length ((T.l.map (·.1)).map POp.cells).flatten ob ∧ (∀ g, ob = some g → w.heap.size ≤ g) ∧ Grow w w' := by
  obtain ⟨S, K, ol, om, hat, -⟩ := h
  obtain ⟨la, lc, ma, mc, hA, hAl, c0, c1, c2, q2, -⟩ := hat.read
  have hsl : SlR (fun _ => True) w 11 (RChg K w B) (.slice la T.l.length lc) T.l := q2.toSl (S := fun _ => True) (fun _ _ => trivial)
  obtain ⟨aa, ca, hv, hal, hac, hSA⟩ := SlR.open hsl
  simp only [Value.slice.injEq, true_and] at hv
  obtain ⟨rfl, rfl⟩ := hv
  unfold maxLen at hac
  have HA := Lib.hid hSA
  have hln := hT.len
  obtain ⟨iO, hiO, hzO0, hzO1, hzO2⟩ := info_parts infoOp
  clear hat q2 hsl hSA hA hT
  go_enter Tryz.func17, Tryz.ntmps17
  go_wp2_with fail
  refine (undoNone2 A B w c0).mono ?_
  rintro e w2 ⟨rfl, hw2⟩
  subst hw2
  go_wp2
  go_loopg [3, 13] T.l.length (fun g lv i wr => ∃ (k : Nat) (ob : Option Nat), k ≤ T.l.length ∧ g = T.l.length - k ∧ i = .int .i64 k ∧ OwnS wr 35 10 lv k (((T.l.take k).map (·.1)).map POp.cells).flatten ob ∧ (∀ g, ob = some g → w.heap.size ≤ g) ∧ Grow w wr)
  case atStart => exact ⟨0, none, by omega, by omega, rfl, OwnS.nil _ _ _, by simp, Grow.rfl' w⟩
  case round =>
    obtain ⟨k, ob, hk, rfl, rfl, hown, hob, hgr⟩ := hrel
    have HOWN := Lib.hid hown; have HOB := Lib.hid hob; have HGR := Lib.hid hgr
    obtain ⟨oa, oc, rfl, -, -⟩ := hown.isSlice
    clear hown hob
    by_cases hkl : k < T.l.length
    · obtain ⟨ba, off, ra, rfl, -, hba, hRa, hca⟩ := HA.out k T.l[k] (List.getElem?_eq_getElem hkl)
      have HTK := Lib.hid (show T.l.take (k + 1) = T.l.take k ++ [T.l[k]] from List.take_succ_eq_append_getElem hkl)
      generalize T.l[k] = x at *
      obtain ⟨o, g⟩ := x
      obtain ⟨fv, rfl, hbv⟩ := hRa
      obtain ⟨f, caps, rfl⟩ := hbv.isFunc
      have hbr : ba < wr.heap.size := Nat.lt_of_lt_of_le hba hgr.size
      have ac : ∀ (j : Nat) c, (o.cells ++ [.func (.func f) #[] caps])[j]? = some c → wr.cell? ⟨ba, off + k * 11 + j, none⟩ = some c := fun j c h => by
        rw [World.cell?_of_block (w := w) (hgr.heapEq hba)]; exact hca j c h
      have a0 := ac 0 _ rfl
      have a1 := ac 1 _ rfl
      have a2 := ac 2 _ rfl
      have a3 := ac 3 _ rfl
      have a4 := ac 4 _ rfl
      have a5 := ac 5 _ rfl
      have a6 := ac 6 _ rfl
      have a7 := ac 7 _ rfl
      have a8 := ac 8 _ rfl
      have a9 := ac 9 _ rfl
      have a10 := ac 10 _ rfl
      rw [Nat.add_zero] at a0
      have HGA := Lib.hid (show ∀ o1 o2, Grow wr ((wr.alloc o1).alloc o2) from fun o1 o2 => ((Grow.rfl' wr).allocd o1).allocd o2)
      have HRD := Lib.hid (show ∀ o1, Rd ((wr.alloc o1).alloc (.cells o.cells.toArray 35)) 10 (.slice (some ⟨wr.heap.size + 1, 0, none⟩) 1 1) 1 o.cells from fun o1 => by
        have h := Rd.lit (wr.alloc o1) o.cells.toArray 35 10 1 rfl
        rw [World.size_alloc] at h
        exact h)
      clear ac hca hbv hba hgr
      go_wp2_with (at_builtin; go_must (refine wpList_append_S _ rfl (.tmp 17) (.tmp 20) 22 rfl 35 iO _ 10 104 Tryz.underlying22 hiO hzO0 hzO1 hzO2 rfl (by decide) (.slice oa k oc) k _ ob rfl (HOWN.out.grow (HGA.out _ _)) (.slice (some ⟨wr.heap.size + 1, 0, none⟩) 1 1) rfl 1 _ (HRD.out _) (by have := oneOps [o]; simpa using this) (by unfold maxLen; omega) (by omega) ?_))
      intro v8 w8 ob8 k1 k2 k3
      try (intro _)
      have g8 : Grow w w8 := (HGR.out.step (HGA.out _ _)).modd k2 (fun b hb => HOB.out b hb)
      have hsr := HGR.out.size
      have ho8 : ∀ g, ob8 = some g → w.heap.size ≤ g := fun g hg => by
        rcases k3 with h | ⟨g', h, hge⟩
        · exact HOB.out g (h ▸ hg)
        · rw [h] at hg; cases hg; (try simp at hge); omega
      have K1 := Lib.hid k1; have G8 := Lib.hid g8; have HO8 := Lib.hid ho8
      obtain ⟨oa8, oc8, rfl, -, -⟩ := k1.isSlice
      clear k1 k2 k3 g8 ho8
      go_wp2
      go_roundg (T.l.length - (k + 1))
      case measure => omega
      case rel =>
        refine ⟨k + 1, ob8, by omega, rfl, by first | go_num | (unfold wrap64; refine congrArg _ ?_; omega), ?_, HO8.out, G8.out⟩
        rw [HTK.out, List.map_append, List.map_append, List.flatten_append]
        simpa using K1.out
    · have hke : k = T.l.length := by omega
      subst hke
      go_wp2
      go_ret
      have h := HOWN.out
      rw [List.take_length] at h
      exact ⟨_, ob, rfl, h, HOB.out, HGR.out⟩
end Go.Hg
