/- A row of structs of one's own, made since a block: the law of append; rule.Form, hedgerowref15.Form; val.Get, hedgerowref02.Get: a property's value; The closures of rule.Keeps but unique and most: of, exists, ends; slices.ContainsFunc at nodes and edges, with any captured variables; Maps with any keys that can be told apart: a function's view; look, update, entry and its store, delete, clear; A map of int64 to int, as the kit's laws of ranges and of maps.DeleteFunc want it, and back. Conditions: those that each theorem names. -/
import Derived.WalkKit
import Derived.WalkSpells
import Derived.WalkLawsBesides
import Derived.Lib.Hide
import Derived.BigQuiet
import Derived.Deep.LoopGhost
import Derived.Test.YtanijffgogpmdaaGreatRows
import Derived.Lib.SliceRun
import Derived.WideMake
import Derived.Deep.RegionLaw
import Derived.Lib.Overlaps
import Derived.Deep.RegionHeld3
import Derived.Laws.ResultCell
import Derived.Laws.EntriesVeiled
import Derived.Maps.OwnOps
import Derived.Maps.OwnSet
import Derived.Carry
import Derived.Lib.SlKeysI
import Derived.Maps.RangeWalk
import Derived.Lib.SlMapFilter
import Derived.Test.YtanijffgogpmdaaGreatDirN
import Derived.Test.YtanijffgogpmdaaGreatDirP
import Derived.Test.YtanijffgogpmdaaGreatDirQ
import Derived.Test.YtanijffgogpmdaaGreatDirR
import Derived.Test.YtanijffgogpmdaaGreatDirT
import Derived.Test.YtanijffgogpmdaaGreatDirV
import Derived.Test.YtanijffgogpmdaaGreatDirW
import Derived.Test.YtanijffgogpmdaaGreatDirX
import Derived.Test.YtanijffgogpmdaaGreatDirAd
import Derived.Test.YtanijffgogpmdaaGreatDirAg
namespace Go.Hg
open Go.RowKit Go.Proofs

section
variable {α : Type} {e : TypeId} {sz : Nat} {R : α → List Value → Prop} {n : Nat} {w w' : World} {v : Value} {l : List α}
end
theorem wpList_append_R {P : Program} {α : Type} {R : α → List Value → Prop} {w : World} {ops : Array Oper} {rest : List Oper} {o : Oper} {a : Act} {Q : Exit → Act → World → Prop} (hgd : o.guard = none) (s x : Operand) (t : TypeId)
    (ho : o.op = .call { callee := .builtin .append, args := #[s, x], argTypes := #[t, t] }) {e : TypeId} {sz bytes : Nat} (T : RowT P e sz bytes) (ht : P.underlying t = some (.slice e)) (n : Nat) (v : Value) (l : List α) (hs : a.eval s = v) (h : OwnN e sz R n w v l)
    (y : α) (r : List Value) (hr : R y r) (hrl : r.length = sz) (h1 : ∀ u ∈ r, u.oneCell' = true) (nb : Nat) (hx : a.eval x = .slice (some ⟨nb, 0, none⟩) 1 1) (hrd : Rd w sz (.slice (some ⟨nb, 0, none⟩) 1 1) 1 r) (hn : n ≤ w.heap.size) (hl : l.length + 1 ≤ maxLen) (hby : (l.length + 1) * bytes ≤ 140737488355328)
    (hK : ∀ v' w', OwnN e sz R n w' v' (l ++ [y]) → Since n w w' → w.heap.size ≤ w'.heap.size → wpList P ops Q rest (a.put o.dst v') w') : wpList P ops Q (o :: rest) a w := by
  obtain ⟨⟨iP, z, hiP, hzP0, hzP1, hzP2, hzz⟩, hpos⟩ := T
  obtain ⟨ob, hL, h2⟩ := h
  obtain ⟨rows, hlen, hrow, hS⟩ := hL
  refine wpList_append_S w hgd s x t ho e iP z sz bytes ht hiP hzP0 hzP1 hzP2 hzz hpos v l.length _ ob hs hS _ hx 1 _ hrd h1 hl hby ?_
  intro v' w' ob' k1 k2 k3 _
  refine hK v' w' ⟨ob', ?_, ?_⟩ (k2.mono fun q hq => h2 q hq) k2.size
  · refine ⟨rows ++ [r], by simp [hlen], fun k x1 r1 hx1 hr1 => ?_, ?_⟩
    · by_cases hk : k < l.length
      · rw [List.getElem?_append_left hk] at hx1
        rw [List.getElem?_append_left (by omega)] at hr1
        exact hrow k x1 r1 hx1 hr1
      · have hk2 : k = l.length := by
          have := (List.getElem?_eq_some_iff.1 hx1).1
          simp at this
          omega
        subst hk2
        rw [List.getElem?_append_right (by omega)] at hx1
        rw [← hlen, List.getElem?_append_right (by omega)] at hr1
        simp at hx1 hr1
        subst hx1; subst hr1
        exact ⟨hr, hrl⟩
    · rw [List.length_append, List.flatten_append]
      simpa using k1
  · intro q hq
    rcases k3 with k3 | ⟨g, k3, hg⟩
    · exact h2 q (k3 ▸ hq)
    · rw [k3] at hq; cases hq; omega
end Go.Hg

namespace Go.Hg
open Go.RowKit Go.Proofs

theorem valNameB {s : ByteArray} {b : Bool} (hb : decide (NameOk s) = b) (w : World) : Calls Tryz.prog 101 #[.string s] w fun e w' => e = .returned (.bool b) ∧ w' = w := hb ▸ valName s w
theorem valNameG {s : ByteArray} {b : Bool} (hb : decide (NameOk s) = b) (w : World) : Calls Tryz.prog 101 #[.string s] w fun e w' => e = .returned (.bool b) ∧ Grow w w' :=
  (valNameB hb w).mono fun _ _ ⟨h1, h2⟩ => ⟨h1, h2 ▸ Grow.rfl' _⟩
set_option maxRecDepth 100000 in
set_option maxHeartbeats 2000000 in
theorem ruleForm1 (id : Int) (typ name from_ to_ : ByteArray) (n state : Int) (w : World) : Calls Tryz.prog 50 #[(PRule.mk id 1 typ name from_ to_ n state).args] w fun e w' => e = .returned (.bool (formR ⟨id, 1, typ, name, from_, to_, n, state⟩)) ∧ Grow w w' := by
  have HW := Lib.hid (show ∀ o1, Grow w (w.alloc o1) from fun o1 => (Grow.rfl' w).allocd o1)
  have HB := Lib.hid (show ∀ o1 w', Grow (w.alloc o1) w' → w'.heap[w.heap.size]? = some o1 from fun o1 w' hg => by rw [hg.heapEq (by simp)]; exact heap_alloc_new w _)
  generalize hF : formR _ = F
  have HF := Lib.hid hF; clear hF
  obtain ⟨b1, hb1⟩ : ∃ b, decide (NameOk typ) = b := ⟨_, rfl⟩
  obtain ⟨b2, hb2⟩ : ∃ b, decide (NameOk name) = b := ⟨_, rfl⟩
  obtain ⟨b3, hb3⟩ : ∃ b, decide (NameOk from_) = b := ⟨_, rfl⟩
  obtain ⟨b4, hb4⟩ : ∃ b, decide (NameOk to_) = b := ⟨_, rfl⟩
  have H1 := Lib.hid hb1; have H2 := Lib.hid hb2; have H3 := Lib.hid hb3; have H4 := Lib.hid hb4
  clear hb1 hb2 hb3 hb4
  have HK := Lib.hid True.intro
  cases b1
  · skip
    have hF : F = false := by rw [← HF.out]; simp [formR, H1.out, *]
    subst hF
    clear HF
    go_enter Tryz.func50, Tryz.ntmps50
    go_wp2_with fail
    refine wp_region_grow (by kernel_rfl) (by kernel_rfl) ?_
    repeat (go_big_quiet_step (first | (go_at_call 101; with_reducible exact calls_gr (valNameG H1.out _)) | (go_at_call 101; with_reducible exact calls_gr (valNameG H2.out _))))
    refine wpQuiet_nil ?_
    intro w2 hw2
    have HB2 := HB.out _ w2 hw2
    have hbl := blk_lt HB2
    have c1 : w2.cell? ⟨w.heap.size, 1, none⟩ = some (.int .i64 1) := by rw [blk_cell HB2]; rfl
    have c3 : w2.cell? ⟨w.heap.size, 3, none⟩ = some (.string name) := by rw [blk_cell HB2]; rfl
    have c4 : w2.cell? ⟨w.heap.size, 4, none⟩ = some (.string from_) := by rw [blk_cell HB2]; rfl
    have c5 : w2.cell? ⟨w.heap.size, 5, none⟩ = some (.string to_) := by rw [blk_cell HB2]; rfl
    have c6 : w2.cell? ⟨w.heap.size, 6, none⟩ = some (.int .i64 n) := by rw [blk_cell HB2]; rfl
    have HG2 := Lib.hid ((HW.out _).step hw2)
    clear HB2 hw2
    go_wp2_with (go_at_call 101; (first | (with_reducible refine (valNameB H1.out _).mono ?_) | (with_reducible refine (valNameB H2.out _).mono ?_) | (with_reducible refine (valNameB H3.out _).mono ?_) | (with_reducible refine (valNameB H4.out _).mono ?_)); rintro e w3 ⟨rfl, rfl⟩)
    go_ret
    exact ⟨rfl, HG2.out⟩
  · skip
    cases b2
    · skip
      have hF : F = false := by rw [← HF.out]; simp [formR, H1.out, H2.out, *]
      subst hF
      clear HF
      go_enter Tryz.func50, Tryz.ntmps50
      go_wp2_with fail
      refine wp_region_grow (by kernel_rfl) (by kernel_rfl) ?_
      repeat (go_big_quiet_step (first | (go_at_call 101; with_reducible exact calls_gr (valNameG H1.out _)) | (go_at_call 101; with_reducible exact calls_gr (valNameG H2.out _))))
      refine wpQuiet_nil ?_
      intro w2 hw2
      have HB2 := HB.out _ w2 hw2
      have hbl := blk_lt HB2
      have c1 : w2.cell? ⟨w.heap.size, 1, none⟩ = some (.int .i64 1) := by rw [blk_cell HB2]; rfl
      have c3 : w2.cell? ⟨w.heap.size, 3, none⟩ = some (.string name) := by rw [blk_cell HB2]; rfl
      have c4 : w2.cell? ⟨w.heap.size, 4, none⟩ = some (.string from_) := by rw [blk_cell HB2]; rfl
      have c5 : w2.cell? ⟨w.heap.size, 5, none⟩ = some (.string to_) := by rw [blk_cell HB2]; rfl
      have c6 : w2.cell? ⟨w.heap.size, 6, none⟩ = some (.int .i64 n) := by rw [blk_cell HB2]; rfl
      have HG2 := Lib.hid ((HW.out _).step hw2)
      clear HB2 hw2
      go_wp2_with (go_at_call 101; (first | (with_reducible refine (valNameB H1.out _).mono ?_) | (with_reducible refine (valNameB H2.out _).mono ?_) | (with_reducible refine (valNameB H3.out _).mono ?_) | (with_reducible refine (valNameB H4.out _).mono ?_)); rintro e w3 ⟨rfl, rfl⟩)
      go_ret
      exact ⟨rfl, HG2.out⟩
    · skip
      by_cases h2 : from_ = ByteArray.empty
      · skip
        subst h2
        by_cases h3 : to_ = ByteArray.empty
        · skip
          subst h3
          by_cases h4 : n = 0
          · skip
            subst h4
            have hF : F = true := by rw [← HF.out]; simp [formR, H1.out, H2.out, *]
            subst hF
            clear HF
            go_enter Tryz.func50, Tryz.ntmps50
            go_wp2_with fail
            refine wp_region_grow (by kernel_rfl) (by kernel_rfl) ?_
            repeat (go_big_quiet_step (first | (go_at_call 101; with_reducible exact calls_gr (valNameG H1.out _)) | (go_at_call 101; with_reducible exact calls_gr (valNameG H2.out _))))
            refine wpQuiet_nil ?_
            intro w2 hw2
            have HB2 := HB.out _ w2 hw2
            have hbl := blk_lt HB2
            have c1 : w2.cell? ⟨w.heap.size, 1, none⟩ = some (.int .i64 1) := by rw [blk_cell HB2]; rfl
            have c3 : w2.cell? ⟨w.heap.size, 3, none⟩ = some (.string name) := by rw [blk_cell HB2]; rfl
            have c4 : w2.cell? ⟨w.heap.size, 4, none⟩ = some (.string ByteArray.empty) := by rw [blk_cell HB2]; rfl
            have c5 : w2.cell? ⟨w.heap.size, 5, none⟩ = some (.string ByteArray.empty) := by rw [blk_cell HB2]; rfl
            have c6 : w2.cell? ⟨w.heap.size, 6, none⟩ = some (.int .i64 0) := by rw [blk_cell HB2]; rfl
            have HG2 := Lib.hid ((HW.out _).step hw2)
            clear HB2 hw2
            go_wp2_with (go_at_call 101; (first | (with_reducible refine (valNameB H1.out _).mono ?_) | (with_reducible refine (valNameB H2.out _).mono ?_) | (with_reducible refine (valNameB H3.out _).mono ?_) | (with_reducible refine (valNameB H4.out _).mono ?_)); rintro e w3 ⟨rfl, rfl⟩)
            go_ret
            exact ⟨rfl, HG2.out⟩
          · skip
            have q4 : (n == 0) = false := by simpa using h4
            have hF : F = false := by rw [← HF.out]; simp [formR, H1.out, H2.out, *]
            subst hF
            clear HF
            go_enter Tryz.func50, Tryz.ntmps50
            go_wp2_with fail
            refine wp_region_grow (by kernel_rfl) (by kernel_rfl) ?_
            repeat (go_big_quiet_step (first | (go_at_call 101; with_reducible exact calls_gr (valNameG H1.out _)) | (go_at_call 101; with_reducible exact calls_gr (valNameG H2.out _))))
            refine wpQuiet_nil ?_
            intro w2 hw2
            have HB2 := HB.out _ w2 hw2
            have hbl := blk_lt HB2
            have c1 : w2.cell? ⟨w.heap.size, 1, none⟩ = some (.int .i64 1) := by rw [blk_cell HB2]; rfl
            have c3 : w2.cell? ⟨w.heap.size, 3, none⟩ = some (.string name) := by rw [blk_cell HB2]; rfl
            have c4 : w2.cell? ⟨w.heap.size, 4, none⟩ = some (.string ByteArray.empty) := by rw [blk_cell HB2]; rfl
            have c5 : w2.cell? ⟨w.heap.size, 5, none⟩ = some (.string ByteArray.empty) := by rw [blk_cell HB2]; rfl
            have c6 : w2.cell? ⟨w.heap.size, 6, none⟩ = some (.int .i64 n) := by rw [blk_cell HB2]; rfl
            have HG2 := Lib.hid ((HW.out _).step hw2)
            clear HB2 hw2
            go_wp2_with (go_at_call 101; (first | (with_reducible refine (valNameB H1.out _).mono ?_) | (with_reducible refine (valNameB H2.out _).mono ?_) | (with_reducible refine (valNameB H3.out _).mono ?_) | (with_reducible refine (valNameB H4.out _).mono ?_)); rintro e w3 ⟨rfl, rfl⟩)
            go_ret
            exact ⟨rfl, HG2.out⟩
        · skip
          have q3 : (to_.toList == ([] : List UInt8)) = false := (empty_beq to_).trans (decide_eq_false h3)
          have hF : F = false := by rw [← HF.out]; simp [formR, H1.out, H2.out, *]
          subst hF
          clear HF
          go_enter Tryz.func50, Tryz.ntmps50
          go_wp2_with fail
          refine wp_region_grow (by kernel_rfl) (by kernel_rfl) ?_
          repeat (go_big_quiet_step (first | (go_at_call 101; with_reducible exact calls_gr (valNameG H1.out _)) | (go_at_call 101; with_reducible exact calls_gr (valNameG H2.out _))))
          refine wpQuiet_nil ?_
          intro w2 hw2
          have HB2 := HB.out _ w2 hw2
          have hbl := blk_lt HB2
          have c1 : w2.cell? ⟨w.heap.size, 1, none⟩ = some (.int .i64 1) := by rw [blk_cell HB2]; rfl
          have c3 : w2.cell? ⟨w.heap.size, 3, none⟩ = some (.string name) := by rw [blk_cell HB2]; rfl
          have c4 : w2.cell? ⟨w.heap.size, 4, none⟩ = some (.string ByteArray.empty) := by rw [blk_cell HB2]; rfl
          have c5 : w2.cell? ⟨w.heap.size, 5, none⟩ = some (.string to_) := by rw [blk_cell HB2]; rfl
          have c6 : w2.cell? ⟨w.heap.size, 6, none⟩ = some (.int .i64 n) := by rw [blk_cell HB2]; rfl
          have HG2 := Lib.hid ((HW.out _).step hw2)
          clear HB2 hw2
          go_wp2_with (go_at_call 101; (first | (with_reducible refine (valNameB H1.out _).mono ?_) | (with_reducible refine (valNameB H2.out _).mono ?_) | (with_reducible refine (valNameB H3.out _).mono ?_) | (with_reducible refine (valNameB H4.out _).mono ?_)); rintro e w3 ⟨rfl, rfl⟩)
          go_ret
          exact ⟨rfl, HG2.out⟩
      · skip
        have q2 : (from_.toList == ([] : List UInt8)) = false := (empty_beq from_).trans (decide_eq_false h2)
        have hF : F = false := by rw [← HF.out]; simp [formR, H1.out, H2.out, *]
        subst hF
        clear HF
        go_enter Tryz.func50, Tryz.ntmps50
        go_wp2_with fail
        refine wp_region_grow (by kernel_rfl) (by kernel_rfl) ?_
        repeat (go_big_quiet_step (first | (go_at_call 101; with_reducible exact calls_gr (valNameG H1.out _)) | (go_at_call 101; with_reducible exact calls_gr (valNameG H2.out _))))
        refine wpQuiet_nil ?_
        intro w2 hw2
        have HB2 := HB.out _ w2 hw2
        have hbl := blk_lt HB2
        have c1 : w2.cell? ⟨w.heap.size, 1, none⟩ = some (.int .i64 1) := by rw [blk_cell HB2]; rfl
        have c3 : w2.cell? ⟨w.heap.size, 3, none⟩ = some (.string name) := by rw [blk_cell HB2]; rfl
        have c4 : w2.cell? ⟨w.heap.size, 4, none⟩ = some (.string from_) := by rw [blk_cell HB2]; rfl
        have c5 : w2.cell? ⟨w.heap.size, 5, none⟩ = some (.string to_) := by rw [blk_cell HB2]; rfl
        have c6 : w2.cell? ⟨w.heap.size, 6, none⟩ = some (.int .i64 n) := by rw [blk_cell HB2]; rfl
        have HG2 := Lib.hid ((HW.out _).step hw2)
        clear HB2 hw2
        go_wp2_with (go_at_call 101; (first | (with_reducible refine (valNameB H1.out _).mono ?_) | (with_reducible refine (valNameB H2.out _).mono ?_) | (with_reducible refine (valNameB H3.out _).mono ?_) | (with_reducible refine (valNameB H4.out _).mono ?_)); rintro e w3 ⟨rfl, rfl⟩)
        go_ret
        exact ⟨rfl, HG2.out⟩
set_option maxRecDepth 100000 in
set_option maxHeartbeats 2000000 in
theorem ruleForm2 (id : Int) (typ name from_ to_ : ByteArray) (n state : Int) (w : World) : Calls Tryz.prog 50 #[(PRule.mk id 2 typ name from_ to_ n state).args] w fun e w' => e = .returned (.bool (formR ⟨id, 2, typ, name, from_, to_, n, state⟩)) ∧ Grow w w' := by
  have HW := Lib.hid (show ∀ o1, Grow w (w.alloc o1) from fun o1 => (Grow.rfl' w).allocd o1)
  have HB := Lib.hid (show ∀ o1 w', Grow (w.alloc o1) w' → w'.heap[w.heap.size]? = some o1 from fun o1 w' hg => by rw [hg.heapEq (by simp)]; exact heap_alloc_new w _)
  generalize hF : formR _ = F
  have HF := Lib.hid hF; clear hF
  obtain ⟨b1, hb1⟩ : ∃ b, decide (NameOk typ) = b := ⟨_, rfl⟩
  obtain ⟨b2, hb2⟩ : ∃ b, decide (NameOk name) = b := ⟨_, rfl⟩
  obtain ⟨b3, hb3⟩ : ∃ b, decide (NameOk from_) = b := ⟨_, rfl⟩
  obtain ⟨b4, hb4⟩ : ∃ b, decide (NameOk to_) = b := ⟨_, rfl⟩
  have H1 := Lib.hid hb1; have H2 := Lib.hid hb2; have H3 := Lib.hid hb3; have H4 := Lib.hid hb4
  clear hb1 hb2 hb3 hb4
  have HK := Lib.hid True.intro
  cases b1
  · skip
    have hF : F = false := by rw [← HF.out]; simp [formR, H1.out, *]
    subst hF
    clear HF
    go_enter Tryz.func50, Tryz.ntmps50
    go_wp2_with fail
    refine wp_region_grow (by kernel_rfl) (by kernel_rfl) ?_
    repeat (go_big_quiet_step (first | (go_at_call 101; with_reducible exact calls_gr (valNameG H1.out _)) | (go_at_call 101; with_reducible exact calls_gr (valNameG H2.out _))))
    refine wpQuiet_nil ?_
    intro w2 hw2
    have HB2 := HB.out _ w2 hw2
    have hbl := blk_lt HB2
    have c1 : w2.cell? ⟨w.heap.size, 1, none⟩ = some (.int .i64 2) := by rw [blk_cell HB2]; rfl
    have c3 : w2.cell? ⟨w.heap.size, 3, none⟩ = some (.string name) := by rw [blk_cell HB2]; rfl
    have c4 : w2.cell? ⟨w.heap.size, 4, none⟩ = some (.string from_) := by rw [blk_cell HB2]; rfl
    have c5 : w2.cell? ⟨w.heap.size, 5, none⟩ = some (.string to_) := by rw [blk_cell HB2]; rfl
    have c6 : w2.cell? ⟨w.heap.size, 6, none⟩ = some (.int .i64 n) := by rw [blk_cell HB2]; rfl
    have HG2 := Lib.hid ((HW.out _).step hw2)
    clear HB2 hw2
    go_wp2_with (go_at_call 101; (first | (with_reducible refine (valNameB H1.out _).mono ?_) | (with_reducible refine (valNameB H2.out _).mono ?_) | (with_reducible refine (valNameB H3.out _).mono ?_) | (with_reducible refine (valNameB H4.out _).mono ?_)); rintro e w3 ⟨rfl, rfl⟩)
    go_ret
    exact ⟨rfl, HG2.out⟩
  · skip
    cases b2
    · skip
      have hF : F = false := by rw [← HF.out]; simp [formR, H1.out, H2.out, *]
      subst hF
      clear HF
      go_enter Tryz.func50, Tryz.ntmps50
      go_wp2_with fail
      refine wp_region_grow (by kernel_rfl) (by kernel_rfl) ?_
      repeat (go_big_quiet_step (first | (go_at_call 101; with_reducible exact calls_gr (valNameG H1.out _)) | (go_at_call 101; with_reducible exact calls_gr (valNameG H2.out _))))
      refine wpQuiet_nil ?_
      intro w2 hw2
      have HB2 := HB.out _ w2 hw2
      have hbl := blk_lt HB2
      have c1 : w2.cell? ⟨w.heap.size, 1, none⟩ = some (.int .i64 2) := by rw [blk_cell HB2]; rfl
      have c3 : w2.cell? ⟨w.heap.size, 3, none⟩ = some (.string name) := by rw [blk_cell HB2]; rfl
      have c4 : w2.cell? ⟨w.heap.size, 4, none⟩ = some (.string from_) := by rw [blk_cell HB2]; rfl
      have c5 : w2.cell? ⟨w.heap.size, 5, none⟩ = some (.string to_) := by rw [blk_cell HB2]; rfl
      have c6 : w2.cell? ⟨w.heap.size, 6, none⟩ = some (.int .i64 n) := by rw [blk_cell HB2]; rfl
      have HG2 := Lib.hid ((HW.out _).step hw2)
      clear HB2 hw2
      go_wp2_with (go_at_call 101; (first | (with_reducible refine (valNameB H1.out _).mono ?_) | (with_reducible refine (valNameB H2.out _).mono ?_) | (with_reducible refine (valNameB H3.out _).mono ?_) | (with_reducible refine (valNameB H4.out _).mono ?_)); rintro e w3 ⟨rfl, rfl⟩)
      go_ret
      exact ⟨rfl, HG2.out⟩
    · skip
      by_cases h2 : from_ = ByteArray.empty
      · skip
        subst h2
        by_cases h3 : to_ = ByteArray.empty
        · skip
          subst h3
          by_cases h4 : n = 0
          · skip
            subst h4
            have hF : F = true := by rw [← HF.out]; simp [formR, H1.out, H2.out, *]
            subst hF
            clear HF
            go_enter Tryz.func50, Tryz.ntmps50
            go_wp2_with fail
            refine wp_region_grow (by kernel_rfl) (by kernel_rfl) ?_
            repeat (go_big_quiet_step (first | (go_at_call 101; with_reducible exact calls_gr (valNameG H1.out _)) | (go_at_call 101; with_reducible exact calls_gr (valNameG H2.out _))))
            refine wpQuiet_nil ?_
            intro w2 hw2
            have HB2 := HB.out _ w2 hw2
            have hbl := blk_lt HB2
            have c1 : w2.cell? ⟨w.heap.size, 1, none⟩ = some (.int .i64 2) := by rw [blk_cell HB2]; rfl
            have c3 : w2.cell? ⟨w.heap.size, 3, none⟩ = some (.string name) := by rw [blk_cell HB2]; rfl
            have c4 : w2.cell? ⟨w.heap.size, 4, none⟩ = some (.string ByteArray.empty) := by rw [blk_cell HB2]; rfl
            have c5 : w2.cell? ⟨w.heap.size, 5, none⟩ = some (.string ByteArray.empty) := by rw [blk_cell HB2]; rfl
            have c6 : w2.cell? ⟨w.heap.size, 6, none⟩ = some (.int .i64 0) := by rw [blk_cell HB2]; rfl
            have HG2 := Lib.hid ((HW.out _).step hw2)
            clear HB2 hw2
            go_wp2_with (go_at_call 101; (first | (with_reducible refine (valNameB H1.out _).mono ?_) | (with_reducible refine (valNameB H2.out _).mono ?_) | (with_reducible refine (valNameB H3.out _).mono ?_) | (with_reducible refine (valNameB H4.out _).mono ?_)); rintro e w3 ⟨rfl, rfl⟩)
            go_ret
            exact ⟨rfl, HG2.out⟩
          · skip
            have q4 : (n == 0) = false := by simpa using h4
            have hF : F = false := by rw [← HF.out]; simp [formR, H1.out, H2.out, *]
            subst hF
            clear HF
            go_enter Tryz.func50, Tryz.ntmps50
            go_wp2_with fail
            refine wp_region_grow (by kernel_rfl) (by kernel_rfl) ?_
            repeat (go_big_quiet_step (first | (go_at_call 101; with_reducible exact calls_gr (valNameG H1.out _)) | (go_at_call 101; with_reducible exact calls_gr (valNameG H2.out _))))
            refine wpQuiet_nil ?_
            intro w2 hw2
            have HB2 := HB.out _ w2 hw2
            have hbl := blk_lt HB2
            have c1 : w2.cell? ⟨w.heap.size, 1, none⟩ = some (.int .i64 2) := by rw [blk_cell HB2]; rfl
            have c3 : w2.cell? ⟨w.heap.size, 3, none⟩ = some (.string name) := by rw [blk_cell HB2]; rfl
            have c4 : w2.cell? ⟨w.heap.size, 4, none⟩ = some (.string ByteArray.empty) := by rw [blk_cell HB2]; rfl
            have c5 : w2.cell? ⟨w.heap.size, 5, none⟩ = some (.string ByteArray.empty) := by rw [blk_cell HB2]; rfl
            have c6 : w2.cell? ⟨w.heap.size, 6, none⟩ = some (.int .i64 n) := by rw [blk_cell HB2]; rfl
            have HG2 := Lib.hid ((HW.out _).step hw2)
            clear HB2 hw2
            go_wp2_with (go_at_call 101; (first | (with_reducible refine (valNameB H1.out _).mono ?_) | (with_reducible refine (valNameB H2.out _).mono ?_) | (with_reducible refine (valNameB H3.out _).mono ?_) | (with_reducible refine (valNameB H4.out _).mono ?_)); rintro e w3 ⟨rfl, rfl⟩)
            go_ret
            exact ⟨rfl, HG2.out⟩
        · skip
          have q3 : (to_.toList == ([] : List UInt8)) = false := (empty_beq to_).trans (decide_eq_false h3)
          have hF : F = false := by rw [← HF.out]; simp [formR, H1.out, H2.out, *]
          subst hF
          clear HF
          go_enter Tryz.func50, Tryz.ntmps50
          go_wp2_with fail
          refine wp_region_grow (by kernel_rfl) (by kernel_rfl) ?_
          repeat (go_big_quiet_step (first | (go_at_call 101; with_reducible exact calls_gr (valNameG H1.out _)) | (go_at_call 101; with_reducible exact calls_gr (valNameG H2.out _))))
          refine wpQuiet_nil ?_
          intro w2 hw2
          have HB2 := HB.out _ w2 hw2
          have hbl := blk_lt HB2
          have c1 : w2.cell? ⟨w.heap.size, 1, none⟩ = some (.int .i64 2) := by rw [blk_cell HB2]; rfl
          have c3 : w2.cell? ⟨w.heap.size, 3, none⟩ = some (.string name) := by rw [blk_cell HB2]; rfl
          have c4 : w2.cell? ⟨w.heap.size, 4, none⟩ = some (.string ByteArray.empty) := by rw [blk_cell HB2]; rfl
          have c5 : w2.cell? ⟨w.heap.size, 5, none⟩ = some (.string to_) := by rw [blk_cell HB2]; rfl
          have c6 : w2.cell? ⟨w.heap.size, 6, none⟩ = some (.int .i64 n) := by rw [blk_cell HB2]; rfl
          have HG2 := Lib.hid ((HW.out _).step hw2)
          clear HB2 hw2
          go_wp2_with (go_at_call 101; (first | (with_reducible refine (valNameB H1.out _).mono ?_) | (with_reducible refine (valNameB H2.out _).mono ?_) | (with_reducible refine (valNameB H3.out _).mono ?_) | (with_reducible refine (valNameB H4.out _).mono ?_)); rintro e w3 ⟨rfl, rfl⟩)
          go_ret
          exact ⟨rfl, HG2.out⟩
      · skip
        have q2 : (from_.toList == ([] : List UInt8)) = false := (empty_beq from_).trans (decide_eq_false h2)
        have hF : F = false := by rw [← HF.out]; simp [formR, H1.out, H2.out, *]
        subst hF
        clear HF
        go_enter Tryz.func50, Tryz.ntmps50
        go_wp2_with fail
        refine wp_region_grow (by kernel_rfl) (by kernel_rfl) ?_
        repeat (go_big_quiet_step (first | (go_at_call 101; with_reducible exact calls_gr (valNameG H1.out _)) | (go_at_call 101; with_reducible exact calls_gr (valNameG H2.out _))))
        refine wpQuiet_nil ?_
        intro w2 hw2
        have HB2 := HB.out _ w2 hw2
        have hbl := blk_lt HB2
        have c1 : w2.cell? ⟨w.heap.size, 1, none⟩ = some (.int .i64 2) := by rw [blk_cell HB2]; rfl
        have c3 : w2.cell? ⟨w.heap.size, 3, none⟩ = some (.string name) := by rw [blk_cell HB2]; rfl
        have c4 : w2.cell? ⟨w.heap.size, 4, none⟩ = some (.string from_) := by rw [blk_cell HB2]; rfl
        have c5 : w2.cell? ⟨w.heap.size, 5, none⟩ = some (.string to_) := by rw [blk_cell HB2]; rfl
        have c6 : w2.cell? ⟨w.heap.size, 6, none⟩ = some (.int .i64 n) := by rw [blk_cell HB2]; rfl
        have HG2 := Lib.hid ((HW.out _).step hw2)
        clear HB2 hw2
        go_wp2_with (go_at_call 101; (first | (with_reducible refine (valNameB H1.out _).mono ?_) | (with_reducible refine (valNameB H2.out _).mono ?_) | (with_reducible refine (valNameB H3.out _).mono ?_) | (with_reducible refine (valNameB H4.out _).mono ?_)); rintro e w3 ⟨rfl, rfl⟩)
        go_ret
        exact ⟨rfl, HG2.out⟩
set_option maxRecDepth 100000 in
set_option maxHeartbeats 2000000 in
theorem ruleForm3 (id : Int) (typ name from_ to_ : ByteArray) (n state : Int) (w : World) : Calls Tryz.prog 50 #[(PRule.mk id 3 typ name from_ to_ n state).args] w fun e w' => e = .returned (.bool (formR ⟨id, 3, typ, name, from_, to_, n, state⟩)) ∧ Grow w w' := by
  have HW := Lib.hid (show ∀ o1, Grow w (w.alloc o1) from fun o1 => (Grow.rfl' w).allocd o1)
  have HB := Lib.hid (show ∀ o1 w', Grow (w.alloc o1) w' → w'.heap[w.heap.size]? = some o1 from fun o1 w' hg => by rw [hg.heapEq (by simp)]; exact heap_alloc_new w _)
  generalize hF : formR _ = F
  have HF := Lib.hid hF; clear hF
  obtain ⟨b1, hb1⟩ : ∃ b, decide (NameOk typ) = b := ⟨_, rfl⟩
  obtain ⟨b2, hb2⟩ : ∃ b, decide (NameOk name) = b := ⟨_, rfl⟩
  obtain ⟨b3, hb3⟩ : ∃ b, decide (NameOk from_) = b := ⟨_, rfl⟩
  obtain ⟨b4, hb4⟩ : ∃ b, decide (NameOk to_) = b := ⟨_, rfl⟩
  have H1 := Lib.hid hb1; have H2 := Lib.hid hb2; have H3 := Lib.hid hb3; have H4 := Lib.hid hb4
  clear hb1 hb2 hb3 hb4
  have HK := Lib.hid True.intro
  cases b1
  · skip
    have hF : F = false := by rw [← HF.out]; simp [formR, H1.out, *]
    subst hF
    clear HF
    go_enter Tryz.func50, Tryz.ntmps50
    go_wp2_with fail
    refine wp_region_grow (by kernel_rfl) (by kernel_rfl) ?_
    repeat (go_big_quiet_step (first | (go_at_call 101; with_reducible exact calls_gr (valNameG H1.out _)) | (go_at_call 101; with_reducible exact calls_gr (valNameG H2.out _))))
    refine wpQuiet_nil ?_
    intro w2 hw2
    have HB2 := HB.out _ w2 hw2
    have hbl := blk_lt HB2
    have c1 : w2.cell? ⟨w.heap.size, 1, none⟩ = some (.int .i64 3) := by rw [blk_cell HB2]; rfl
    have c3 : w2.cell? ⟨w.heap.size, 3, none⟩ = some (.string name) := by rw [blk_cell HB2]; rfl
    have c4 : w2.cell? ⟨w.heap.size, 4, none⟩ = some (.string from_) := by rw [blk_cell HB2]; rfl
    have c5 : w2.cell? ⟨w.heap.size, 5, none⟩ = some (.string to_) := by rw [blk_cell HB2]; rfl
    have c6 : w2.cell? ⟨w.heap.size, 6, none⟩ = some (.int .i64 n) := by rw [blk_cell HB2]; rfl
    have HG2 := Lib.hid ((HW.out _).step hw2)
    clear HB2 hw2
    go_wp2_with (go_at_call 101; (first | (with_reducible refine (valNameB H1.out _).mono ?_) | (with_reducible refine (valNameB H2.out _).mono ?_) | (with_reducible refine (valNameB H3.out _).mono ?_) | (with_reducible refine (valNameB H4.out _).mono ?_)); rintro e w3 ⟨rfl, rfl⟩)
    go_ret
    exact ⟨rfl, HG2.out⟩
  · skip
    cases b3
    · skip
      have hF : F = false := by rw [← HF.out]; simp [formR, H1.out, H3.out, *]
      subst hF
      clear HF
      go_enter Tryz.func50, Tryz.ntmps50
      go_wp2_with fail
      refine wp_region_grow (by kernel_rfl) (by kernel_rfl) ?_
      repeat (go_big_quiet_step (first | (go_at_call 101; with_reducible exact calls_gr (valNameG H1.out _)) | (go_at_call 101; with_reducible exact calls_gr (valNameG H2.out _))))
      refine wpQuiet_nil ?_
      intro w2 hw2
      have HB2 := HB.out _ w2 hw2
      have hbl := blk_lt HB2
      have c1 : w2.cell? ⟨w.heap.size, 1, none⟩ = some (.int .i64 3) := by rw [blk_cell HB2]; rfl
      have c3 : w2.cell? ⟨w.heap.size, 3, none⟩ = some (.string name) := by rw [blk_cell HB2]; rfl
      have c4 : w2.cell? ⟨w.heap.size, 4, none⟩ = some (.string from_) := by rw [blk_cell HB2]; rfl
      have c5 : w2.cell? ⟨w.heap.size, 5, none⟩ = some (.string to_) := by rw [blk_cell HB2]; rfl
      have c6 : w2.cell? ⟨w.heap.size, 6, none⟩ = some (.int .i64 n) := by rw [blk_cell HB2]; rfl
      have HG2 := Lib.hid ((HW.out _).step hw2)
      clear HB2 hw2
      go_wp2_with (go_at_call 101; (first | (with_reducible refine (valNameB H1.out _).mono ?_) | (with_reducible refine (valNameB H2.out _).mono ?_) | (with_reducible refine (valNameB H3.out _).mono ?_) | (with_reducible refine (valNameB H4.out _).mono ?_)); rintro e w3 ⟨rfl, rfl⟩)
      go_ret
      exact ⟨rfl, HG2.out⟩
    · skip
      cases b4
      · skip
        have hF : F = false := by rw [← HF.out]; simp [formR, H1.out, H3.out, H4.out, *]
        subst hF
        clear HF
        go_enter Tryz.func50, Tryz.ntmps50
        go_wp2_with fail
        refine wp_region_grow (by kernel_rfl) (by kernel_rfl) ?_
        repeat (go_big_quiet_step (first | (go_at_call 101; with_reducible exact calls_gr (valNameG H1.out _)) | (go_at_call 101; with_reducible exact calls_gr (valNameG H2.out _))))
        refine wpQuiet_nil ?_
        intro w2 hw2
        have HB2 := HB.out _ w2 hw2
        have hbl := blk_lt HB2
        have c1 : w2.cell? ⟨w.heap.size, 1, none⟩ = some (.int .i64 3) := by rw [blk_cell HB2]; rfl
        have c3 : w2.cell? ⟨w.heap.size, 3, none⟩ = some (.string name) := by rw [blk_cell HB2]; rfl
        have c4 : w2.cell? ⟨w.heap.size, 4, none⟩ = some (.string from_) := by rw [blk_cell HB2]; rfl
        have c5 : w2.cell? ⟨w.heap.size, 5, none⟩ = some (.string to_) := by rw [blk_cell HB2]; rfl
        have c6 : w2.cell? ⟨w.heap.size, 6, none⟩ = some (.int .i64 n) := by rw [blk_cell HB2]; rfl
        have HG2 := Lib.hid ((HW.out _).step hw2)
        clear HB2 hw2
        go_wp2_with (go_at_call 101; (first | (with_reducible refine (valNameB H1.out _).mono ?_) | (with_reducible refine (valNameB H2.out _).mono ?_) | (with_reducible refine (valNameB H3.out _).mono ?_) | (with_reducible refine (valNameB H4.out _).mono ?_)); rintro e w3 ⟨rfl, rfl⟩)
        go_ret
        exact ⟨rfl, HG2.out⟩
      · skip
        by_cases h3 : name = ByteArray.empty
        · skip
          subst h3
          by_cases h4 : n = 0
          · skip
            subst h4
            have hF : F = true := by rw [← HF.out]; simp [formR, H1.out, H3.out, H4.out, *]
            subst hF
            clear HF
            go_enter Tryz.func50, Tryz.ntmps50
            go_wp2_with fail
            refine wp_region_grow (by kernel_rfl) (by kernel_rfl) ?_
            repeat (go_big_quiet_step (first | (go_at_call 101; with_reducible exact calls_gr (valNameG H1.out _)) | (go_at_call 101; with_reducible exact calls_gr (valNameG H2.out _))))
            refine wpQuiet_nil ?_
            intro w2 hw2
            have HB2 := HB.out _ w2 hw2
            have hbl := blk_lt HB2
            have c1 : w2.cell? ⟨w.heap.size, 1, none⟩ = some (.int .i64 3) := by rw [blk_cell HB2]; rfl
            have c3 : w2.cell? ⟨w.heap.size, 3, none⟩ = some (.string ByteArray.empty) := by rw [blk_cell HB2]; rfl
            have c4 : w2.cell? ⟨w.heap.size, 4, none⟩ = some (.string from_) := by rw [blk_cell HB2]; rfl
            have c5 : w2.cell? ⟨w.heap.size, 5, none⟩ = some (.string to_) := by rw [blk_cell HB2]; rfl
            have c6 : w2.cell? ⟨w.heap.size, 6, none⟩ = some (.int .i64 0) := by rw [blk_cell HB2]; rfl
            have HG2 := Lib.hid ((HW.out _).step hw2)
            clear HB2 hw2
            go_wp2_with (go_at_call 101; (first | (with_reducible refine (valNameB H1.out _).mono ?_) | (with_reducible refine (valNameB H2.out _).mono ?_) | (with_reducible refine (valNameB H3.out _).mono ?_) | (with_reducible refine (valNameB H4.out _).mono ?_)); rintro e w3 ⟨rfl, rfl⟩)
            go_ret
            exact ⟨rfl, HG2.out⟩
          · skip
            have q4 : (n == 0) = false := by simpa using h4
            have hF : F = false := by rw [← HF.out]; simp [formR, H1.out, H3.out, H4.out, *]
            subst hF
            clear HF
            go_enter Tryz.func50, Tryz.ntmps50
            go_wp2_with fail
            refine wp_region_grow (by kernel_rfl) (by kernel_rfl) ?_
            repeat (go_big_quiet_step (first | (go_at_call 101; with_reducible exact calls_gr (valNameG H1.out _)) | (go_at_call 101; with_reducible exact calls_gr (valNameG H2.out _))))
            refine wpQuiet_nil ?_
            intro w2 hw2
            have HB2 := HB.out _ w2 hw2
            have hbl := blk_lt HB2
            have c1 : w2.cell? ⟨w.heap.size, 1, none⟩ = some (.int .i64 3) := by rw [blk_cell HB2]; rfl
            have c3 : w2.cell? ⟨w.heap.size, 3, none⟩ = some (.string ByteArray.empty) := by rw [blk_cell HB2]; rfl
            have c4 : w2.cell? ⟨w.heap.size, 4, none⟩ = some (.string from_) := by rw [blk_cell HB2]; rfl
            have c5 : w2.cell? ⟨w.heap.size, 5, none⟩ = some (.string to_) := by rw [blk_cell HB2]; rfl
            have c6 : w2.cell? ⟨w.heap.size, 6, none⟩ = some (.int .i64 n) := by rw [blk_cell HB2]; rfl
            have HG2 := Lib.hid ((HW.out _).step hw2)
            clear HB2 hw2
            go_wp2_with (go_at_call 101; (first | (with_reducible refine (valNameB H1.out _).mono ?_) | (with_reducible refine (valNameB H2.out _).mono ?_) | (with_reducible refine (valNameB H3.out _).mono ?_) | (with_reducible refine (valNameB H4.out _).mono ?_)); rintro e w3 ⟨rfl, rfl⟩)
            go_ret
            exact ⟨rfl, HG2.out⟩
        · skip
          have q3 : (name.toList == ([] : List UInt8)) = false := (empty_beq name).trans (decide_eq_false h3)
          have hF : F = false := by rw [← HF.out]; simp [formR, H1.out, H3.out, H4.out, *]
          subst hF
          clear HF
          go_enter Tryz.func50, Tryz.ntmps50
          go_wp2_with fail
          refine wp_region_grow (by kernel_rfl) (by kernel_rfl) ?_
          repeat (go_big_quiet_step (first | (go_at_call 101; with_reducible exact calls_gr (valNameG H1.out _)) | (go_at_call 101; with_reducible exact calls_gr (valNameG H2.out _))))
          refine wpQuiet_nil ?_
          intro w2 hw2
          have HB2 := HB.out _ w2 hw2
          have hbl := blk_lt HB2
          have c1 : w2.cell? ⟨w.heap.size, 1, none⟩ = some (.int .i64 3) := by rw [blk_cell HB2]; rfl
          have c3 : w2.cell? ⟨w.heap.size, 3, none⟩ = some (.string name) := by rw [blk_cell HB2]; rfl
          have c4 : w2.cell? ⟨w.heap.size, 4, none⟩ = some (.string from_) := by rw [blk_cell HB2]; rfl
          have c5 : w2.cell? ⟨w.heap.size, 5, none⟩ = some (.string to_) := by rw [blk_cell HB2]; rfl
          have c6 : w2.cell? ⟨w.heap.size, 6, none⟩ = some (.int .i64 n) := by rw [blk_cell HB2]; rfl
          have HG2 := Lib.hid ((HW.out _).step hw2)
          clear HB2 hw2
          go_wp2_with (go_at_call 101; (first | (with_reducible refine (valNameB H1.out _).mono ?_) | (with_reducible refine (valNameB H2.out _).mono ?_) | (with_reducible refine (valNameB H3.out _).mono ?_) | (with_reducible refine (valNameB H4.out _).mono ?_)); rintro e w3 ⟨rfl, rfl⟩)
          go_ret
          exact ⟨rfl, HG2.out⟩
set_option maxRecDepth 100000 in
set_option maxHeartbeats 2000000 in
theorem ruleForm4 (id : Int) (typ name from_ to_ : ByteArray) (n state : Int) (w : World) : Calls Tryz.prog 50 #[(PRule.mk id 4 typ name from_ to_ n state).args] w fun e w' => e = .returned (.bool (formR ⟨id, 4, typ, name, from_, to_, n, state⟩)) ∧ Grow w w' := by
  have HW := Lib.hid (show ∀ o1, Grow w (w.alloc o1) from fun o1 => (Grow.rfl' w).allocd o1)
  have HB := Lib.hid (show ∀ o1 w', Grow (w.alloc o1) w' → w'.heap[w.heap.size]? = some o1 from fun o1 w' hg => by rw [hg.heapEq (by simp)]; exact heap_alloc_new w _)
  generalize hF : formR _ = F
  have HF := Lib.hid hF; clear hF
  obtain ⟨b1, hb1⟩ : ∃ b, decide (NameOk typ) = b := ⟨_, rfl⟩
  obtain ⟨b2, hb2⟩ : ∃ b, decide (NameOk name) = b := ⟨_, rfl⟩
  obtain ⟨b3, hb3⟩ : ∃ b, decide (NameOk from_) = b := ⟨_, rfl⟩
  obtain ⟨b4, hb4⟩ : ∃ b, decide (NameOk to_) = b := ⟨_, rfl⟩
  have H1 := Lib.hid hb1; have H2 := Lib.hid hb2; have H3 := Lib.hid hb3; have H4 := Lib.hid hb4
  clear hb1 hb2 hb3 hb4
  have HK := Lib.hid True.intro
  cases b1
  · skip
    have hF : F = false := by rw [← HF.out]; simp [formR, H1.out, *]
    subst hF
    clear HF
    go_enter Tryz.func50, Tryz.ntmps50
    go_wp2_with fail
    refine wp_region_grow (by kernel_rfl) (by kernel_rfl) ?_
    repeat (go_big_quiet_step (first | (go_at_call 101; with_reducible exact calls_gr (valNameG H1.out _)) | (go_at_call 101; with_reducible exact calls_gr (valNameG H2.out _))))
    refine wpQuiet_nil ?_
    intro w2 hw2
    have HB2 := HB.out _ w2 hw2
    have hbl := blk_lt HB2
    have c1 : w2.cell? ⟨w.heap.size, 1, none⟩ = some (.int .i64 4) := by rw [blk_cell HB2]; rfl
    have c3 : w2.cell? ⟨w.heap.size, 3, none⟩ = some (.string name) := by rw [blk_cell HB2]; rfl
    have c4 : w2.cell? ⟨w.heap.size, 4, none⟩ = some (.string from_) := by rw [blk_cell HB2]; rfl
    have c5 : w2.cell? ⟨w.heap.size, 5, none⟩ = some (.string to_) := by rw [blk_cell HB2]; rfl
    have c6 : w2.cell? ⟨w.heap.size, 6, none⟩ = some (.int .i64 n) := by rw [blk_cell HB2]; rfl
    have HG2 := Lib.hid ((HW.out _).step hw2)
    clear HB2 hw2
    go_wp2_with (go_at_call 101; (first | (with_reducible refine (valNameB H1.out _).mono ?_) | (with_reducible refine (valNameB H2.out _).mono ?_) | (with_reducible refine (valNameB H3.out _).mono ?_) | (with_reducible refine (valNameB H4.out _).mono ?_)); rintro e w3 ⟨rfl, rfl⟩)
    go_ret
    exact ⟨rfl, HG2.out⟩
  · skip
    by_cases h1 : name = ByteArray.empty
    · skip
      subst h1
      by_cases h2 : from_ = ByteArray.empty
      · skip
        subst h2
        by_cases h3 : to_ = ByteArray.empty
        · skip
          subst h3
          by_cases h4 : 0 ≤ n
          · skip
            have q4 : decide (0 ≤ n) = true := by simpa using h4
            by_cases h5 : n ≤ 1024
            · skip
              have q5 : decide (n ≤ 1024) = true := by simpa using h5
              have hF : F = true := by rw [← HF.out]; simp [formR, H1.out, *]
              subst hF
              clear HF
              go_enter Tryz.func50, Tryz.ntmps50
              go_wp2_with fail
              refine wp_region_grow (by kernel_rfl) (by kernel_rfl) ?_
              repeat (go_big_quiet_step (first | (go_at_call 101; with_reducible exact calls_gr (valNameG H1.out _)) | (go_at_call 101; with_reducible exact calls_gr (valNameG H2.out _))))
              refine wpQuiet_nil ?_
              intro w2 hw2
              have HB2 := HB.out _ w2 hw2
              have hbl := blk_lt HB2
              have c1 : w2.cell? ⟨w.heap.size, 1, none⟩ = some (.int .i64 4) := by rw [blk_cell HB2]; rfl
              have c3 : w2.cell? ⟨w.heap.size, 3, none⟩ = some (.string ByteArray.empty) := by rw [blk_cell HB2]; rfl
              have c4 : w2.cell? ⟨w.heap.size, 4, none⟩ = some (.string ByteArray.empty) := by rw [blk_cell HB2]; rfl
              have c5 : w2.cell? ⟨w.heap.size, 5, none⟩ = some (.string ByteArray.empty) := by rw [blk_cell HB2]; rfl
              have c6 : w2.cell? ⟨w.heap.size, 6, none⟩ = some (.int .i64 n) := by rw [blk_cell HB2]; rfl
              have HG2 := Lib.hid ((HW.out _).step hw2)
              clear HB2 hw2
              go_wp2_with (go_at_call 101; (first | (with_reducible refine (valNameB H1.out _).mono ?_) | (with_reducible refine (valNameB H2.out _).mono ?_) | (with_reducible refine (valNameB H3.out _).mono ?_) | (with_reducible refine (valNameB H4.out _).mono ?_)); rintro e w3 ⟨rfl, rfl⟩)
              go_ret
              exact ⟨rfl, HG2.out⟩
            · skip
              have q5 : decide (n ≤ 1024) = false := by simpa using h5
              have hF : F = false := by rw [← HF.out]; simp [formR, H1.out, *]
              subst hF
              clear HF
              go_enter Tryz.func50, Tryz.ntmps50
              go_wp2_with fail
              refine wp_region_grow (by kernel_rfl) (by kernel_rfl) ?_
              repeat (go_big_quiet_step (first | (go_at_call 101; with_reducible exact calls_gr (valNameG H1.out _)) | (go_at_call 101; with_reducible exact calls_gr (valNameG H2.out _))))
              refine wpQuiet_nil ?_
              intro w2 hw2
              have HB2 := HB.out _ w2 hw2
              have hbl := blk_lt HB2
              have c1 : w2.cell? ⟨w.heap.size, 1, none⟩ = some (.int .i64 4) := by rw [blk_cell HB2]; rfl
              have c3 : w2.cell? ⟨w.heap.size, 3, none⟩ = some (.string ByteArray.empty) := by rw [blk_cell HB2]; rfl
              have c4 : w2.cell? ⟨w.heap.size, 4, none⟩ = some (.string ByteArray.empty) := by rw [blk_cell HB2]; rfl
              have c5 : w2.cell? ⟨w.heap.size, 5, none⟩ = some (.string ByteArray.empty) := by rw [blk_cell HB2]; rfl
              have c6 : w2.cell? ⟨w.heap.size, 6, none⟩ = some (.int .i64 n) := by rw [blk_cell HB2]; rfl
              have HG2 := Lib.hid ((HW.out _).step hw2)
              clear HB2 hw2
              go_wp2_with (go_at_call 101; (first | (with_reducible refine (valNameB H1.out _).mono ?_) | (with_reducible refine (valNameB H2.out _).mono ?_) | (with_reducible refine (valNameB H3.out _).mono ?_) | (with_reducible refine (valNameB H4.out _).mono ?_)); rintro e w3 ⟨rfl, rfl⟩)
              go_ret
              exact ⟨rfl, HG2.out⟩
          · skip
            have q4 : decide (0 ≤ n) = false := by simpa using h4
            have hF : F = false := by rw [← HF.out]; simp [formR, H1.out, *]
            subst hF
            clear HF
            go_enter Tryz.func50, Tryz.ntmps50
            go_wp2_with fail
            refine wp_region_grow (by kernel_rfl) (by kernel_rfl) ?_
            repeat (go_big_quiet_step (first | (go_at_call 101; with_reducible exact calls_gr (valNameG H1.out _)) | (go_at_call 101; with_reducible exact calls_gr (valNameG H2.out _))))
            refine wpQuiet_nil ?_
            intro w2 hw2
            have HB2 := HB.out _ w2 hw2
            have hbl := blk_lt HB2
            have c1 : w2.cell? ⟨w.heap.size, 1, none⟩ = some (.int .i64 4) := by rw [blk_cell HB2]; rfl
            have c3 : w2.cell? ⟨w.heap.size, 3, none⟩ = some (.string ByteArray.empty) := by rw [blk_cell HB2]; rfl
            have c4 : w2.cell? ⟨w.heap.size, 4, none⟩ = some (.string ByteArray.empty) := by rw [blk_cell HB2]; rfl
            have c5 : w2.cell? ⟨w.heap.size, 5, none⟩ = some (.string ByteArray.empty) := by rw [blk_cell HB2]; rfl
            have c6 : w2.cell? ⟨w.heap.size, 6, none⟩ = some (.int .i64 n) := by rw [blk_cell HB2]; rfl
            have HG2 := Lib.hid ((HW.out _).step hw2)
            clear HB2 hw2
            go_wp2_with (go_at_call 101; (first | (with_reducible refine (valNameB H1.out _).mono ?_) | (with_reducible refine (valNameB H2.out _).mono ?_) | (with_reducible refine (valNameB H3.out _).mono ?_) | (with_reducible refine (valNameB H4.out _).mono ?_)); rintro e w3 ⟨rfl, rfl⟩)
            go_ret
            exact ⟨rfl, HG2.out⟩
        · skip
          have q3 : (to_.toList == ([] : List UInt8)) = false := (empty_beq to_).trans (decide_eq_false h3)
          have hF : F = false := by rw [← HF.out]; simp [formR, H1.out, *]
          subst hF
          clear HF
          go_enter Tryz.func50, Tryz.ntmps50
          go_wp2_with fail
          refine wp_region_grow (by kernel_rfl) (by kernel_rfl) ?_
          repeat (go_big_quiet_step (first | (go_at_call 101; with_reducible exact calls_gr (valNameG H1.out _)) | (go_at_call 101; with_reducible exact calls_gr (valNameG H2.out _))))
          refine wpQuiet_nil ?_
          intro w2 hw2
          have HB2 := HB.out _ w2 hw2
          have hbl := blk_lt HB2
          have c1 : w2.cell? ⟨w.heap.size, 1, none⟩ = some (.int .i64 4) := by rw [blk_cell HB2]; rfl
          have c3 : w2.cell? ⟨w.heap.size, 3, none⟩ = some (.string ByteArray.empty) := by rw [blk_cell HB2]; rfl
          have c4 : w2.cell? ⟨w.heap.size, 4, none⟩ = some (.string ByteArray.empty) := by rw [blk_cell HB2]; rfl
          have c5 : w2.cell? ⟨w.heap.size, 5, none⟩ = some (.string to_) := by rw [blk_cell HB2]; rfl
          have c6 : w2.cell? ⟨w.heap.size, 6, none⟩ = some (.int .i64 n) := by rw [blk_cell HB2]; rfl
          have HG2 := Lib.hid ((HW.out _).step hw2)
          clear HB2 hw2
          go_wp2_with (go_at_call 101; (first | (with_reducible refine (valNameB H1.out _).mono ?_) | (with_reducible refine (valNameB H2.out _).mono ?_) | (with_reducible refine (valNameB H3.out _).mono ?_) | (with_reducible refine (valNameB H4.out _).mono ?_)); rintro e w3 ⟨rfl, rfl⟩)
          go_ret
          exact ⟨rfl, HG2.out⟩
      · skip
        have q2 : (from_.toList == ([] : List UInt8)) = false := (empty_beq from_).trans (decide_eq_false h2)
        have hF : F = false := by rw [← HF.out]; simp [formR, H1.out, *]
        subst hF
        clear HF
        go_enter Tryz.func50, Tryz.ntmps50
        go_wp2_with fail
        refine wp_region_grow (by kernel_rfl) (by kernel_rfl) ?_
        repeat (go_big_quiet_step (first | (go_at_call 101; with_reducible exact calls_gr (valNameG H1.out _)) | (go_at_call 101; with_reducible exact calls_gr (valNameG H2.out _))))
        refine wpQuiet_nil ?_
        intro w2 hw2
        have HB2 := HB.out _ w2 hw2
        have hbl := blk_lt HB2
        have c1 : w2.cell? ⟨w.heap.size, 1, none⟩ = some (.int .i64 4) := by rw [blk_cell HB2]; rfl
        have c3 : w2.cell? ⟨w.heap.size, 3, none⟩ = some (.string ByteArray.empty) := by rw [blk_cell HB2]; rfl
        have c4 : w2.cell? ⟨w.heap.size, 4, none⟩ = some (.string from_) := by rw [blk_cell HB2]; rfl
        have c5 : w2.cell? ⟨w.heap.size, 5, none⟩ = some (.string to_) := by rw [blk_cell HB2]; rfl
        have c6 : w2.cell? ⟨w.heap.size, 6, none⟩ = some (.int .i64 n) := by rw [blk_cell HB2]; rfl
        have HG2 := Lib.hid ((HW.out _).step hw2)
        clear HB2 hw2
        go_wp2_with (go_at_call 101; (first | (with_reducible refine (valNameB H1.out _).mono ?_) | (with_reducible refine (valNameB H2.out _).mono ?_) | (with_reducible refine (valNameB H3.out _).mono ?_) | (with_reducible refine (valNameB H4.out _).mono ?_)); rintro e w3 ⟨rfl, rfl⟩)
        go_ret
        exact ⟨rfl, HG2.out⟩
    · skip
      have q1 : (name.toList == ([] : List UInt8)) = false := (empty_beq name).trans (decide_eq_false h1)
      have hF : F = false := by rw [← HF.out]; simp [formR, H1.out, *]
      subst hF
      clear HF
      go_enter Tryz.func50, Tryz.ntmps50
      go_wp2_with fail
      refine wp_region_grow (by kernel_rfl) (by kernel_rfl) ?_
      repeat (go_big_quiet_step (first | (go_at_call 101; with_reducible exact calls_gr (valNameG H1.out _)) | (go_at_call 101; with_reducible exact calls_gr (valNameG H2.out _))))
      refine wpQuiet_nil ?_
      intro w2 hw2
      have HB2 := HB.out _ w2 hw2
      have hbl := blk_lt HB2
      have c1 : w2.cell? ⟨w.heap.size, 1, none⟩ = some (.int .i64 4) := by rw [blk_cell HB2]; rfl
      have c3 : w2.cell? ⟨w.heap.size, 3, none⟩ = some (.string name) := by rw [blk_cell HB2]; rfl
      have c4 : w2.cell? ⟨w.heap.size, 4, none⟩ = some (.string from_) := by rw [blk_cell HB2]; rfl
      have c5 : w2.cell? ⟨w.heap.size, 5, none⟩ = some (.string to_) := by rw [blk_cell HB2]; rfl
      have c6 : w2.cell? ⟨w.heap.size, 6, none⟩ = some (.int .i64 n) := by rw [blk_cell HB2]; rfl
      have HG2 := Lib.hid ((HW.out _).step hw2)
      clear HB2 hw2
      go_wp2_with (go_at_call 101; (first | (with_reducible refine (valNameB H1.out _).mono ?_) | (with_reducible refine (valNameB H2.out _).mono ?_) | (with_reducible refine (valNameB H3.out _).mono ?_) | (with_reducible refine (valNameB H4.out _).mono ?_)); rintro e w3 ⟨rfl, rfl⟩)
      go_ret
      exact ⟨rfl, HG2.out⟩
set_option maxRecDepth 100000 in
set_option maxHeartbeats 2000000 in
theorem ruleForm0 (id kind : Int) (typ name from_ to_ : ByteArray) (n state : Int) (hk : kind ≠ 1 ∧ kind ≠ 2 ∧ kind ≠ 3 ∧ kind ≠ 4) (w : World) : Calls Tryz.prog 50 #[(PRule.mk id kind typ name from_ to_ n state).args] w fun e w' => e = .returned (.bool (formR ⟨id, kind, typ, name, from_, to_, n, state⟩)) ∧ Grow w w' := by
  have HW := Lib.hid (show ∀ o1, Grow w (w.alloc o1) from fun o1 => (Grow.rfl' w).allocd o1)
  have HB := Lib.hid (show ∀ o1 w', Grow (w.alloc o1) w' → w'.heap[w.heap.size]? = some o1 from fun o1 w' hg => by rw [hg.heapEq (by simp)]; exact heap_alloc_new w _)
  generalize hF : formR _ = F
  have HF := Lib.hid hF; clear hF
  obtain ⟨b1, hb1⟩ : ∃ b, decide (NameOk typ) = b := ⟨_, rfl⟩
  obtain ⟨b2, hb2⟩ : ∃ b, decide (NameOk name) = b := ⟨_, rfl⟩
  obtain ⟨b3, hb3⟩ : ∃ b, decide (NameOk from_) = b := ⟨_, rfl⟩
  obtain ⟨b4, hb4⟩ : ∃ b, decide (NameOk to_) = b := ⟨_, rfl⟩
  have H1 := Lib.hid hb1; have H2 := Lib.hid hb2; have H3 := Lib.hid hb3; have H4 := Lib.hid hb4
  clear hb1 hb2 hb3 hb4
  obtain ⟨k1, k2, k3, k4⟩ := hk
  have HK := Lib.hid (And.intro k1 (And.intro k2 (And.intro k3 k4)))
  have hF : F = false := by rw [← HF.out]; simp [formR, HK.out, *]
  subst hF
  clear HF
  go_enter Tryz.func50, Tryz.ntmps50
  go_wp2_with fail
  refine wp_region_grow (by kernel_rfl) (by kernel_rfl) ?_
  repeat (go_big_quiet_step (first | (go_at_call 101; with_reducible exact calls_gr (valNameG H1.out _)) | (go_at_call 101; with_reducible exact calls_gr (valNameG H2.out _))))
  refine wpQuiet_nil ?_
  intro w2 hw2
  have HB2 := HB.out _ w2 hw2
  have hbl := blk_lt HB2
  have c1 : w2.cell? ⟨w.heap.size, 1, none⟩ = some (.int .i64 kind) := by rw [blk_cell HB2]; rfl
  have c3 : w2.cell? ⟨w.heap.size, 3, none⟩ = some (.string name) := by rw [blk_cell HB2]; rfl
  have c4 : w2.cell? ⟨w.heap.size, 4, none⟩ = some (.string from_) := by rw [blk_cell HB2]; rfl
  have c5 : w2.cell? ⟨w.heap.size, 5, none⟩ = some (.string to_) := by rw [blk_cell HB2]; rfl
  have c6 : w2.cell? ⟨w.heap.size, 6, none⟩ = some (.int .i64 n) := by rw [blk_cell HB2]; rfl
  have HG2 := Lib.hid ((HW.out _).step hw2)
  clear HB2 hw2
  go_wp2_with (go_at_call 101; (first | (with_reducible refine (valNameB H1.out _).mono ?_) | (with_reducible refine (valNameB H2.out _).mono ?_) | (with_reducible refine (valNameB H3.out _).mono ?_) | (with_reducible refine (valNameB H4.out _).mono ?_)); rintro e w3 ⟨rfl, rfl⟩)
  go_ret
  exact ⟨rfl, HG2.out⟩
theorem ruleForm (r : PRule) (w : World) : Calls Tryz.prog 50 #[r.args] w fun e w' => e = .returned (.bool (formR r)) ∧ Grow w w' := by
  obtain ⟨id, kind, typ, name, from_, to_, n, state⟩ := r
  by_cases k1 : kind = 1
  · subst k1; exact ruleForm1 id typ name from_ to_ n state w
  by_cases k2 : kind = 2
  · subst k2; exact ruleForm2 id typ name from_ to_ n state w
  by_cases k3 : kind = 3
  · subst k3; exact ruleForm3 id typ name from_ to_ n state w
  by_cases k4 : kind = 4
  · subst k4; exact ruleForm4 id typ name from_ to_ n state w
  exact ruleForm0 id kind typ name from_ to_ n state ⟨k1, k2, k3, k4⟩ w

end Go.Hg

namespace Go.Hg
open Go.RowKit Go.Proofs

set_option maxRecDepth 100000 in
set_option maxHeartbeats 2000000 in
theorem valGet (S : Nat → Prop) (v : Value) (ps : List PProp) (name : ByteArray) (w : World) (h : PropsR S w v ps) :
    Calls Tryz.prog 52 #[v, .string name] w fun e w' => e = .returned (.tuple #[(getV ps name).args, .bool (getP ps name).isSome]) ∧ Grow w w' := by
  obtain ⟨aa, ca, rfl, hal, hac, hA⟩ := SlR.open h
  clear h
  unfold maxLen at hac
  have HA := Lib.hid hA; clear hA
  have HNB := Lib.hid (show ∀ o1, (w.alloc o1).heap[w.heap.size]? = some o1 from fun o1 => heap_alloc_new w _)
  have HW := Lib.hid (show ∀ o1, Grow w (w.alloc o1) from fun o1 => (Grow.rfl' w).allocd o1)
  go_enter Tryz.func52, Tryz.ntmps52
  go_wp2
  go_loopg [10] ps.length (fun g i wr => ∃ k : Nat, k ≤ ps.length ∧ g = ps.length - k ∧ i = .int .i64 k ∧ (∀ y ∈ ps.take k, y.name ≠ name) ∧ Grow w wr ∧ wr.heap[w.heap.size]? = some (.cells #[.int .i64 0, .int .i64 0, .string ByteArray.empty] 42 (0, 0)))
  case atStart => exact ⟨0, by omega, by omega, rfl, by simp, HW.out _, HNB.out _⟩
  case round =>
    obtain ⟨k, hk, rfl, rfl, hall, hgr, hnb⟩ := hrel
    have hnl := blk_lt hnb
    have HALL := Lib.hid hall; have HG := Lib.hid hgr; have HB := Lib.hid hnb
    have z0 : wr.cell? ⟨w.heap.size, 0, none⟩ = some (.int .i64 0) := by rw [blk_cell hnb]; rfl
    have zf0 := blk_free hnb 0
    have z1 : wr.cell? ⟨w.heap.size, 1, none⟩ = some (.int .i64 0) := by rw [blk_cell hnb]; rfl
    have zf1 := blk_free hnb 1
    have z2 : wr.cell? ⟨w.heap.size, 2, none⟩ = some (.string ByteArray.empty) := by rw [blk_cell hnb]; rfl
    have zf2 := blk_free hnb 2
    clear hall hnb
    by_cases hkl : k < ps.length
    · obtain ⟨ba, oa, ra, rfl, hSa, hba, hRa, hca⟩ := HA.out k ps[k] (List.getElem?_eq_getElem hkl)
      obtain ⟨hba', a0, a1, a2, a3⟩ := hRa.at hba hgr hca
      clear hca hRa hSa hba hgr
      have HE := Lib.hid (show ps[k]? = some ps[k] from List.getElem?_eq_getElem hkl)
      have HT := Lib.hid (show ps.take (k + 1) = ps.take k ++ [ps[k]] from List.take_succ_eq_append_getElem hkl)
      generalize ps[k] = x at *
      by_cases hx : x.name = name
      · have HF := Lib.hid (getP_take HE.out hx HALL.out)
        go_wp2
        refine bodyPost_ret (v := .tuple #[x.v.args, .bool true]) ?_ rfl ⟨by unfold getV; rw [HF.out]; rfl, ?_⟩
        · rw [results_cell_tmp rfl]
          go_simp
        · exact ((((HG.out).setd (p := ⟨w.heap.size, 0, none⟩) (Nat.le_refl _) _).setd (p := ⟨w.heap.size, 1, none⟩) (Nat.le_refl _) _).setd (p := ⟨w.heap.size, 2, none⟩) (Nat.le_refl _) _).allocd _
      · have HX := Lib.hid hx
        go_wp2
        go_roundg (ps.length - (k + 1))
        case measure => omega
        case rel =>
          refine ⟨k + 1, by omega, rfl, by go_num, ?_, HG.out.allocd _, ?_⟩
          · rw [HT.out]
            intro y hy
            rcases List.mem_append.1 hy with h | h
            · exact HALL.out y h
            · rw [List.mem_singleton] at h
              subst h
              exact HX.out
          · exact (((Grow.rfl' wr).allocd _).heapEq hnl).trans HB.out
    · have hkk : ps.take k = ps := List.take_of_length_le (by omega)
      rw [hkk] at HALL
      have HF := Lib.hid (getP_none HALL.out)
      clear hkk
      go_wp2
      refine bodyPost_ret (v := .tuple #[.agg #[.int .i64 0, .int .i64 0, .string ByteArray.empty], .bool false]) ?_ rfl ⟨by unfold getV; rw [HF.out]; rfl, ?_⟩
      · rw [results_cell_tmp rfl]
        go_simp
        rfl
      · exact (((HG.out).setd (p := ⟨w.heap.size, 0, none⟩) (Nat.le_refl _) _).setd (p := ⟨w.heap.size, 1, none⟩) (Nat.le_refl _) _).setd (p := ⟨w.heap.size, 2, none⟩) (Nat.le_refl _) _
set_option maxRecDepth 100000 in
set_option maxHeartbeats 2000000 in
theorem ruleTypeOf (S : Nat → Prop) (v : Value) (nodes : List PNode) (id : Int) (w : World) (h : NodesR S w v nodes) :
    Calls Tryz.prog 69 #[v, .int .i64 id] w fun e w' => e = .returned (.tuple #[.string ((typeN nodes id).getD ByteArray.empty), .bool (typeN nodes id).isSome]) ∧ Grow w w' := by
  obtain ⟨aa, ca, rfl, hal, hac, hA⟩ := SlR.open h
  clear h
  unfold maxLen at hac
  have HA := Lib.hid hA; clear hA
  go_enter Tryz.func69, Tryz.ntmps69
  go_wp2
  go_loopg [10] nodes.length (fun g i wr => ∃ k : Nat, k ≤ nodes.length ∧ g = nodes.length - k ∧ i = .int .i64 k ∧ (∀ y ∈ nodes.take k, y.id ≠ id) ∧ Grow w wr)
  case atStart => exact ⟨0, by omega, by omega, rfl, by simp, Grow.rfl' w⟩
  case round =>
    obtain ⟨k, hk, rfl, rfl, hall, hgr⟩ := hrel
    have HALL := Lib.hid hall; have HG := Lib.hid hgr
    clear hall
    by_cases hkl : k < nodes.length
    · obtain ⟨ba, oa, ra, rfl, hSa, hba, hRa, hca⟩ := HA.out k nodes[k] (List.getElem?_eq_getElem hkl)
      obtain ⟨pva, hba', a0, a1, a2, hpa⟩ := hRa.at hba hgr hca
      clear hca hRa hSa hba hgr
      have HE := Lib.hid (show nodes[k]? = some nodes[k] from List.getElem?_eq_getElem hkl)
      have HT := Lib.hid (show nodes.take (k + 1) = nodes.take k ++ [nodes[k]] from List.take_succ_eq_append_getElem hkl)
      generalize nodes[k] = x at *
      obtain ⟨_, _, rfl⟩ := hpa.isSlice
      clear hpa
      by_cases hx : x.id = id
      · have HF := Lib.hid (typeN_take HE.out hx HALL.out)
        go_wp2
        go_ret2
        exact ⟨by rw [HF.out]; rfl, HG.out.allocd _⟩
      · have HX := Lib.hid hx
        go_wp2
        go_roundg (nodes.length - (k + 1))
        case measure => omega
        case rel =>
          refine ⟨k + 1, by omega, rfl, by go_num, ?_, HG.out.allocd _⟩
          · rw [HT.out]
            intro y hy
            rcases List.mem_append.1 hy with h | h
            · exact HALL.out y h
            · rw [List.mem_singleton] at h
              subst h
              exact HX.out
    · have hkk : nodes.take k = nodes := List.take_of_length_le (by omega)
      rw [hkk] at HALL
      have HF := Lib.hid (typeN_none HALL.out)
      clear hkk
      go_wp2
      go_ret2
      exact ⟨by rw [HF.out]; rfl, HG.out⟩

end Go.Hg

namespace Go.Hg
open Go.RowKit Go.Proofs

abbrev ofV (rb : Nat) : Value := .func (.func 60) #[] #[.pointer (some ⟨rb, 0, none⟩)]

theorem entersOf : ∀ args w, (callFunc 60 args).run Tryz.prog w = .ok (.enter 60 args) w := fun args w => enterF Tryz.func60 (by kernel_rfl) rfl args w
theorem entersNo : ∀ args w, (callFunc 65 args).run Tryz.prog w = .ok (.enter 65 args) w := fun args w => enterF Tryz.func65 (by kernel_rfl) rfl args w
theorem entersEnd : ∀ args w, (callFunc 68 args).run Tryz.prog w = .ok (.enter 68 args) w := fun args w => enterF Tryz.func68 (by kernel_rfl) rfl args w

set_option maxHeartbeats 400000 in
theorem keepsOf {t : ByteArray} {rb : Nat} {r : PRule} {w : World} (h : RuleBox w rb r) {b : Bool} (hb : decide (t = r.typ) = b) :
    Calls Tryz.prog 60 #[.string t, .pointer (some ⟨rb, 0, none⟩)] w fun e w' => e = .returned (.bool b) ∧ w' = w := by
  obtain ⟨hl, c1, c2, c3, c4, c5, c6, c7, c0⟩ := h.cells
  clear h
  go_enter Tryz.func60, Tryz.ntmps60
  go_wp2
  go_ret
  exact ⟨rfl, rfl⟩

theorem app1 (a : Value) (l : List Value) : #[a] ++ l.toArray = (a :: l).toArray := by simp
def IdxA {α : Type} (l : List α) (p : α → Bool) (r : Int) : Prop :=
  (r = -1 ∧ ∀ x ∈ l, p x = false) ∨ ∃ (k : Nat) (x : α), r = k ∧ l[k]? = some x ∧ p x = true ∧ ∀ y ∈ l.take k, p y = false

set_option maxRecDepth 100000 in
set_option maxHeartbeats 1000000 in
theorem indexNodeA (S : Nat → Prop) (v : Value) (l : List PNode) (f : Nat) (caps : Array Value) (p : PNode → Bool) (w : World) (hl : NodesR S w v l) (hp : AsksN f caps p S w) :
    Calls Tryz.prog 110 #[v, .func (.func f) #[] caps] w fun e w' => ∃ r : Int, e = .returned (.int .i64 r) ∧ IdxA l p r ∧ Grow w w' := by
  obtain ⟨aa, ca, rfl, hal, hac, hA⟩ := SlR.open hl
  clear hl
  unfold maxLen at hac
  have HA := Lib.hid hA; clear hA
  have HP := Lib.hid hp.2; have hcf := hp.1; clear hp
  go_enter Tryz.func110, Tryz.ntmps110
  go_wp2
  go_loopg [8] l.length (fun g i wr => ∃ k : Nat, k ≤ l.length ∧ g = l.length - k ∧ i = .int .i64 k ∧ (∀ y ∈ l.take k, p y = false) ∧ Grow w wr)
  case atStart => exact ⟨0, by omega, by omega, rfl, by simp, Grow.rfl' w⟩
  case round =>
    obtain ⟨k, hk, rfl, rfl, hall, hgr⟩ := hrel
    have HALL := Lib.hid hall; clear hall
    by_cases hkl : k < l.length
    · obtain ⟨ba, oa, ra, rfl, hSa, hba, hRa, hca⟩ := HA.out k l[k] (List.getElem?_eq_getElem hkl)
      obtain ⟨pva, hba', a0, a1, a2, hpa⟩ := hRa.at hba hgr hca
      clear hca hRa hSa hba
      have HE := Lib.hid (show l[k]? = some l[k] from List.getElem?_eq_getElem hkl)
      have HT := Lib.hid (show l.take (k + 1) = l.take k ++ [l[k]] from List.take_succ_eq_append_getElem hkl)
      generalize l[k] = x at *
      have HPA := Lib.hid hpa
      obtain ⟨_, _, rfl⟩ := hpa.isSlice
      clear hpa
      cases hn : p x
      all_goals
        go_wp2_with fail
        refine (HP.out x _ _ hgr HPA.out).mono ?_
        rintro e w2 ⟨rfl, hw2⟩
        rw [hn]
        go_wp2
      · go_roundg (l.length - (k + 1))
        case measure => omega
        case rel => exact ⟨k + 1, by omega, rfl, by go_num, by rw [HT.out]; intro y hy; rcases List.mem_append.1 hy with h | h; exact HALL.out y h; simp at h; subst h; exact hn, hgr.step hw2⟩
      · go_ret
        exact ⟨_, rfl, .inr ⟨k, x, rfl, HE.out, hn, HALL.out⟩, hgr.step hw2⟩
    · have HX := Lib.hid (show l.take k = l from List.take_of_length_le (by omega))
      go_wp2
      go_ret
      exact ⟨_, rfl, .inl ⟨rfl, by rw [← HX.out]; exact HALL.out⟩, hgr⟩

set_option maxHeartbeats 400000 in
theorem containsNodeA (S : Nat → Prop) (v : Value) (l : List PNode) (f : Nat) (caps : Array Value) (p : PNode → Bool) (w : World) (hl : NodesR S w v l) (hp : AsksN f caps p S w) :
    Calls Tryz.prog 64 #[v, .func (.func f) #[] caps] w fun e w' => e = .returned (.bool (l.any p)) ∧ Grow w w' := by
  have HL := Lib.hid hl; have HP := Lib.hid hp
  obtain ⟨_, _, rfl, _⟩ := SlR.open hl
  clear hl hp
  go_enter Tryz.func64, Tryz.ntmps64
  go_wp2_with fail
  refine (indexNodeA S _ l f caps p _ HL.out HP.out).mono ?_
  rintro e w2 ⟨r, rfl, hr, hw2⟩
  rcases hr with ⟨rfl, hall⟩ | ⟨k, x, rfl, hx, hpx, hk⟩
  · have HA := Lib.hid (show l.any p = false from List.any_eq_false.2 (fun x hx => by rw [hall x hx]; simp))
    clear hall
    go_wp2
    go_ret
    exact ⟨by rw [HA.out]; rfl, hw2⟩
  · have HA := Lib.hid (show l.any p = true from List.any_eq_true.2 ⟨x, List.mem_of_getElem? hx, hpx⟩)
    clear hx hpx hk
    go_wp2
    go_ret
    exact ⟨by rw [HA.out]; simp, hw2⟩

set_option maxRecDepth 100000 in
set_option maxHeartbeats 1000000 in
theorem indexEdgeA (S : Nat → Prop) (v : Value) (l : List PEdge) (f : Nat) (caps : Array Value) (p : PEdge → Bool) (w : World) (hl : EdgesR S w v l) (hp : AsksF f caps p S w) :
    Calls Tryz.prog 111 #[v, .func (.func f) #[] caps] w fun e w' => ∃ r : Int, e = .returned (.int .i64 r) ∧ IdxA l p r ∧ Grow w w' := by
  obtain ⟨aa, ca, rfl, hal, hac, hA⟩ := SlR.open hl
  clear hl
  unfold maxLen at hac
  have HA := Lib.hid hA; clear hA
  have HP := Lib.hid hp.2; have hcf := hp.1; clear hp
  go_enter Tryz.func111, Tryz.ntmps111
  go_wp2
  go_loopg [8] l.length (fun g i wr => ∃ k : Nat, k ≤ l.length ∧ g = l.length - k ∧ i = .int .i64 k ∧ (∀ y ∈ l.take k, p y = false) ∧ Grow w wr)
  case atStart => exact ⟨0, by omega, by omega, rfl, by simp, Grow.rfl' w⟩
  case round =>
    obtain ⟨k, hk, rfl, rfl, hall, hgr⟩ := hrel
    have HALL := Lib.hid hall; clear hall
    by_cases hkl : k < l.length
    · obtain ⟨ba, oa, ra, rfl, hSa, hba, hRa, hca⟩ := HA.out k l[k] (List.getElem?_eq_getElem hkl)
      obtain ⟨pva, hba', a0, a1, a2, a3, a4, hpa⟩ := hRa.at hba hgr hca
      clear hca hRa hSa hba
      have HE := Lib.hid (show l[k]? = some l[k] from List.getElem?_eq_getElem hkl)
      have HT := Lib.hid (show l.take (k + 1) = l.take k ++ [l[k]] from List.take_succ_eq_append_getElem hkl)
      generalize l[k] = x at *
      have HPA := Lib.hid hpa
      obtain ⟨_, _, rfl⟩ := hpa.isSlice
      clear hpa
      cases hn : p x
      all_goals
        go_wp2_with fail
        refine (HP.out x _ _ hgr HPA.out).mono ?_
        rintro e w2 ⟨rfl, hw2⟩
        rw [hn]
        go_wp2
      · go_roundg (l.length - (k + 1))
        case measure => omega
        case rel => exact ⟨k + 1, by omega, rfl, by go_num, by rw [HT.out]; intro y hy; rcases List.mem_append.1 hy with h | h; exact HALL.out y h; simp at h; subst h; exact hn, hgr.step hw2⟩
      · go_ret
        exact ⟨_, rfl, .inr ⟨k, x, rfl, HE.out, hn, HALL.out⟩, hgr.step hw2⟩
    · have HX := Lib.hid (show l.take k = l from List.take_of_length_le (by omega))
      go_wp2
      go_ret
      exact ⟨_, rfl, .inl ⟨rfl, by rw [← HX.out]; exact HALL.out⟩, hgr⟩

set_option maxHeartbeats 400000 in
theorem containsEdgeA (S : Nat → Prop) (v : Value) (l : List PEdge) (f : Nat) (caps : Array Value) (p : PEdge → Bool) (w : World) (hl : EdgesR S w v l) (hp : AsksF f caps p S w) :
    Calls Tryz.prog 67 #[v, .func (.func f) #[] caps] w fun e w' => e = .returned (.bool (l.any p)) ∧ Grow w w' := by
  have HL := Lib.hid hl; have HP := Lib.hid hp
  obtain ⟨_, _, rfl, _⟩ := SlR.open hl
  clear hl hp
  go_enter Tryz.func67, Tryz.ntmps67
  go_wp2_with fail
  refine (indexEdgeA S _ l f caps p _ HL.out HP.out).mono ?_
  rintro e w2 ⟨r, rfl, hr, hw2⟩
  rcases hr with ⟨rfl, hall⟩ | ⟨k, x, rfl, hx, hpx, hk⟩
  · have HA := Lib.hid (show l.any p = false from List.any_eq_false.2 (fun x hx => by rw [hall x hx]; simp))
    clear hall
    go_wp2
    go_ret
    exact ⟨by rw [HA.out]; rfl, hw2⟩
  · have HA := Lib.hid (show l.any p = true from List.any_eq_true.2 ⟨x, List.mem_of_getElem? hx, hpx⟩)
    clear hx hpx hk
    go_wp2
    go_ret
    exact ⟨by rw [HA.out]; simp, hw2⟩

set_option maxRecDepth 100000 in
set_option maxHeartbeats 1000000 in
/-- the node lacks the property -/
theorem keepsNo (x : PNode) (pv : Value) (rb fb : Nat) (r : PRule) (w : World) (S : Nat → Prop) (hp : PropsR S w pv x.props) (hr : RuleBox w rb r) (hf : OneBox w fb (ofV rb)) :
    Calls Tryz.prog 65 #[.agg #[.int .i64 x.id, .string x.typ, pv], .pointer (some ⟨rb, 0, none⟩), .pointer (some ⟨fb, 0, none⟩)] w fun e w' => e = .returned (.bool (lacksR r x)) ∧ Grow w w' := by
  have HP := Lib.hid hp; have HR := Lib.hid hr; have HF := Lib.hid hf
  obtain ⟨_, _, rfl⟩ := hp.isSlice
  have HG := Lib.hid (show ∀ o1, Grow w (w.alloc o1) from fun o1 => (Grow.rfl' w).allocd o1)
  have HNB := Lib.hid (show ∀ o1 w', Grow (w.alloc o1) w' → w'.heap[w.heap.size]? = some o1 from fun o1 w' hg => by rw [hg.heapEq (by simp)]; exact heap_alloc_new w _)
  obtain ⟨hrl, c1, c2, c3, c4, c5, c6, c7, c0⟩ := hr.cells
  obtain ⟨hfl, d0⟩ := hf.cell
  have entersOf := entersOf
  obtain ⟨bt, hbt⟩ : ∃ b, decide (x.typ = r.typ) = b := ⟨_, rfl⟩
  have HBT := Lib.hid hbt
  obtain ⟨bo, hbo⟩ : ∃ b, (getP x.props r.name).isSome = b := ⟨_, rfl⟩
  have HBO := Lib.hid hbo
  have HX := Lib.hid (show lacksR r x = (bt && !bo) by unfold lacksR; rw [hbt, ← hbo]; cases getP x.props r.name <;> rfl)
  clear hp hr hf c1 c2 c4 c5 c6 c7 c0 hbt hbo
  go_enter Tryz.func65, Tryz.ntmps65
  go_wp2_with fail
  refine (valGet S _ x.props r.name _ (HP.out.grow (HG.out _))).mono ?_
  rintro e w2 ⟨rfl, hw2⟩
  have HG2 := Lib.hid ((HG.out _).step hw2)
  have HG3 := Lib.hid (show ∀ o1, Grow w (w2.alloc o1) from fun o1 => HG2.out.allocd o1)
  have hnb := HNB.out _ w2 hw2
  have hnl := blk_lt hnb
  have n1 : w2.cell? ⟨w.heap.size, 1, none⟩ = some (.string x.typ) := by rw [blk_cell hnb]; rfl
  obtain ⟨hfl2, d2⟩ := (HF.out.grow HG2.out).cell
  clear hnb hw2
  rw [HBO.out]
  cases bo <;> cases bt
  all_goals
    go_wp2_with fail
    refine (keepsOf (HR.out.grow (HG3.out _)) HBT.out).mono ?_
    rintro e w3 ⟨rfl, rfl⟩
    go_wp2
    go_ret
    exact ⟨by rw [HX.out]; rfl, HG3.out _⟩

set_option maxRecDepth 100000 in
set_option maxHeartbeats 1000000 in
/-- rule 'exists' -/
theorem keepsExists (nodes : List PNode) (nv : Value) (nb rb fb : Nat) (r : PRule) (w : World) (S : Nat → Prop) (hn : NodesR S w nv nodes) (hnb : OneBox w nb nv) (hr : RuleBox w rb r) (hf : OneBox w fb (ofV rb)) :
    Calls Tryz.prog 63 #[.pointer (some ⟨nb, 0, none⟩), .pointer (some ⟨rb, 0, none⟩), .pointer (some ⟨fb, 0, none⟩)] w fun e w' => e = .returned (.bool (!nodes.any (lacksR r))) ∧ Grow w w' := by
  have HN := Lib.hid hn; have HR := Lib.hid hr; have HF := Lib.hid hf
  obtain ⟨hnl, d0⟩ := hnb.cell
  obtain ⟨_, _, rfl, _⟩ := SlR.open hn
  clear hn hr hf hnb
  go_enter Tryz.func63, Tryz.ntmps63
  go_wp2_with fail
  refine (containsNodeA S _ nodes 65 #[.pointer (some ⟨rb, 0, none⟩), .pointer (some ⟨fb, 0, none⟩)] (lacksR r) _ HN.out ⟨entersNo, fun x pv w' hg hp => by rw [app1]; exact keepsNo x pv rb fb r w' S hp (HR.out.grow hg) (HF.out.grow hg)⟩).mono ?_
  rintro e w2 ⟨rfl, hw2⟩
  obtain ⟨b, hb⟩ : ∃ b, nodes.any (lacksR r) = b := ⟨_, rfl⟩
  have HX := Lib.hid hb
  rw [hb]
  clear hb
  go_wp2
  go_ret
  exact ⟨by rw [HX.out]; rfl, hw2⟩

set_option maxRecDepth 100000 in
set_option maxHeartbeats 1000000 in
/-- the edge's ends are wrong -/
theorem keepsEnd (x : PEdge) (pv : Value) (nodes : List PNode) (nv : Value) (nb rb fb : Nat) (r : PRule) (w : World) (S : Nat → Prop) (hp : PropsR S w pv x.props) (hn : NodesR S w nv nodes) (hnb : OneBox w nb nv) (hr : RuleBox w rb r) (hf : OneBox w fb (ofV rb)) :
    Calls Tryz.prog 68 #[x.args pv, .pointer (some ⟨nb, 0, none⟩), .pointer (some ⟨fb, 0, none⟩), .pointer (some ⟨rb, 0, none⟩)] w fun e w' => e = .returned (.bool (wrongR nodes r x)) ∧ Grow w w' := by
  have HN := Lib.hid hn; have HR := Lib.hid hr; have HF := Lib.hid hf; have HNV := Lib.hid hnb
  obtain ⟨_, _, rfl⟩ := hp.isSlice
  obtain ⟨_, _, rfl, _⟩ := SlR.open hn
  have HG := Lib.hid (show ∀ o1, Grow w (w.alloc o1) from fun o1 => (Grow.rfl' w).allocd o1)
  have HNB := Lib.hid (show ∀ o1 w', Grow (w.alloc o1) w' → w'.heap[w.heap.size]? = some o1 from fun o1 w' hg => by rw [hg.heapEq (by simp)]; exact heap_alloc_new w _)
  obtain ⟨hnl, d0⟩ := hnb.cell
  have entersOf := entersOf
  clear hp hn hr hf hnb
  go_enter Tryz.func68, Tryz.ntmps68
  go_wp2_with fail
  refine (ruleTypeOf S _ nodes x.from_ _ (HN.out.grow (HG.out _))).mono ?_
  rintro e w2 ⟨rfl, hw2⟩
  have HG2 := Lib.hid ((HG.out _).step hw2)
  have HX2 := Lib.hid (HNB.out _ w2 hw2)
  have hnb2 := HX2.out
  have hnl2 := blk_lt hnb2
  have m3 : w2.cell? ⟨w.heap.size, 3, none⟩ = some (.int .i64 x.to_) := by rw [blk_cell hnb2]; rfl
  obtain ⟨hnl3, d2⟩ := (HNV.out.grow HG2.out).cell
  clear hnb2 hw2 d0 hnl
  obtain ⟨ta, hta⟩ : ∃ t, typeN nodes x.from_ = t := ⟨_, rfl⟩
  have HTA := Lib.hid hta
  rw [hta]
  clear hta
  go_wp2_with fail
  refine (ruleTypeOf S _ nodes x.to_ _ (HN.out.grow HG2.out)).mono ?_
  rintro e w3 ⟨rfl, hw3⟩
  have HG3 := Lib.hid (HG2.out.step hw3)
  have hnb3 := (hw3.heapEq hnl2).trans HX2.out
  have hnl4 := blk_lt hnb3
  have m1 : w3.cell? ⟨w.heap.size, 1, none⟩ = some (.string x.typ) := by rw [blk_cell hnb3]; rfl
  obtain ⟨hfl3, f3⟩ := (HF.out.grow HG3.out).cell
  obtain ⟨hrl, c1, c2, c3, c4, c5, c6, c7, c0⟩ := (HR.out.grow HG3.out).cells
  obtain ⟨tb, htb⟩ : ∃ t, typeN nodes x.to_ = t := ⟨_, rfl⟩
  have HTB := Lib.hid htb
  rw [htb]
  clear htb hnb3 hw3 c1 c2 c3 c6 c7 c0
  obtain ⟨bt, hbt⟩ : ∃ b, decide (x.typ = r.typ) = b := ⟨_, rfl⟩
  have HBT := Lib.hid hbt
  clear hbt
  go_wp2_with fail
  refine (keepsOf (HR.out.grow HG3.out) HBT.out).mono ?_
  rintro e w4 ⟨rfl, rfl⟩
  have HX := Lib.hid (show wrongR nodes r x = (bt && !(decide (ta = some r.from_) && decide (tb = some r.to_))) by unfold wrongR isT; rw [HBT.out, HTA.out, HTB.out])
  cases bt
  · go_wp2
    go_ret
    exact ⟨by rw [HX.out]; rfl, HG3.out⟩
  · cases ta with
    | none =>
      have HX2 := Lib.hid (show wrongR nodes r x = true by rw [HX.out]; simp)
      cases tb
      all_goals
        simp only [Option.isSome, Option.getD] at *
        go_wp2
        go_ret
        exact ⟨by rw [HX2.out]; rfl, HG3.out⟩
    | some ta =>
      simp only [Option.isSome, Option.getD] at *
      cases tb with
      | none =>
        simp only
        go_wp2
        go_ret
        exact ⟨by rw [HX.out]; simp, HG3.out⟩
      | some tb =>
        simp only at *
        by_cases ha : ta = r.from_
        · by_cases hb : tb = r.to_
          · have HX2 := Lib.hid (show wrongR nodes r x = false by rw [HX.out, ha, hb]; simp)
            go_wp2
            go_ret
            exact ⟨by rw [HX2.out]; simp [hb], HG3.out⟩
          · have HX2 := Lib.hid (show wrongR nodes r x = true by rw [HX.out]; simp [hb])
            go_wp2
            go_ret
            exact ⟨by rw [HX2.out]; simp, HG3.out⟩
        · have HX2 := Lib.hid (show wrongR nodes r x = true by rw [HX.out]; simp [ha])
          go_wp2
          go_ret
          exact ⟨by rw [HX2.out]; rfl, HG3.out⟩

set_option maxRecDepth 100000 in
set_option maxHeartbeats 1000000 in
/-- rule 'ends' -/
theorem keepsEnds (nodes : List PNode) (edges : List PEdge) (nv ev : Value) (eb nb rb fb : Nat) (r : PRule) (w : World) (S : Nat → Prop) (hn : NodesR S w nv nodes) (he : EdgesR S w ev edges) (hnb : OneBox w nb nv) (heb : OneBox w eb ev) (hr : RuleBox w rb r) (hf : OneBox w fb (ofV rb)) :
    Calls Tryz.prog 66 #[.pointer (some ⟨eb, 0, none⟩), .pointer (some ⟨nb, 0, none⟩), .pointer (some ⟨fb, 0, none⟩), .pointer (some ⟨rb, 0, none⟩)] w fun e w' => e = .returned (.bool (!edges.any (wrongR nodes r))) ∧ Grow w w' := by
  have HN := Lib.hid hn; have HE := Lib.hid he; have HR := Lib.hid hr; have HF := Lib.hid hf; have HNB := Lib.hid hnb
  obtain ⟨hnl, d0⟩ := heb.cell
  obtain ⟨_, _, rfl, _⟩ := SlR.open he
  clear hn he hr hf hnb heb
  go_enter Tryz.func66, Tryz.ntmps66
  go_wp2_with fail
  refine (containsEdgeA S _ edges 68 #[.pointer (some ⟨nb, 0, none⟩), .pointer (some ⟨fb, 0, none⟩), .pointer (some ⟨rb, 0, none⟩)] (wrongR nodes r) _ HE.out ⟨entersEnd, fun x pv w' hg hp => by rw [app1]; exact keepsEnd x pv nodes nv nb rb fb r w' S hp (HN.out.grow hg) (HNB.out.grow hg) (HR.out.grow hg) (HF.out.grow hg)⟩).mono ?_
  rintro e w2 ⟨rfl, hw2⟩
  obtain ⟨b, hb⟩ : ∃ b, edges.any (wrongR nodes r) = b := ⟨_, rfl⟩
  have HX := Lib.hid hb
  rw [hb]
  clear hb
  go_wp2
  go_ret
  exact ⟨by rw [HX.out]; rfl, hw2⟩
end Go.Hg

namespace Go.Hg
open MapKept

section
variable {κ : Type} {kv : κ → Value}

theorem MapK.toI {w : World} {b n : Nat} {f : Int → Option Value} (h : MapK (fun k : Int => .int .i64 k) w b f n) : MapI w b f n := h
section
variable {P : Program} {w : World} {b n : Nat} {f : κ → Option Value} {t kt et : TypeId}
end

section
variable {P : Program} {w : World} {b n : Nat} {f : κ → Option Value} {t kt et : TypeId} {ops : Array Oper} {rest : List Oper} {o : Oper} {a : Act} {Q : Exit → Act → World → Prop}
end
end
end Go.Hg

namespace Go.Hg
open MapKept Go.Maps Go.WideElems Go.WideShapes

def inI64 (x : Int) : Prop := (Lit.int .i64 x).wf = true
def Counts (f : Int → Option Value) : Prop := ∀ x v, f x = some v → inI64 x ∧ ∃ c, v = .int .i64 c ∧ inI64 c
def HoldsI (D : DataW Unit) (f : Int → Option Value) : Prop := (∀ x c, f x = some (.int .i64 c) → Maps.has D (.int .i64 x) = true ∧ ∀ zd, D.atKey (.int .i64 x) zd = .lit (.int .i64 c)) ∧ ∀ x, f x = none → inI64 x → Maps.has D (.int .i64 x) = false
section
variable {w : World} {b n : Nat} {f : Int → Option Value} {P : Program} {k e : TypeId}
theorem MapI.ownsV (h : MapI w b f n) (hk : P.underlying k = some (.int .i64)) (he : P.underlying e = some (.int .i64)) (hn : n ≤ maxLen) (hc : Counts f) :
    ∃ D : DataW Unit, w.ownsMap P k (plainElem P e) b n D ∧ HoldsI D f := by
  obtain ⟨es, c, hb, hs, hz, hi, hf⟩ := h
  have K : Keyed P k := int_keyed hk
  have hv : ∀ x ∈ es.toList, ∃ q c, x.key = .int .i64 q ∧ x.val = .int .i64 c ∧ inI64 q ∧ inI64 c := by
    intro x hx
    obtain ⟨q, hq⟩ := hi x hx
    obtain ⟨h1, c, h2, h3⟩ := hc q x.val ((hf q x.val).2 ⟨x, hx, hq, rfl⟩)
    exact ⟨q, c, hq, h2, h1, h3⟩
  have F : Fit P k (plainElem P e) es c (H := Unit) := ⟨Nat.le_trans hz hn, hs, fun x hx => by
    obtain ⟨q, d, h1, h2, h3, h4⟩ := hv x hx
    refine ⟨(.int .i64 q, .lit (.int .i64 d)), ?_⟩
    unfold rd
    rw [h1, keyOf_int_mk hk h3, h2]
    have h5 : (Lit.int .i64 d).wf = true := h4
    simp [plainElem, he, h5]⟩
  refine ⟨_, ⟨es, c, hb, F, hz, rfl⟩, ?_, ?_⟩
  · intro x d hx
    obtain ⟨en, hen, h1, h2⟩ := (hf x _).1 hx
    obtain ⟨h3, d', h4, h5⟩ := hc x _ hx
    have hkey : keyOf P k (.int .i64 x) = some (.int .i64 x) := keyOf_int_mk hk h3
    have hat := atKey_sorted (es.toList.map (rg P k (plainElem P e (H := Unit)))) (fit_rising K F) (.int .i64 x) (K.key hkey)
    obtain ⟨y, hy⟩ := F.reads en hen
    have hy1 := rd_key hy
    rw [h1, hkey] at hy1
    obtain ⟨z, hz1, hz2⟩ := rd_val hy
    obtain ⟨d2, h6, rfl, -⟩ := plainElem_int_inv he hz1
    rw [h2] at h6
    cases h6
    have h7 : ∀ zd, (DataW.map ((es.toList.map (rg P k (plainElem P e))).foldr DataW.insert [])).atKey (.int .i64 x) zd = .lit (.int .i64 d) := fun zd => by
      rw [hat.2 (rg P k (plainElem P e) en) (List.mem_map.2 ⟨en, hen, rfl⟩) (by rw [rg_of hy]; exact (Option.some.inj hy1).symm), rg_of hy, hz2]
    exact ⟨has_true_of_atKey h7, h7⟩
  · intro x hx h3
    have hkey : keyOf P k (.int .i64 x) = some (.int .i64 x) := keyOf_int_mk hk h3
    have hat := atKey_sorted (es.toList.map (rg P k (plainElem P e (H := Unit)))) (fit_rising K F) (.int .i64 x) (K.key hkey)
    refine has_false_of_atKey (hat.1 (fun p hp e1 => ?_))
    obtain ⟨en, hen, rfl⟩ := List.mem_map.1 hp
    obtain ⟨y, hy⟩ := F.reads en hen
    have m1 := rd_key hy
    rw [rg_of hy] at e1
    rw [e1] at m1
    have h4 := K.inj m1 hkey
    rw [(hf x en.val).2 ⟨en, hen, h4, rfl⟩] at hx
    cases hx
def viewI (D : DataW Unit) (x : Int) : Option Value := if Maps.has D (.int .i64 x) = true then (match D.atKey (.int .i64 x) .nil with | .lit (.int _ c) => some (.int .i64 c) | _ => none) else none
theorem ownsMap_toI {D : DataW Unit} (h : w.ownsMap P k (plainElem P e) b n D) (hk : P.underlying k = some (.int .i64)) (he : P.underlying e = some (.int .i64)) {g : Int → Option Value}
    (hg : ∀ x v, g x = some v → inI64 x ∧ ∃ c, v = .int .i64 c) (hD : ∀ x, inI64 x → viewI D x = g x) : MapI w b g n := by
  obtain ⟨es, c, hb, F, hz, rfl⟩ := h
  have K : Keyed P k := int_keyed hk
  have hv : ∀ x ∈ es.toList, ∃ q c, x.key = .int .i64 q ∧ x.val = .int .i64 c ∧ inI64 q ∧ rd P k (plainElem P e) x = some (.int .i64 q, (.lit (.int .i64 c) : DataW Unit)) := by
    intro x hx
    obtain ⟨y, hy⟩ := F.reads x hx
    obtain ⟨q, h1, h2, h3⟩ := keyOf_int_inv hk (rd_key hy)
    obtain ⟨z, hz1, hz2⟩ := rd_val hy
    obtain ⟨d, h4, rfl, -⟩ := plainElem_int_inv he hz1
    refine ⟨q, d, h1, h4, h3, ?_⟩
    rw [hy]
    exact congrArg some (Prod.ext h2 hz2)
  have hin : ∀ x ∈ es.toList, ∀ q c, x.key = .int .i64 q → x.val = .int .i64 c → viewI (DataW.map ((es.toList.map (rg P k (plainElem P e))).foldr DataW.insert [])) q = some (.int .i64 c) := by
    intro x hx q d h1 h2
    obtain ⟨q', d', g1, g2, g3, g4⟩ := hv x hx
    rw [h1] at g1
    cases g1
    rw [h2] at g2
    cases g2
    have hat := atKey_sorted (es.toList.map (rg P k (plainElem P e (H := Unit)))) (fit_rising K F) (.int .i64 q) (K.key (keyOf_int_mk hk g3))
    have h7 : ∀ zd, (DataW.map ((es.toList.map (rg P k (plainElem P e))).foldr DataW.insert [])).atKey (.int .i64 q) zd = .lit (.int .i64 d) := fun zd => by
      rw [hat.2 (rg P k (plainElem P e) x) (List.mem_map.2 ⟨x, hx, rfl⟩) (by rw [rg_of g4]), rg_of g4]
    unfold viewI
    rw [if_pos (has_true_of_atKey h7), h7]
  refine ⟨es, c, hb, F.stamped, hz, fun x hx => ?_, fun q v => ⟨fun hq => ?_, ?_⟩⟩
  · obtain ⟨q, d, h1, -⟩ := hv x hx
    exact ⟨q, h1⟩
  · obtain ⟨h1, d, rfl⟩ := hg q v hq
    by_cases hx : ∃ x ∈ es.toList, x.key = .int .i64 q
    · obtain ⟨x, hx, h2⟩ := hx
      obtain ⟨q', d', g1, g2, g3, g4⟩ := hv x hx
      rw [h2] at g1
      cases g1
      have h3 := hin x hx q d' h2 g2
      rw [hD q h1, hq] at h3
      cases h3
      exact ⟨x, hx, h2, g2⟩
    · exfalso
      have hkey : keyOf P k (.int .i64 q) = some (.int .i64 q) := keyOf_int_mk hk h1
      have hat := atKey_sorted (es.toList.map (rg P k (plainElem P e (H := Unit)))) (fit_rising K F) (.int .i64 q) (K.key hkey)
      have h4 := has_false_of_atKey (hat.1 (fun p hp e1 => by
        obtain ⟨en, hen, rfl⟩ := List.mem_map.1 hp
        obtain ⟨y, hy⟩ := F.reads en hen
        have m1 := rd_key hy
        rw [rg_of hy] at e1
        rw [e1] at m1
        exact hx ⟨en, hen, K.inj m1 hkey⟩))
      have h5 := hD q h1
      unfold viewI at h5
      rw [h4, hq] at h5
      simp at h5
  · rintro ⟨x, hx, h1, rfl⟩
    obtain ⟨q', d', g1, g2, g3, g4⟩ := hv x hx
    rw [h1] at g1
    cases g1
    rw [← hD q g3, g2]
    exact hin x hx q d' h1 g2
end
end Go.Hg
