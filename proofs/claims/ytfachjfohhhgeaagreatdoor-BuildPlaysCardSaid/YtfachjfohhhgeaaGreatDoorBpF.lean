/- rule.Form, hedgerowref15.Form; hedgerowref15.Form; The job of build and of its reference: plain words, its cells, build.New and hedgerowref23.New; (*build.Job).takes: what lies in the channel goes into the map. Conditions: those that each theorem names. -/
import Derived.WalkKit
import Derived.WalkSpells
import Derived.WalkLawsBesides
import Derived.Lib.Hide
import Derived.BigQuiet
import Derived.Deep.LoopGhost
import Derived.Test.YtfachjfohhhgeaaGreatDoorRows
import Derived.Lib.SliceRun
import Derived.WideMake
import Derived.Deep.RegionLaw
import Derived.Lib.Overlaps
import Derived.Deep.RegionHeld3
import Derived.Laws.ResultCell
import Derived.Maps.OwnOps
import Derived.Maps.OwnSet
import Derived.Carry
import Derived.Conc.LoneCalls
import Derived.Conc.SmallLaws
import Derived.Deep.CutBlock
import Derived.Deep.DeepCutAuto
import Derived.Test.YtfachjfohhhgeaaGreatDoorBpE
namespace Go.Hg
open Go.RowKit Go.Proofs

theorem valNameB {s : ByteArray} {b : Bool} (hb : decide (NameOk s) = b) (w : World) : Calls Tryz.prog 60 #[.string s] w fun e w' => e = .returned (.bool b) ∧ w' = w := hb ▸ valName s w
theorem valNameG {s : ByteArray} {b : Bool} (hb : decide (NameOk s) = b) (w : World) : Calls Tryz.prog 60 #[.string s] w fun e w' => e = .returned (.bool b) ∧ Grow w w' :=
  (valNameB hb w).mono fun _ _ ⟨h1, h2⟩ => ⟨h1, h2 ▸ Grow.rfl' _⟩
theorem refNameB {s : ByteArray} {b : Bool} (hb : decide (NameOk s) = b) (w : World) : Calls Tryz.prog 38 #[.string s] w fun e w' => e = .returned (.bool b) ∧ w' = w := hb ▸ refName s w
set_option maxRecDepth 100000 in
set_option maxHeartbeats 2000000 in
theorem ruleForm1 (id : Int) (typ name from_ to_ : ByteArray) (n state : Int) (w : World) : Calls Tryz.prog 39 #[(PRule.mk id 1 typ name from_ to_ n state).args] w fun e w' => e = .returned (.bool (formR ⟨id, 1, typ, name, from_, to_, n, state⟩)) ∧ Grow w w' := by
  have HW := Lib.hid (show ∀ o1, Grow w (w.alloc o1) from fun o1 => (Grow.rfl' w).allocd o1)
  have HB := Lib.hid (show ∀ o1 w', Grow (w.alloc o1) w' → w'.heap[w.heap.size]? = some o1 from fun o1 w' hg => by rw [hg.heapEq (by simp)]; exact heap_alloc_new w _)
  generalize hF : formR _ = F
  have HF := Lib.hid hF; clear hF
  obtain ⟨b1, hb1⟩ : ∃ b, decide (NameOk typ) = b := ⟨_, rfl⟩
  obtain ⟨b2, hb2⟩ : ∃ b, decide (NameOk name) = b := ⟨_, rfl⟩
  obtain ⟨b3, hb3⟩ : ∃ b, decide (NameOk from_) = b := ⟨_, rfl⟩
  obtain ⟨b4, hb4⟩ : ∃ b, decide (NameOk to_) = b := ⟨_, rfl⟩
  have H1 := Lib.hid hb1; have H2 := Lib.hid hb2; have H3 := Lib.hid hb3; have H4 := Lib.hid hb4
  clear hb1 hb2 hb3 hb4
  have HK := Lib.hid True.intro
  cases b1
  · skip
    have hF : F = false := by rw [← HF.out]; simp [formR, H1.out, *]
    subst hF
    clear HF
    go_enter Tryz.func39, Tryz.ntmps39
    go_wp2_with fail
    refine wp_region_grow (by kernel_rfl) (by kernel_rfl) ?_
    repeat (go_big_quiet_step (first | (go_at_call 60; with_reducible exact calls_gr (valNameG H1.out _)) | (go_at_call 60; with_reducible exact calls_gr (valNameG H2.out _))))
    refine wpQuiet_nil ?_
    intro w2 hw2
    have HB2 := HB.out _ w2 hw2
    have hbl := blk_lt HB2
    have c1 : w2.cell? ⟨w.heap.size, 1, none⟩ = some (.int .i64 1) := by rw [blk_cell HB2]; rfl
    have c3 : w2.cell? ⟨w.heap.size, 3, none⟩ = some (.string name) := by rw [blk_cell HB2]; rfl
    have c4 : w2.cell? ⟨w.heap.size, 4, none⟩ = some (.string from_) := by rw [blk_cell HB2]; rfl
    have c5 : w2.cell? ⟨w.heap.size, 5, none⟩ = some (.string to_) := by rw [blk_cell HB2]; rfl
    have c6 : w2.cell? ⟨w.heap.size, 6, none⟩ = some (.int .i64 n) := by rw [blk_cell HB2]; rfl
    have HG2 := Lib.hid ((HW.out _).step hw2)
    clear HB2 hw2
    go_wp2_with (go_at_call 60; (first | (with_reducible refine (valNameB H1.out _).mono ?_) | (with_reducible refine (valNameB H2.out _).mono ?_) | (with_reducible refine (valNameB H3.out _).mono ?_) | (with_reducible refine (valNameB H4.out _).mono ?_)); rintro e w3 ⟨rfl, rfl⟩)
    go_ret
    exact ⟨rfl, HG2.out⟩
  · skip
    cases b2
    · skip
      have hF : F = false := by rw [← HF.out]; simp [formR, H1.out, H2.out, *]
      subst hF
      clear HF
      go_enter Tryz.func39, Tryz.ntmps39
      go_wp2_with fail
      refine wp_region_grow (by kernel_rfl) (by kernel_rfl) ?_
      repeat (go_big_quiet_step (first | (go_at_call 60; with_reducible exact calls_gr (valNameG H1.out _)) | (go_at_call 60; with_reducible exact calls_gr (valNameG H2.out _))))
      refine wpQuiet_nil ?_
      intro w2 hw2
      have HB2 := HB.out _ w2 hw2
      have hbl := blk_lt HB2
      have c1 : w2.cell? ⟨w.heap.size, 1, none⟩ = some (.int .i64 1) := by rw [blk_cell HB2]; rfl
      have c3 : w2.cell? ⟨w.heap.size, 3, none⟩ = some (.string name) := by rw [blk_cell HB2]; rfl
      have c4 : w2.cell? ⟨w.heap.size, 4, none⟩ = some (.string from_) := by rw [blk_cell HB2]; rfl
      have c5 : w2.cell? ⟨w.heap.size, 5, none⟩ = some (.string to_) := by rw [blk_cell HB2]; rfl
      have c6 : w2.cell? ⟨w.heap.size, 6, none⟩ = some (.int .i64 n) := by rw [blk_cell HB2]; rfl
      have HG2 := Lib.hid ((HW.out _).step hw2)
      clear HB2 hw2
      go_wp2_with (go_at_call 60; (first | (with_reducible refine (valNameB H1.out _).mono ?_) | (with_reducible refine (valNameB H2.out _).mono ?_) | (with_reducible refine (valNameB H3.out _).mono ?_) | (with_reducible refine (valNameB H4.out _).mono ?_)); rintro e w3 ⟨rfl, rfl⟩)
      go_ret
      exact ⟨rfl, HG2.out⟩
    · skip
      by_cases h2 : from_ = ByteArray.empty
      · skip
        subst h2
        by_cases h3 : to_ = ByteArray.empty
        · skip
          subst h3
          by_cases h4 : n = 0
          · skip
            subst h4
            have hF : F = true := by rw [← HF.out]; simp [formR, H1.out, H2.out, *]
            subst hF
            clear HF
            go_enter Tryz.func39, Tryz.ntmps39
            go_wp2_with fail
            refine wp_region_grow (by kernel_rfl) (by kernel_rfl) ?_
            repeat (go_big_quiet_step (first | (go_at_call 60; with_reducible exact calls_gr (valNameG H1.out _)) | (go_at_call 60; with_reducible exact calls_gr (valNameG H2.out _))))
            refine wpQuiet_nil ?_
            intro w2 hw2
            have HB2 := HB.out _ w2 hw2
            have hbl := blk_lt HB2
            have c1 : w2.cell? ⟨w.heap.size, 1, none⟩ = some (.int .i64 1) := by rw [blk_cell HB2]; rfl
            have c3 : w2.cell? ⟨w.heap.size, 3, none⟩ = some (.string name) := by rw [blk_cell HB2]; rfl
            have c4 : w2.cell? ⟨w.heap.size, 4, none⟩ = some (.string ByteArray.empty) := by rw [blk_cell HB2]; rfl
            have c5 : w2.cell? ⟨w.heap.size, 5, none⟩ = some (.string ByteArray.empty) := by rw [blk_cell HB2]; rfl
            have c6 : w2.cell? ⟨w.heap.size, 6, none⟩ = some (.int .i64 0) := by rw [blk_cell HB2]; rfl
            have HG2 := Lib.hid ((HW.out _).step hw2)
            clear HB2 hw2
            go_wp2_with (go_at_call 60; (first | (with_reducible refine (valNameB H1.out _).mono ?_) | (with_reducible refine (valNameB H2.out _).mono ?_) | (with_reducible refine (valNameB H3.out _).mono ?_) | (with_reducible refine (valNameB H4.out _).mono ?_)); rintro e w3 ⟨rfl, rfl⟩)
            go_ret
            exact ⟨rfl, HG2.out⟩
          · skip
            have q4 : (n == 0) = false := by simpa using h4
            have hF : F = false := by rw [← HF.out]; simp [formR, H1.out, H2.out, *]
            subst hF
            clear HF
            go_enter Tryz.func39, Tryz.ntmps39
            go_wp2_with fail
            refine wp_region_grow (by kernel_rfl) (by kernel_rfl) ?_
            repeat (go_big_quiet_step (first | (go_at_call 60; with_reducible exact calls_gr (valNameG H1.out _)) | (go_at_call 60; with_reducible exact calls_gr (valNameG H2.out _))))
            refine wpQuiet_nil ?_
            intro w2 hw2
            have HB2 := HB.out _ w2 hw2
            have hbl := blk_lt HB2
            have c1 : w2.cell? ⟨w.heap.size, 1, none⟩ = some (.int .i64 1) := by rw [blk_cell HB2]; rfl
            have c3 : w2.cell? ⟨w.heap.size, 3, none⟩ = some (.string name) := by rw [blk_cell HB2]; rfl
            have c4 : w2.cell? ⟨w.heap.size, 4, none⟩ = some (.string ByteArray.empty) := by rw [blk_cell HB2]; rfl
            have c5 : w2.cell? ⟨w.heap.size, 5, none⟩ = some (.string ByteArray.empty) := by rw [blk_cell HB2]; rfl
            have c6 : w2.cell? ⟨w.heap.size, 6, none⟩ = some (.int .i64 n) := by rw [blk_cell HB2]; rfl
            have HG2 := Lib.hid ((HW.out _).step hw2)
            clear HB2 hw2
            go_wp2_with (go_at_call 60; (first | (with_reducible refine (valNameB H1.out _).mono ?_) | (with_reducible refine (valNameB H2.out _).mono ?_) | (with_reducible refine (valNameB H3.out _).mono ?_) | (with_reducible refine (valNameB H4.out _).mono ?_)); rintro e w3 ⟨rfl, rfl⟩)
            go_ret
            exact ⟨rfl, HG2.out⟩
        · skip
          have q3 : (to_.toList == ([] : List UInt8)) = false := (empty_beq to_).trans (decide_eq_false h3)
          have hF : F = false := by rw [← HF.out]; simp [formR, H1.out, H2.out, *]
          subst hF
          clear HF
          go_enter Tryz.func39, Tryz.ntmps39
          go_wp2_with fail
          refine wp_region_grow (by kernel_rfl) (by kernel_rfl) ?_
          repeat (go_big_quiet_step (first | (go_at_call 60; with_reducible exact calls_gr (valNameG H1.out _)) | (go_at_call 60; with_reducible exact calls_gr (valNameG H2.out _))))
          refine wpQuiet_nil ?_
          intro w2 hw2
          have HB2 := HB.out _ w2 hw2
          have hbl := blk_lt HB2
          have c1 : w2.cell? ⟨w.heap.size, 1, none⟩ = some (.int .i64 1) := by rw [blk_cell HB2]; rfl
          have c3 : w2.cell? ⟨w.heap.size, 3, none⟩ = some (.string name) := by rw [blk_cell HB2]; rfl
          have c4 : w2.cell? ⟨w.heap.size, 4, none⟩ = some (.string ByteArray.empty) := by rw [blk_cell HB2]; rfl
          have c5 : w2.cell? ⟨w.heap.size, 5, none⟩ = some (.string to_) := by rw [blk_cell HB2]; rfl
          have c6 : w2.cell? ⟨w.heap.size, 6, none⟩ = some (.int .i64 n) := by rw [blk_cell HB2]; rfl
          have HG2 := Lib.hid ((HW.out _).step hw2)
          clear HB2 hw2
          go_wp2_with (go_at_call 60; (first | (with_reducible refine (valNameB H1.out _).mono ?_) | (with_reducible refine (valNameB H2.out _).mono ?_) | (with_reducible refine (valNameB H3.out _).mono ?_) | (with_reducible refine (valNameB H4.out _).mono ?_)); rintro e w3 ⟨rfl, rfl⟩)
          go_ret
          exact ⟨rfl, HG2.out⟩
      · skip
        have q2 : (from_.toList == ([] : List UInt8)) = false := (empty_beq from_).trans (decide_eq_false h2)
        have hF : F = false := by rw [← HF.out]; simp [formR, H1.out, H2.out, *]
        subst hF
        clear HF
        go_enter Tryz.func39, Tryz.ntmps39
        go_wp2_with fail
        refine wp_region_grow (by kernel_rfl) (by kernel_rfl) ?_
        repeat (go_big_quiet_step (first | (go_at_call 60; with_reducible exact calls_gr (valNameG H1.out _)) | (go_at_call 60; with_reducible exact calls_gr (valNameG H2.out _))))
        refine wpQuiet_nil ?_
        intro w2 hw2
        have HB2 := HB.out _ w2 hw2
        have hbl := blk_lt HB2
        have c1 : w2.cell? ⟨w.heap.size, 1, none⟩ = some (.int .i64 1) := by rw [blk_cell HB2]; rfl
        have c3 : w2.cell? ⟨w.heap.size, 3, none⟩ = some (.string name) := by rw [blk_cell HB2]; rfl
        have c4 : w2.cell? ⟨w.heap.size, 4, none⟩ = some (.string from_) := by rw [blk_cell HB2]; rfl
        have c5 : w2.cell? ⟨w.heap.size, 5, none⟩ = some (.string to_) := by rw [blk_cell HB2]; rfl
        have c6 : w2.cell? ⟨w.heap.size, 6, none⟩ = some (.int .i64 n) := by rw [blk_cell HB2]; rfl
        have HG2 := Lib.hid ((HW.out _).step hw2)
        clear HB2 hw2
        go_wp2_with (go_at_call 60; (first | (with_reducible refine (valNameB H1.out _).mono ?_) | (with_reducible refine (valNameB H2.out _).mono ?_) | (with_reducible refine (valNameB H3.out _).mono ?_) | (with_reducible refine (valNameB H4.out _).mono ?_)); rintro e w3 ⟨rfl, rfl⟩)
        go_ret
        exact ⟨rfl, HG2.out⟩
set_option maxRecDepth 100000 in
set_option maxHeartbeats 2000000 in
theorem ruleForm2 (id : Int) (typ name from_ to_ : ByteArray) (n state : Int) (w : World) : Calls Tryz.prog 39 #[(PRule.mk id 2 typ name from_ to_ n state).args] w fun e w' => e = .returned (.bool (formR ⟨id, 2, typ, name, from_, to_, n, state⟩)) ∧ Grow w w' := by
  have HW := Lib.hid (show ∀ o1, Grow w (w.alloc o1) from fun o1 => (Grow.rfl' w).allocd o1)
  have HB := Lib.hid (show ∀ o1 w', Grow (w.alloc o1) w' → w'.heap[w.heap.size]? = some o1 from fun o1 w' hg => by rw [hg.heapEq (by simp)]; exact heap_alloc_new w _)
  generalize hF : formR _ = F
  have HF := Lib.hid hF; clear hF
  obtain ⟨b1, hb1⟩ : ∃ b, decide (NameOk typ) = b := ⟨_, rfl⟩
  obtain ⟨b2, hb2⟩ : ∃ b, decide (NameOk name) = b := ⟨_, rfl⟩
  obtain ⟨b3, hb3⟩ : ∃ b, decide (NameOk from_) = b := ⟨_, rfl⟩
  obtain ⟨b4, hb4⟩ : ∃ b, decide (NameOk to_) = b := ⟨_, rfl⟩
  have H1 := Lib.hid hb1; have H2 := Lib.hid hb2; have H3 := Lib.hid hb3; have H4 := Lib.hid hb4
  clear hb1 hb2 hb3 hb4
  have HK := Lib.hid True.intro
  cases b1
  · skip
    have hF : F = false := by rw [← HF.out]; simp [formR, H1.out, *]
    subst hF
    clear HF
    go_enter Tryz.func39, Tryz.ntmps39
    go_wp2_with fail
    refine wp_region_grow (by kernel_rfl) (by kernel_rfl) ?_
    repeat (go_big_quiet_step (first | (go_at_call 60; with_reducible exact calls_gr (valNameG H1.out _)) | (go_at_call 60; with_reducible exact calls_gr (valNameG H2.out _))))
    refine wpQuiet_nil ?_
    intro w2 hw2
    have HB2 := HB.out _ w2 hw2
    have hbl := blk_lt HB2
    have c1 : w2.cell? ⟨w.heap.size, 1, none⟩ = some (.int .i64 2) := by rw [blk_cell HB2]; rfl
    have c3 : w2.cell? ⟨w.heap.size, 3, none⟩ = some (.string name) := by rw [blk_cell HB2]; rfl
    have c4 : w2.cell? ⟨w.heap.size, 4, none⟩ = some (.string from_) := by rw [blk_cell HB2]; rfl
    have c5 : w2.cell? ⟨w.heap.size, 5, none⟩ = some (.string to_) := by rw [blk_cell HB2]; rfl
    have c6 : w2.cell? ⟨w.heap.size, 6, none⟩ = some (.int .i64 n) := by rw [blk_cell HB2]; rfl
    have HG2 := Lib.hid ((HW.out _).step hw2)
    clear HB2 hw2
    go_wp2_with (go_at_call 60; (first | (with_reducible refine (valNameB H1.out _).mono ?_) | (with_reducible refine (valNameB H2.out _).mono ?_) | (with_reducible refine (valNameB H3.out _).mono ?_) | (with_reducible refine (valNameB H4.out _).mono ?_)); rintro e w3 ⟨rfl, rfl⟩)
    go_ret
    exact ⟨rfl, HG2.out⟩
  · skip
    cases b2
    · skip
      have hF : F = false := by rw [← HF.out]; simp [formR, H1.out, H2.out, *]
      subst hF
      clear HF
      go_enter Tryz.func39, Tryz.ntmps39
      go_wp2_with fail
      refine wp_region_grow (by kernel_rfl) (by kernel_rfl) ?_
      repeat (go_big_quiet_step (first | (go_at_call 60; with_reducible exact calls_gr (valNameG H1.out _)) | (go_at_call 60; with_reducible exact calls_gr (valNameG H2.out _))))
      refine wpQuiet_nil ?_
      intro w2 hw2
      have HB2 := HB.out _ w2 hw2
      have hbl := blk_lt HB2
      have c1 : w2.cell? ⟨w.heap.size, 1, none⟩ = some (.int .i64 2) := by rw [blk_cell HB2]; rfl
      have c3 : w2.cell? ⟨w.heap.size, 3, none⟩ = some (.string name) := by rw [blk_cell HB2]; rfl
      have c4 : w2.cell? ⟨w.heap.size, 4, none⟩ = some (.string from_) := by rw [blk_cell HB2]; rfl
      have c5 : w2.cell? ⟨w.heap.size, 5, none⟩ = some (.string to_) := by rw [blk_cell HB2]; rfl
      have c6 : w2.cell? ⟨w.heap.size, 6, none⟩ = some (.int .i64 n) := by rw [blk_cell HB2]; rfl
      have HG2 := Lib.hid ((HW.out _).step hw2)
      clear HB2 hw2
      go_wp2_with (go_at_call 60; (first | (with_reducible refine (valNameB H1.out _).mono ?_) | (with_reducible refine (valNameB H2.out _).mono ?_) | (with_reducible refine (valNameB H3.out _).mono ?_) | (with_reducible refine (valNameB H4.out _).mono ?_)); rintro e w3 ⟨rfl, rfl⟩)
      go_ret
      exact ⟨rfl, HG2.out⟩
    · skip
      by_cases h2 : from_ = ByteArray.empty
      · skip
        subst h2
        by_cases h3 : to_ = ByteArray.empty
        · skip
          subst h3
          by_cases h4 : n = 0
          · skip
            subst h4
            have hF : F = true := by rw [← HF.out]; simp [formR, H1.out, H2.out, *]
            subst hF
            clear HF
            go_enter Tryz.func39, Tryz.ntmps39
            go_wp2_with fail
            refine wp_region_grow (by kernel_rfl) (by kernel_rfl) ?_
            repeat (go_big_quiet_step (first | (go_at_call 60; with_reducible exact calls_gr (valNameG H1.out _)) | (go_at_call 60; with_reducible exact calls_gr (valNameG H2.out _))))
            refine wpQuiet_nil ?_
            intro w2 hw2
            have HB2 := HB.out _ w2 hw2
            have hbl := blk_lt HB2
            have c1 : w2.cell? ⟨w.heap.size, 1, none⟩ = some (.int .i64 2) := by rw [blk_cell HB2]; rfl
            have c3 : w2.cell? ⟨w.heap.size, 3, none⟩ = some (.string name) := by rw [blk_cell HB2]; rfl
            have c4 : w2.cell? ⟨w.heap.size, 4, none⟩ = some (.string ByteArray.empty) := by rw [blk_cell HB2]; rfl
            have c5 : w2.cell? ⟨w.heap.size, 5, none⟩ = some (.string ByteArray.empty) := by rw [blk_cell HB2]; rfl
            have c6 : w2.cell? ⟨w.heap.size, 6, none⟩ = some (.int .i64 0) := by rw [blk_cell HB2]; rfl
            have HG2 := Lib.hid ((HW.out _).step hw2)
            clear HB2 hw2
            go_wp2_with (go_at_call 60; (first | (with_reducible refine (valNameB H1.out _).mono ?_) | (with_reducible refine (valNameB H2.out _).mono ?_) | (with_reducible refine (valNameB H3.out _).mono ?_) | (with_reducible refine (valNameB H4.out _).mono ?_)); rintro e w3 ⟨rfl, rfl⟩)
            go_ret
            exact ⟨rfl, HG2.out⟩
          · skip
            have q4 : (n == 0) = false := by simpa using h4
            have hF : F = false := by rw [← HF.out]; simp [formR, H1.out, H2.out, *]
            subst hF
            clear HF
            go_enter Tryz.func39, Tryz.ntmps39
            go_wp2_with fail
            refine wp_region_grow (by kernel_rfl) (by kernel_rfl) ?_
            repeat (go_big_quiet_step (first | (go_at_call 60; with_reducible exact calls_gr (valNameG H1.out _)) | (go_at_call 60; with_reducible exact calls_gr (valNameG H2.out _))))
            refine wpQuiet_nil ?_
            intro w2 hw2
            have HB2 := HB.out _ w2 hw2
            have hbl := blk_lt HB2
            have c1 : w2.cell? ⟨w.heap.size, 1, none⟩ = some (.int .i64 2) := by rw [blk_cell HB2]; rfl
            have c3 : w2.cell? ⟨w.heap.size, 3, none⟩ = some (.string name) := by rw [blk_cell HB2]; rfl
            have c4 : w2.cell? ⟨w.heap.size, 4, none⟩ = some (.string ByteArray.empty) := by rw [blk_cell HB2]; rfl
            have c5 : w2.cell? ⟨w.heap.size, 5, none⟩ = some (.string ByteArray.empty) := by rw [blk_cell HB2]; rfl
            have c6 : w2.cell? ⟨w.heap.size, 6, none⟩ = some (.int .i64 n) := by rw [blk_cell HB2]; rfl
            have HG2 := Lib.hid ((HW.out _).step hw2)
            clear HB2 hw2
            go_wp2_with (go_at_call 60; (first | (with_reducible refine (valNameB H1.out _).mono ?_) | (with_reducible refine (valNameB H2.out _).mono ?_) | (with_reducible refine (valNameB H3.out _).mono ?_) | (with_reducible refine (valNameB H4.out _).mono ?_)); rintro e w3 ⟨rfl, rfl⟩)
            go_ret
            exact ⟨rfl, HG2.out⟩
        · skip
          have q3 : (to_.toList == ([] : List UInt8)) = false := (empty_beq to_).trans (decide_eq_false h3)
          have hF : F = false := by rw [← HF.out]; simp [formR, H1.out, H2.out, *]
          subst hF
          clear HF
          go_enter Tryz.func39, Tryz.ntmps39
          go_wp2_with fail
          refine wp_region_grow (by kernel_rfl) (by kernel_rfl) ?_
          repeat (go_big_quiet_step (first | (go_at_call 60; with_reducible exact calls_gr (valNameG H1.out _)) | (go_at_call 60; with_reducible exact calls_gr (valNameG H2.out _))))
          refine wpQuiet_nil ?_
          intro w2 hw2
          have HB2 := HB.out _ w2 hw2
          have hbl := blk_lt HB2
          have c1 : w2.cell? ⟨w.heap.size, 1, none⟩ = some (.int .i64 2) := by rw [blk_cell HB2]; rfl
          have c3 : w2.cell? ⟨w.heap.size, 3, none⟩ = some (.string name) := by rw [blk_cell HB2]; rfl
          have c4 : w2.cell? ⟨w.heap.size, 4, none⟩ = some (.string ByteArray.empty) := by rw [blk_cell HB2]; rfl
          have c5 : w2.cell? ⟨w.heap.size, 5, none⟩ = some (.string to_) := by rw [blk_cell HB2]; rfl
          have c6 : w2.cell? ⟨w.heap.size, 6, none⟩ = some (.int .i64 n) := by rw [blk_cell HB2]; rfl
          have HG2 := Lib.hid ((HW.out _).step hw2)
          clear HB2 hw2
          go_wp2_with (go_at_call 60; (first | (with_reducible refine (valNameB H1.out _).mono ?_) | (with_reducible refine (valNameB H2.out _).mono ?_) | (with_reducible refine (valNameB H3.out _).mono ?_) | (with_reducible refine (valNameB H4.out _).mono ?_)); rintro e w3 ⟨rfl, rfl⟩)
          go_ret
          exact ⟨rfl, HG2.out⟩
      · skip
        have q2 : (from_.toList == ([] : List UInt8)) = false := (empty_beq from_).trans (decide_eq_false h2)
        have hF : F = false := by rw [← HF.out]; simp [formR, H1.out, H2.out, *]
        subst hF
        clear HF
        go_enter Tryz.func39, Tryz.ntmps39
        go_wp2_with fail
        refine wp_region_grow (by kernel_rfl) (by kernel_rfl) ?_
        repeat (go_big_quiet_step (first | (go_at_call 60; with_reducible exact calls_gr (valNameG H1.out _)) | (go_at_call 60; with_reducible exact calls_gr (valNameG H2.out _))))
        refine wpQuiet_nil ?_
        intro w2 hw2
        have HB2 := HB.out _ w2 hw2
        have hbl := blk_lt HB2
        have c1 : w2.cell? ⟨w.heap.size, 1, none⟩ = some (.int .i64 2) := by rw [blk_cell HB2]; rfl
        have c3 : w2.cell? ⟨w.heap.size, 3, none⟩ = some (.string name) := by rw [blk_cell HB2]; rfl
        have c4 : w2.cell? ⟨w.heap.size, 4, none⟩ = some (.string from_) := by rw [blk_cell HB2]; rfl
        have c5 : w2.cell? ⟨w.heap.size, 5, none⟩ = some (.string to_) := by rw [blk_cell HB2]; rfl
        have c6 : w2.cell? ⟨w.heap.size, 6, none⟩ = some (.int .i64 n) := by rw [blk_cell HB2]; rfl
        have HG2 := Lib.hid ((HW.out _).step hw2)
        clear HB2 hw2
        go_wp2_with (go_at_call 60; (first | (with_reducible refine (valNameB H1.out _).mono ?_) | (with_reducible refine (valNameB H2.out _).mono ?_) | (with_reducible refine (valNameB H3.out _).mono ?_) | (with_reducible refine (valNameB H4.out _).mono ?_)); rintro e w3 ⟨rfl, rfl⟩)
        go_ret
        exact ⟨rfl, HG2.out⟩
set_option maxRecDepth 100000 in
set_option maxHeartbeats 2000000 in
theorem ruleForm3 (id : Int) (typ name from_ to_ : ByteArray) (n state : Int) (w : World) : Calls Tryz.prog 39 #[(PRule.mk id 3 typ name from_ to_ n state).args] w fun e w' => e = .returned (.bool (formR ⟨id, 3, typ, name, from_, to_, n, state⟩)) ∧ Grow w w' := by
  have HW := Lib.hid (show ∀ o1, Grow w (w.alloc o1) from fun o1 => (Grow.rfl' w).allocd o1)
  have HB := Lib.hid (show ∀ o1 w', Grow (w.alloc o1) w' → w'.heap[w.heap.size]? = some o1 from fun o1 w' hg => by rw [hg.heapEq (by simp)]; exact heap_alloc_new w _)
  generalize hF : formR _ = F
  have HF := Lib.hid hF; clear hF
  obtain ⟨b1, hb1⟩ : ∃ b, decide (NameOk typ) = b := ⟨_, rfl⟩
  obtain ⟨b2, hb2⟩ : ∃ b, decide (NameOk name) = b := ⟨_, rfl⟩
  obtain ⟨b3, hb3⟩ : ∃ b, decide (NameOk from_) = b := ⟨_, rfl⟩
  obtain ⟨b4, hb4⟩ : ∃ b, decide (NameOk to_) = b := ⟨_, rfl⟩
  have H1 := Lib.hid hb1; have H2 := Lib.hid hb2; have H3 := Lib.hid hb3; have H4 := Lib.hid hb4
  clear hb1 hb2 hb3 hb4
  have HK := Lib.hid True.intro
  cases b1
  · skip
    have hF : F = false := by rw [← HF.out]; simp [formR, H1.out, *]
    subst hF
    clear HF
    go_enter Tryz.func39, Tryz.ntmps39
    go_wp2_with fail
    refine wp_region_grow (by kernel_rfl) (by kernel_rfl) ?_
    repeat (go_big_quiet_step (first | (go_at_call 60; with_reducible exact calls_gr (valNameG H1.out _)) | (go_at_call 60; with_reducible exact calls_gr (valNameG H2.out _))))
    refine wpQuiet_nil ?_
    intro w2 hw2
    have HB2 := HB.out _ w2 hw2
    have hbl := blk_lt HB2
    have c1 : w2.cell? ⟨w.heap.size, 1, none⟩ = some (.int .i64 3) := by rw [blk_cell HB2]; rfl
    have c3 : w2.cell? ⟨w.heap.size, 3, none⟩ = some (.string name) := by rw [blk_cell HB2]; rfl
    have c4 : w2.cell? ⟨w.heap.size, 4, none⟩ = some (.string from_) := by rw [blk_cell HB2]; rfl
    have c5 : w2.cell? ⟨w.heap.size, 5, none⟩ = some (.string to_) := by rw [blk_cell HB2]; rfl
    have c6 : w2.cell? ⟨w.heap.size, 6, none⟩ = some (.int .i64 n) := by rw [blk_cell HB2]; rfl
    have HG2 := Lib.hid ((HW.out _).step hw2)
    clear HB2 hw2
    go_wp2_with (go_at_call 60; (first | (with_reducible refine (valNameB H1.out _).mono ?_) | (with_reducible refine (valNameB H2.out _).mono ?_) | (with_reducible refine (valNameB H3.out _).mono ?_) | (with_reducible refine (valNameB H4.out _).mono ?_)); rintro e w3 ⟨rfl, rfl⟩)
    go_ret
    exact ⟨rfl, HG2.out⟩
  · skip
    cases b3
    · skip
      have hF : F = false := by rw [← HF.out]; simp [formR, H1.out, H3.out, *]
      subst hF
      clear HF
      go_enter Tryz.func39, Tryz.ntmps39
      go_wp2_with fail
      refine wp_region_grow (by kernel_rfl) (by kernel_rfl) ?_
      repeat (go_big_quiet_step (first | (go_at_call 60; with_reducible exact calls_gr (valNameG H1.out _)) | (go_at_call 60; with_reducible exact calls_gr (valNameG H2.out _))))
      refine wpQuiet_nil ?_
      intro w2 hw2
      have HB2 := HB.out _ w2 hw2
      have hbl := blk_lt HB2
      have c1 : w2.cell? ⟨w.heap.size, 1, none⟩ = some (.int .i64 3) := by rw [blk_cell HB2]; rfl
      have c3 : w2.cell? ⟨w.heap.size, 3, none⟩ = some (.string name) := by rw [blk_cell HB2]; rfl
      have c4 : w2.cell? ⟨w.heap.size, 4, none⟩ = some (.string from_) := by rw [blk_cell HB2]; rfl
      have c5 : w2.cell? ⟨w.heap.size, 5, none⟩ = some (.string to_) := by rw [blk_cell HB2]; rfl
      have c6 : w2.cell? ⟨w.heap.size, 6, none⟩ = some (.int .i64 n) := by rw [blk_cell HB2]; rfl
      have HG2 := Lib.hid ((HW.out _).step hw2)
      clear HB2 hw2
      go_wp2_with (go_at_call 60; (first | (with_reducible refine (valNameB H1.out _).mono ?_) | (with_reducible refine (valNameB H2.out _).mono ?_) | (with_reducible refine (valNameB H3.out _).mono ?_) | (with_reducible refine (valNameB H4.out _).mono ?_)); rintro e w3 ⟨rfl, rfl⟩)
      go_ret
      exact ⟨rfl, HG2.out⟩
    · skip
      cases b4
      · skip
        have hF : F = false := by rw [← HF.out]; simp [formR, H1.out, H3.out, H4.out, *]
        subst hF
        clear HF
        go_enter Tryz.func39, Tryz.ntmps39
        go_wp2_with fail
        refine wp_region_grow (by kernel_rfl) (by kernel_rfl) ?_
        repeat (go_big_quiet_step (first | (go_at_call 60; with_reducible exact calls_gr (valNameG H1.out _)) | (go_at_call 60; with_reducible exact calls_gr (valNameG H2.out _))))
        refine wpQuiet_nil ?_
        intro w2 hw2
        have HB2 := HB.out _ w2 hw2
        have hbl := blk_lt HB2
        have c1 : w2.cell? ⟨w.heap.size, 1, none⟩ = some (.int .i64 3) := by rw [blk_cell HB2]; rfl
        have c3 : w2.cell? ⟨w.heap.size, 3, none⟩ = some (.string name) := by rw [blk_cell HB2]; rfl
        have c4 : w2.cell? ⟨w.heap.size, 4, none⟩ = some (.string from_) := by rw [blk_cell HB2]; rfl
        have c5 : w2.cell? ⟨w.heap.size, 5, none⟩ = some (.string to_) := by rw [blk_cell HB2]; rfl
        have c6 : w2.cell? ⟨w.heap.size, 6, none⟩ = some (.int .i64 n) := by rw [blk_cell HB2]; rfl
        have HG2 := Lib.hid ((HW.out _).step hw2)
        clear HB2 hw2
        go_wp2_with (go_at_call 60; (first | (with_reducible refine (valNameB H1.out _).mono ?_) | (with_reducible refine (valNameB H2.out _).mono ?_) | (with_reducible refine (valNameB H3.out _).mono ?_) | (with_reducible refine (valNameB H4.out _).mono ?_)); rintro e w3 ⟨rfl, rfl⟩)
        go_ret
        exact ⟨rfl, HG2.out⟩
      · skip
        by_cases h3 : name = ByteArray.empty
        · skip
          subst h3
          by_cases h4 : n = 0
          · skip
            subst h4
            have hF : F = true := by rw [← HF.out]; simp [formR, H1.out, H3.out, H4.out, *]
            subst hF
            clear HF
            go_enter Tryz.func39, Tryz.ntmps39
            go_wp2_with fail
            refine wp_region_grow (by kernel_rfl) (by kernel_rfl) ?_
            repeat (go_big_quiet_step (first | (go_at_call 60; with_reducible exact calls_gr (valNameG H1.out _)) | (go_at_call 60; with_reducible exact calls_gr (valNameG H2.out _))))
            refine wpQuiet_nil ?_
            intro w2 hw2
            have HB2 := HB.out _ w2 hw2
            have hbl := blk_lt HB2
            have c1 : w2.cell? ⟨w.heap.size, 1, none⟩ = some (.int .i64 3) := by rw [blk_cell HB2]; rfl
            have c3 : w2.cell? ⟨w.heap.size, 3, none⟩ = some (.string ByteArray.empty) := by rw [blk_cell HB2]; rfl
            have c4 : w2.cell? ⟨w.heap.size, 4, none⟩ = some (.string from_) := by rw [blk_cell HB2]; rfl
            have c5 : w2.cell? ⟨w.heap.size, 5, none⟩ = some (.string to_) := by rw [blk_cell HB2]; rfl
            have c6 : w2.cell? ⟨w.heap.size, 6, none⟩ = some (.int .i64 0) := by rw [blk_cell HB2]; rfl
            have HG2 := Lib.hid ((HW.out _).step hw2)
            clear HB2 hw2
            go_wp2_with (go_at_call 60; (first | (with_reducible refine (valNameB H1.out _).mono ?_) | (with_reducible refine (valNameB H2.out _).mono ?_) | (with_reducible refine (valNameB H3.out _).mono ?_) | (with_reducible refine (valNameB H4.out _).mono ?_)); rintro e w3 ⟨rfl, rfl⟩)
            go_ret
            exact ⟨rfl, HG2.out⟩
          · skip
            have q4 : (n == 0) = false := by simpa using h4
            have hF : F = false := by rw [← HF.out]; simp [formR, H1.out, H3.out, H4.out, *]
            subst hF
            clear HF
            go_enter Tryz.func39, Tryz.ntmps39
            go_wp2_with fail
            refine wp_region_grow (by kernel_rfl) (by kernel_rfl) ?_
            repeat (go_big_quiet_step (first | (go_at_call 60; with_reducible exact calls_gr (valNameG H1.out _)) | (go_at_call 60; with_reducible exact calls_gr (valNameG H2.out _))))
            refine wpQuiet_nil ?_
            intro w2 hw2
            have HB2 := HB.out _ w2 hw2
            have hbl := blk_lt HB2
            have c1 : w2.cell? ⟨w.heap.size, 1, none⟩ = some (.int .i64 3) := by rw [blk_cell HB2]; rfl
            have c3 : w2.cell? ⟨w.heap.size, 3, none⟩ = some (.string ByteArray.empty) := by rw [blk_cell HB2]; rfl
            have c4 : w2.cell? ⟨w.heap.size, 4, none⟩ = some (.string from_) := by rw [blk_cell HB2]; rfl
            have c5 : w2.cell? ⟨w.heap.size, 5, none⟩ = some (.string to_) := by rw [blk_cell HB2]; rfl
            have c6 : w2.cell? ⟨w.heap.size, 6, none⟩ = some (.int .i64 n) := by rw [blk_cell HB2]; rfl
            have HG2 := Lib.hid ((HW.out _).step hw2)
            clear HB2 hw2
            go_wp2_with (go_at_call 60; (first | (with_reducible refine (valNameB H1.out _).mono ?_) | (with_reducible refine (valNameB H2.out _).mono ?_) | (with_reducible refine (valNameB H3.out _).mono ?_) | (with_reducible refine (valNameB H4.out _).mono ?_)); rintro e w3 ⟨rfl, rfl⟩)
            go_ret
            exact ⟨rfl, HG2.out⟩
        · skip
          have q3 : (name.toList == ([] : List UInt8)) = false := (empty_beq name).trans (decide_eq_false h3)
          have hF : F = false := by rw [← HF.out]; simp [formR, H1.out, H3.out, H4.out, *]
          subst hF
          clear HF
          go_enter Tryz.func39, Tryz.ntmps39
          go_wp2_with fail
          refine wp_region_grow (by kernel_rfl) (by kernel_rfl) ?_
          repeat (go_big_quiet_step (first | (go_at_call 60; with_reducible exact calls_gr (valNameG H1.out _)) | (go_at_call 60; with_reducible exact calls_gr (valNameG H2.out _))))
          refine wpQuiet_nil ?_
          intro w2 hw2
          have HB2 := HB.out _ w2 hw2
          have hbl := blk_lt HB2
          have c1 : w2.cell? ⟨w.heap.size, 1, none⟩ = some (.int .i64 3) := by rw [blk_cell HB2]; rfl
          have c3 : w2.cell? ⟨w.heap.size, 3, none⟩ = some (.string name) := by rw [blk_cell HB2]; rfl
          have c4 : w2.cell? ⟨w.heap.size, 4, none⟩ = some (.string from_) := by rw [blk_cell HB2]; rfl
          have c5 : w2.cell? ⟨w.heap.size, 5, none⟩ = some (.string to_) := by rw [blk_cell HB2]; rfl
          have c6 : w2.cell? ⟨w.heap.size, 6, none⟩ = some (.int .i64 n) := by rw [blk_cell HB2]; rfl
          have HG2 := Lib.hid ((HW.out _).step hw2)
          clear HB2 hw2
          go_wp2_with (go_at_call 60; (first | (with_reducible refine (valNameB H1.out _).mono ?_) | (with_reducible refine (valNameB H2.out _).mono ?_) | (with_reducible refine (valNameB H3.out _).mono ?_) | (with_reducible refine (valNameB H4.out _).mono ?_)); rintro e w3 ⟨rfl, rfl⟩)
          go_ret
          exact ⟨rfl, HG2.out⟩
set_option maxRecDepth 100000 in
set_option maxHeartbeats 2000000 in
theorem ruleForm4 (id : Int) (typ name from_ to_ : ByteArray) (n state : Int) (w : World) : Calls Tryz.prog 39 #[(PRule.mk id 4 typ name from_ to_ n state).args] w fun e w' => e = .returned (.bool (formR ⟨id, 4, typ, name, from_, to_, n, state⟩)) ∧ Grow w w' := by
  have HW := Lib.hid (show ∀ o1, Grow w (w.alloc o1) from fun o1 => (Grow.rfl' w).allocd o1)
  have HB := Lib.hid (show ∀ o1 w', Grow (w.alloc o1) w' → w'.heap[w.heap.size]? = some o1 from fun o1 w' hg => by rw [hg.heapEq (by simp)]; exact heap_alloc_new w _)
  generalize hF : formR _ = F
  have HF := Lib.hid hF; clear hF
  obtain ⟨b1, hb1⟩ : ∃ b, decide (NameOk typ) = b := ⟨_, rfl⟩
  obtain ⟨b2, hb2⟩ : ∃ b, decide (NameOk name) = b := ⟨_, rfl⟩
  obtain ⟨b3, hb3⟩ : ∃ b, decide (NameOk from_) = b := ⟨_, rfl⟩
  obtain ⟨b4, hb4⟩ : ∃ b, decide (NameOk to_) = b := ⟨_, rfl⟩
  have H1 := Lib.hid hb1; have H2 := Lib.hid hb2; have H3 := Lib.hid hb3; have H4 := Lib.hid hb4
  clear hb1 hb2 hb3 hb4
  have HK := Lib.hid True.intro
  cases b1
  · skip
    have hF : F = false := by rw [← HF.out]; simp [formR, H1.out, *]
    subst hF
    clear HF
    go_enter Tryz.func39, Tryz.ntmps39
    go_wp2_with fail
    refine wp_region_grow (by kernel_rfl) (by kernel_rfl) ?_
    repeat (go_big_quiet_step (first | (go_at_call 60; with_reducible exact calls_gr (valNameG H1.out _)) | (go_at_call 60; with_reducible exact calls_gr (valNameG H2.out _))))
    refine wpQuiet_nil ?_
    intro w2 hw2
    have HB2 := HB.out _ w2 hw2
    have hbl := blk_lt HB2
    have c1 : w2.cell? ⟨w.heap.size, 1, none⟩ = some (.int .i64 4) := by rw [blk_cell HB2]; rfl
    have c3 : w2.cell? ⟨w.heap.size, 3, none⟩ = some (.string name) := by rw [blk_cell HB2]; rfl
    have c4 : w2.cell? ⟨w.heap.size, 4, none⟩ = some (.string from_) := by rw [blk_cell HB2]; rfl
    have c5 : w2.cell? ⟨w.heap.size, 5, none⟩ = some (.string to_) := by rw [blk_cell HB2]; rfl
    have c6 : w2.cell? ⟨w.heap.size, 6, none⟩ = some (.int .i64 n) := by rw [blk_cell HB2]; rfl
    have HG2 := Lib.hid ((HW.out _).step hw2)
    clear HB2 hw2
    go_wp2_with (go_at_call 60; (first | (with_reducible refine (valNameB H1.out _).mono ?_) | (with_reducible refine (valNameB H2.out _).mono ?_) | (with_reducible refine (valNameB H3.out _).mono ?_) | (with_reducible refine (valNameB H4.out _).mono ?_)); rintro e w3 ⟨rfl, rfl⟩)
    go_ret
    exact ⟨rfl, HG2.out⟩
  · skip
    by_cases h1 : name = ByteArray.empty
    · skip
      subst h1
      by_cases h2 : from_ = ByteArray.empty
      · skip
        subst h2
        by_cases h3 : to_ = ByteArray.empty
        · skip
          subst h3
          by_cases h4 : 0 ≤ n
          · skip
            have q4 : decide (0 ≤ n) = true := by simpa using h4
            by_cases h5 : n ≤ 1024
            · skip
              have q5 : decide (n ≤ 1024) = true := by simpa using h5
              have hF : F = true := by rw [← HF.out]; simp [formR, H1.out, *]
              subst hF
              clear HF
              go_enter Tryz.func39, Tryz.ntmps39
              go_wp2_with fail
              refine wp_region_grow (by kernel_rfl) (by kernel_rfl) ?_
              repeat (go_big_quiet_step (first | (go_at_call 60; with_reducible exact calls_gr (valNameG H1.out _)) | (go_at_call 60; with_reducible exact calls_gr (valNameG H2.out _))))
              refine wpQuiet_nil ?_
              intro w2 hw2
              have HB2 := HB.out _ w2 hw2
              have hbl := blk_lt HB2
              have c1 : w2.cell? ⟨w.heap.size, 1, none⟩ = some (.int .i64 4) := by rw [blk_cell HB2]; rfl
              have c3 : w2.cell? ⟨w.heap.size, 3, none⟩ = some (.string ByteArray.empty) := by rw [blk_cell HB2]; rfl
              have c4 : w2.cell? ⟨w.heap.size, 4, none⟩ = some (.string ByteArray.empty) := by rw [blk_cell HB2]; rfl
              have c5 : w2.cell? ⟨w.heap.size, 5, none⟩ = some (.string ByteArray.empty) := by rw [blk_cell HB2]; rfl
              have c6 : w2.cell? ⟨w.heap.size, 6, none⟩ = some (.int .i64 n) := by rw [blk_cell HB2]; rfl
              have HG2 := Lib.hid ((HW.out _).step hw2)
              clear HB2 hw2
              go_wp2_with (go_at_call 60; (first | (with_reducible refine (valNameB H1.out _).mono ?_) | (with_reducible refine (valNameB H2.out _).mono ?_) | (with_reducible refine (valNameB H3.out _).mono ?_) | (with_reducible refine (valNameB H4.out _).mono ?_)); rintro e w3 ⟨rfl, rfl⟩)
              go_ret
              exact ⟨rfl, HG2.out⟩
            · skip
              have q5 : decide (n ≤ 1024) = false := by simpa using h5
              have hF : F = false := by rw [← HF.out]; simp [formR, H1.out, *]
              subst hF
              clear HF
              go_enter Tryz.func39, Tryz.ntmps39
              go_wp2_with fail
              refine wp_region_grow (by kernel_rfl) (by kernel_rfl) ?_
              repeat (go_big_quiet_step (first | (go_at_call 60; with_reducible exact calls_gr (valNameG H1.out _)) | (go_at_call 60; with_reducible exact calls_gr (valNameG H2.out _))))
              refine wpQuiet_nil ?_
              intro w2 hw2
              have HB2 := HB.out _ w2 hw2
              have hbl := blk_lt HB2
              have c1 : w2.cell? ⟨w.heap.size, 1, none⟩ = some (.int .i64 4) := by rw [blk_cell HB2]; rfl
              have c3 : w2.cell? ⟨w.heap.size, 3, none⟩ = some (.string ByteArray.empty) := by rw [blk_cell HB2]; rfl
              have c4 : w2.cell? ⟨w.heap.size, 4, none⟩ = some (.string ByteArray.empty) := by rw [blk_cell HB2]; rfl
              have c5 : w2.cell? ⟨w.heap.size, 5, none⟩ = some (.string ByteArray.empty) := by rw [blk_cell HB2]; rfl
              have c6 : w2.cell? ⟨w.heap.size, 6, none⟩ = some (.int .i64 n) := by rw [blk_cell HB2]; rfl
              have HG2 := Lib.hid ((HW.out _).step hw2)
              clear HB2 hw2
              go_wp2_with (go_at_call 60; (first | (with_reducible refine (valNameB H1.out _).mono ?_) | (with_reducible refine (valNameB H2.out _).mono ?_) | (with_reducible refine (valNameB H3.out _).mono ?_) | (with_reducible refine (valNameB H4.out _).mono ?_)); rintro e w3 ⟨rfl, rfl⟩)
              go_ret
              exact ⟨rfl, HG2.out⟩
          · skip
            have q4 : decide (0 ≤ n) = false := by simpa using h4
            have hF : F = false := by rw [← HF.out]; simp [formR, H1.out, *]
            subst hF
            clear HF
            go_enter Tryz.func39, Tryz.ntmps39
            go_wp2_with fail
            refine wp_region_grow (by kernel_rfl) (by kernel_rfl) ?_
            repeat (go_big_quiet_step (first | (go_at_call 60; with_reducible exact calls_gr (valNameG H1.out _)) | (go_at_call 60; with_reducible exact calls_gr (valNameG H2.out _))))
            refine wpQuiet_nil ?_
            intro w2 hw2
            have HB2 := HB.out _ w2 hw2
            have hbl := blk_lt HB2
            have c1 : w2.cell? ⟨w.heap.size, 1, none⟩ = some (.int .i64 4) := by rw [blk_cell HB2]; rfl
            have c3 : w2.cell? ⟨w.heap.size, 3, none⟩ = some (.string ByteArray.empty) := by rw [blk_cell HB2]; rfl
            have c4 : w2.cell? ⟨w.heap.size, 4, none⟩ = some (.string ByteArray.empty) := by rw [blk_cell HB2]; rfl
            have c5 : w2.cell? ⟨w.heap.size, 5, none⟩ = some (.string ByteArray.empty) := by rw [blk_cell HB2]; rfl
            have c6 : w2.cell? ⟨w.heap.size, 6, none⟩ = some (.int .i64 n) := by rw [blk_cell HB2]; rfl
            have HG2 := Lib.hid ((HW.out _).step hw2)
            clear HB2 hw2
            go_wp2_with (go_at_call 60; (first | (with_reducible refine (valNameB H1.out _).mono ?_) | (with_reducible refine (valNameB H2.out _).mono ?_) | (with_reducible refine (valNameB H3.out _).mono ?_) | (with_reducible refine (valNameB H4.out _).mono ?_)); rintro e w3 ⟨rfl, rfl⟩)
            go_ret
            exact ⟨rfl, HG2.out⟩
        · skip
          have q3 : (to_.toList == ([] : List UInt8)) = false := (empty_beq to_).trans (decide_eq_false h3)
          have hF : F = false := by rw [← HF.out]; simp [formR, H1.out, *]
          subst hF
          clear HF
          go_enter Tryz.func39, Tryz.ntmps39
          go_wp2_with fail
          refine wp_region_grow (by kernel_rfl) (by kernel_rfl) ?_
          repeat (go_big_quiet_step (first | (go_at_call 60; with_reducible exact calls_gr (valNameG H1.out _)) | (go_at_call 60; with_reducible exact calls_gr (valNameG H2.out _))))
          refine wpQuiet_nil ?_
          intro w2 hw2
          have HB2 := HB.out _ w2 hw2
          have hbl := blk_lt HB2
          have c1 : w2.cell? ⟨w.heap.size, 1, none⟩ = some (.int .i64 4) := by rw [blk_cell HB2]; rfl
          have c3 : w2.cell? ⟨w.heap.size, 3, none⟩ = some (.string ByteArray.empty) := by rw [blk_cell HB2]; rfl
          have c4 : w2.cell? ⟨w.heap.size, 4, none⟩ = some (.string ByteArray.empty) := by rw [blk_cell HB2]; rfl
          have c5 : w2.cell? ⟨w.heap.size, 5, none⟩ = some (.string to_) := by rw [blk_cell HB2]; rfl
          have c6 : w2.cell? ⟨w.heap.size, 6, none⟩ = some (.int .i64 n) := by rw [blk_cell HB2]; rfl
          have HG2 := Lib.hid ((HW.out _).step hw2)
          clear HB2 hw2
          go_wp2_with (go_at_call 60; (first | (with_reducible refine (valNameB H1.out _).mono ?_) | (with_reducible refine (valNameB H2.out _).mono ?_) | (with_reducible refine (valNameB H3.out _).mono ?_) | (with_reducible refine (valNameB H4.out _).mono ?_)); rintro e w3 ⟨rfl, rfl⟩)
          go_ret
          exact ⟨rfl, HG2.out⟩
      · skip
        have q2 : (from_.toList == ([] : List UInt8)) = false := (empty_beq from_).trans (decide_eq_false h2)
        have hF : F = false := by rw [← HF.out]; simp [formR, H1.out, *]
        subst hF
        clear HF
        go_enter Tryz.func39, Tryz.ntmps39
        go_wp2_with fail
        refine wp_region_grow (by kernel_rfl) (by kernel_rfl) ?_
        repeat (go_big_quiet_step (first | (go_at_call 60; with_reducible exact calls_gr (valNameG H1.out _)) | (go_at_call 60; with_reducible exact calls_gr (valNameG H2.out _))))
        refine wpQuiet_nil ?_
        intro w2 hw2
        have HB2 := HB.out _ w2 hw2
        have hbl := blk_lt HB2
        have c1 : w2.cell? ⟨w.heap.size, 1, none⟩ = some (.int .i64 4) := by rw [blk_cell HB2]; rfl
        have c3 : w2.cell? ⟨w.heap.size, 3, none⟩ = some (.string ByteArray.empty) := by rw [blk_cell HB2]; rfl
        have c4 : w2.cell? ⟨w.heap.size, 4, none⟩ = some (.string from_) := by rw [blk_cell HB2]; rfl
        have c5 : w2.cell? ⟨w.heap.size, 5, none⟩ = some (.string to_) := by rw [blk_cell HB2]; rfl
        have c6 : w2.cell? ⟨w.heap.size, 6, none⟩ = some (.int .i64 n) := by rw [blk_cell HB2]; rfl
        have HG2 := Lib.hid ((HW.out _).step hw2)
        clear HB2 hw2
        go_wp2_with (go_at_call 60; (first | (with_reducible refine (valNameB H1.out _).mono ?_) | (with_reducible refine (valNameB H2.out _).mono ?_) | (with_reducible refine (valNameB H3.out _).mono ?_) | (with_reducible refine (valNameB H4.out _).mono ?_)); rintro e w3 ⟨rfl, rfl⟩)
        go_ret
        exact ⟨rfl, HG2.out⟩
    · skip
      have q1 : (name.toList == ([] : List UInt8)) = false := (empty_beq name).trans (decide_eq_false h1)
      have hF : F = false := by rw [← HF.out]; simp [formR, H1.out, *]
      subst hF
      clear HF
      go_enter Tryz.func39, Tryz.ntmps39
      go_wp2_with fail
      refine wp_region_grow (by kernel_rfl) (by kernel_rfl) ?_
      repeat (go_big_quiet_step (first | (go_at_call 60; with_reducible exact calls_gr (valNameG H1.out _)) | (go_at_call 60; with_reducible exact calls_gr (valNameG H2.out _))))
      refine wpQuiet_nil ?_
      intro w2 hw2
      have HB2 := HB.out _ w2 hw2
      have hbl := blk_lt HB2
      have c1 : w2.cell? ⟨w.heap.size, 1, none⟩ = some (.int .i64 4) := by rw [blk_cell HB2]; rfl
      have c3 : w2.cell? ⟨w.heap.size, 3, none⟩ = some (.string name) := by rw [blk_cell HB2]; rfl
      have c4 : w2.cell? ⟨w.heap.size, 4, none⟩ = some (.string from_) := by rw [blk_cell HB2]; rfl
      have c5 : w2.cell? ⟨w.heap.size, 5, none⟩ = some (.string to_) := by rw [blk_cell HB2]; rfl
      have c6 : w2.cell? ⟨w.heap.size, 6, none⟩ = some (.int .i64 n) := by rw [blk_cell HB2]; rfl
      have HG2 := Lib.hid ((HW.out _).step hw2)
      clear HB2 hw2
      go_wp2_with (go_at_call 60; (first | (with_reducible refine (valNameB H1.out _).mono ?_) | (with_reducible refine (valNameB H2.out _).mono ?_) | (with_reducible refine (valNameB H3.out _).mono ?_) | (with_reducible refine (valNameB H4.out _).mono ?_)); rintro e w3 ⟨rfl, rfl⟩)
      go_ret
      exact ⟨rfl, HG2.out⟩
set_option maxRecDepth 100000 in
set_option maxHeartbeats 2000000 in
theorem ruleForm0 (id kind : Int) (typ name from_ to_ : ByteArray) (n state : Int) (hk : kind ≠ 1 ∧ kind ≠ 2 ∧ kind ≠ 3 ∧ kind ≠ 4) (w : World) : Calls Tryz.prog 39 #[(PRule.mk id kind typ name from_ to_ n state).args] w fun e w' => e = .returned (.bool (formR ⟨id, kind, typ, name, from_, to_, n, state⟩)) ∧ Grow w w' := by
  have HW := Lib.hid (show ∀ o1, Grow w (w.alloc o1) from fun o1 => (Grow.rfl' w).allocd o1)
  have HB := Lib.hid (show ∀ o1 w', Grow (w.alloc o1) w' → w'.heap[w.heap.size]? = some o1 from fun o1 w' hg => by rw [hg.heapEq (by simp)]; exact heap_alloc_new w _)
  generalize hF : formR _ = F
  have HF := Lib.hid hF; clear hF
  obtain ⟨b1, hb1⟩ : ∃ b, decide (NameOk typ) = b := ⟨_, rfl⟩
  obtain ⟨b2, hb2⟩ : ∃ b, decide (NameOk name) = b := ⟨_, rfl⟩
  obtain ⟨b3, hb3⟩ : ∃ b, decide (NameOk from_) = b := ⟨_, rfl⟩
  obtain ⟨b4, hb4⟩ : ∃ b, decide (NameOk to_) = b := ⟨_, rfl⟩
  have H1 := Lib.hid hb1; have H2 := Lib.hid hb2; have H3 := Lib.hid hb3; have H4 := Lib.hid hb4
  clear hb1 hb2 hb3 hb4
  obtain ⟨k1, k2, k3, k4⟩ := hk
  have HK := Lib.hid (And.intro k1 (And.intro k2 (And.intro k3 k4)))
  have hF : F = false := by rw [← HF.out]; simp [formR, HK.out, *]
  subst hF
  clear HF
  go_enter Tryz.func39, Tryz.ntmps39
  go_wp2_with fail
  refine wp_region_grow (by kernel_rfl) (by kernel_rfl) ?_
  repeat (go_big_quiet_step (first | (go_at_call 60; with_reducible exact calls_gr (valNameG H1.out _)) | (go_at_call 60; with_reducible exact calls_gr (valNameG H2.out _))))
  refine wpQuiet_nil ?_
  intro w2 hw2
  have HB2 := HB.out _ w2 hw2
  have hbl := blk_lt HB2
  have c1 : w2.cell? ⟨w.heap.size, 1, none⟩ = some (.int .i64 kind) := by rw [blk_cell HB2]; rfl
  have c3 : w2.cell? ⟨w.heap.size, 3, none⟩ = some (.string name) := by rw [blk_cell HB2]; rfl
  have c4 : w2.cell? ⟨w.heap.size, 4, none⟩ = some (.string from_) := by rw [blk_cell HB2]; rfl
  have c5 : w2.cell? ⟨w.heap.size, 5, none⟩ = some (.string to_) := by rw [blk_cell HB2]; rfl
  have c6 : w2.cell? ⟨w.heap.size, 6, none⟩ = some (.int .i64 n) := by rw [blk_cell HB2]; rfl
  have HG2 := Lib.hid ((HW.out _).step hw2)
  clear HB2 hw2
  go_wp2_with (go_at_call 60; (first | (with_reducible refine (valNameB H1.out _).mono ?_) | (with_reducible refine (valNameB H2.out _).mono ?_) | (with_reducible refine (valNameB H3.out _).mono ?_) | (with_reducible refine (valNameB H4.out _).mono ?_)); rintro e w3 ⟨rfl, rfl⟩)
  go_ret
  exact ⟨rfl, HG2.out⟩
theorem ruleForm (r : PRule) (w : World) : Calls Tryz.prog 39 #[r.args] w fun e w' => e = .returned (.bool (formR r)) ∧ Grow w w' := by
  obtain ⟨id, kind, typ, name, from_, to_, n, state⟩ := r
  by_cases k1 : kind = 1
  · subst k1; exact ruleForm1 id typ name from_ to_ n state w
  by_cases k2 : kind = 2
  · subst k2; exact ruleForm2 id typ name from_ to_ n state w
  by_cases k3 : kind = 3
  · subst k3; exact ruleForm3 id typ name from_ to_ n state w
  by_cases k4 : kind = 4
  · subst k4; exact ruleForm4 id typ name from_ to_ n state w
  exact ruleForm0 id kind typ name from_ to_ n state ⟨k1, k2, k3, k4⟩ w

end Go.Hg

namespace Go.Hg
open Go.RowKit Go.Proofs

set_option maxRecDepth 100000 in
set_option maxHeartbeats 2000000 in
theorem refForm1 (id : Int) (typ name from_ to_ : ByteArray) (n state : Int) (w : World) : Calls Tryz.prog 11 #[(PRule.mk id 1 typ name from_ to_ n state).args] w fun e w' => e = .returned (.bool (formR ⟨id, 1, typ, name, from_, to_, n, state⟩)) ∧ Grow w w' := by
  have HW := Lib.hid (show ∀ o1, Grow w (w.alloc o1) from fun o1 => (Grow.rfl' w).allocd o1)
  have HB := Lib.hid (show ∀ o1 w', Grow (w.alloc o1) w' → w'.heap[w.heap.size]? = some o1 from fun o1 w' hg => by rw [hg.heapEq (by simp)]; exact heap_alloc_new w _)
  generalize hF : formR _ = F
  have HF := Lib.hid hF; clear hF
  obtain ⟨b1, hb1⟩ : ∃ b, decide (NameOk typ) = b := ⟨_, rfl⟩
  obtain ⟨b2, hb2⟩ : ∃ b, decide (NameOk name) = b := ⟨_, rfl⟩
  obtain ⟨b3, hb3⟩ : ∃ b, decide (NameOk from_) = b := ⟨_, rfl⟩
  obtain ⟨b4, hb4⟩ : ∃ b, decide (NameOk to_) = b := ⟨_, rfl⟩
  have H1 := Lib.hid hb1; have H2 := Lib.hid hb2; have H3 := Lib.hid hb3; have H4 := Lib.hid hb4
  clear hb1 hb2 hb3 hb4
  have HK := Lib.hid True.intro
  cases b1
  · skip
    have hF : F = false := by rw [← HF.out]; simp [formR, H1.out, *]
    subst hF
    clear HF
    go_enter Tryz.func11, Tryz.ntmps11
    go_wp2_with (go_at_call 38; (first | (with_reducible refine (refNameB H1.out _).mono ?_) | (with_reducible refine (refNameB H2.out _).mono ?_) | (with_reducible refine (refNameB H3.out _).mono ?_) | (with_reducible refine (refNameB H4.out _).mono ?_)); rintro e w3 ⟨rfl, rfl⟩)
    go_ret
    exact ⟨rfl, HW.out _⟩
  · skip
    cases b2
    · skip
      have hF : F = false := by rw [← HF.out]; simp [formR, H1.out, H2.out, *]
      subst hF
      clear HF
      go_enter Tryz.func11, Tryz.ntmps11
      go_wp2_with (go_at_call 38; (first | (with_reducible refine (refNameB H1.out _).mono ?_) | (with_reducible refine (refNameB H2.out _).mono ?_) | (with_reducible refine (refNameB H3.out _).mono ?_) | (with_reducible refine (refNameB H4.out _).mono ?_)); rintro e w3 ⟨rfl, rfl⟩)
      go_ret
      exact ⟨rfl, HW.out _⟩
    · skip
      by_cases h2 : from_ = ByteArray.empty
      · skip
        subst h2
        by_cases h3 : to_ = ByteArray.empty
        · skip
          subst h3
          by_cases h4 : n = 0
          · skip
            subst h4
            have hF : F = true := by rw [← HF.out]; simp [formR, H1.out, H2.out, *]
            subst hF
            clear HF
            go_enter Tryz.func11, Tryz.ntmps11
            go_wp2_with (go_at_call 38; (first | (with_reducible refine (refNameB H1.out _).mono ?_) | (with_reducible refine (refNameB H2.out _).mono ?_) | (with_reducible refine (refNameB H3.out _).mono ?_) | (with_reducible refine (refNameB H4.out _).mono ?_)); rintro e w3 ⟨rfl, rfl⟩)
            go_ret
            exact ⟨rfl, HW.out _⟩
          · skip
            have q4 : (n == 0) = false := by simpa using h4
            have hF : F = false := by rw [← HF.out]; simp [formR, H1.out, H2.out, *]
            subst hF
            clear HF
            go_enter Tryz.func11, Tryz.ntmps11
            go_wp2_with (go_at_call 38; (first | (with_reducible refine (refNameB H1.out _).mono ?_) | (with_reducible refine (refNameB H2.out _).mono ?_) | (with_reducible refine (refNameB H3.out _).mono ?_) | (with_reducible refine (refNameB H4.out _).mono ?_)); rintro e w3 ⟨rfl, rfl⟩)
            go_ret
            exact ⟨rfl, HW.out _⟩
        · skip
          have q3 : (to_.toList == ([] : List UInt8)) = false := (empty_beq to_).trans (decide_eq_false h3)
          have hF : F = false := by rw [← HF.out]; simp [formR, H1.out, H2.out, *]
          subst hF
          clear HF
          go_enter Tryz.func11, Tryz.ntmps11
          go_wp2_with (go_at_call 38; (first | (with_reducible refine (refNameB H1.out _).mono ?_) | (with_reducible refine (refNameB H2.out _).mono ?_) | (with_reducible refine (refNameB H3.out _).mono ?_) | (with_reducible refine (refNameB H4.out _).mono ?_)); rintro e w3 ⟨rfl, rfl⟩)
          go_ret
          exact ⟨rfl, HW.out _⟩
      · skip
        have q2 : (from_.toList == ([] : List UInt8)) = false := (empty_beq from_).trans (decide_eq_false h2)
        have hF : F = false := by rw [← HF.out]; simp [formR, H1.out, H2.out, *]
        subst hF
        clear HF
        go_enter Tryz.func11, Tryz.ntmps11
        go_wp2_with (go_at_call 38; (first | (with_reducible refine (refNameB H1.out _).mono ?_) | (with_reducible refine (refNameB H2.out _).mono ?_) | (with_reducible refine (refNameB H3.out _).mono ?_) | (with_reducible refine (refNameB H4.out _).mono ?_)); rintro e w3 ⟨rfl, rfl⟩)
        go_ret
        exact ⟨rfl, HW.out _⟩
set_option maxRecDepth 100000 in
set_option maxHeartbeats 2000000 in
theorem refForm2 (id : Int) (typ name from_ to_ : ByteArray) (n state : Int) (w : World) : Calls Tryz.prog 11 #[(PRule.mk id 2 typ name from_ to_ n state).args] w fun e w' => e = .returned (.bool (formR ⟨id, 2, typ, name, from_, to_, n, state⟩)) ∧ Grow w w' := by
  have HW := Lib.hid (show ∀ o1, Grow w (w.alloc o1) from fun o1 => (Grow.rfl' w).allocd o1)
  have HB := Lib.hid (show ∀ o1 w', Grow (w.alloc o1) w' → w'.heap[w.heap.size]? = some o1 from fun o1 w' hg => by rw [hg.heapEq (by simp)]; exact heap_alloc_new w _)
  generalize hF : formR _ = F
  have HF := Lib.hid hF; clear hF
  obtain ⟨b1, hb1⟩ : ∃ b, decide (NameOk typ) = b := ⟨_, rfl⟩
  obtain ⟨b2, hb2⟩ : ∃ b, decide (NameOk name) = b := ⟨_, rfl⟩
  obtain ⟨b3, hb3⟩ : ∃ b, decide (NameOk from_) = b := ⟨_, rfl⟩
  obtain ⟨b4, hb4⟩ : ∃ b, decide (NameOk to_) = b := ⟨_, rfl⟩
  have H1 := Lib.hid hb1; have H2 := Lib.hid hb2; have H3 := Lib.hid hb3; have H4 := Lib.hid hb4
  clear hb1 hb2 hb3 hb4
  have HK := Lib.hid True.intro
  cases b1
  · skip
    have hF : F = false := by rw [← HF.out]; simp [formR, H1.out, *]
    subst hF
    clear HF
    go_enter Tryz.func11, Tryz.ntmps11
    go_wp2_with (go_at_call 38; (first | (with_reducible refine (refNameB H1.out _).mono ?_) | (with_reducible refine (refNameB H2.out _).mono ?_) | (with_reducible refine (refNameB H3.out _).mono ?_) | (with_reducible refine (refNameB H4.out _).mono ?_)); rintro e w3 ⟨rfl, rfl⟩)
    go_ret
    exact ⟨rfl, HW.out _⟩
  · skip
    cases b2
    · skip
      have hF : F = false := by rw [← HF.out]; simp [formR, H1.out, H2.out, *]
      subst hF
      clear HF
      go_enter Tryz.func11, Tryz.ntmps11
      go_wp2_with (go_at_call 38; (first | (with_reducible refine (refNameB H1.out _).mono ?_) | (with_reducible refine (refNameB H2.out _).mono ?_) | (with_reducible refine (refNameB H3.out _).mono ?_) | (with_reducible refine (refNameB H4.out _).mono ?_)); rintro e w3 ⟨rfl, rfl⟩)
      go_ret
      exact ⟨rfl, HW.out _⟩
    · skip
      by_cases h2 : from_ = ByteArray.empty
      · skip
        subst h2
        by_cases h3 : to_ = ByteArray.empty
        · skip
          subst h3
          by_cases h4 : n = 0
          · skip
            subst h4
            have hF : F = true := by rw [← HF.out]; simp [formR, H1.out, H2.out, *]
            subst hF
            clear HF
            go_enter Tryz.func11, Tryz.ntmps11
            go_wp2_with (go_at_call 38; (first | (with_reducible refine (refNameB H1.out _).mono ?_) | (with_reducible refine (refNameB H2.out _).mono ?_) | (with_reducible refine (refNameB H3.out _).mono ?_) | (with_reducible refine (refNameB H4.out _).mono ?_)); rintro e w3 ⟨rfl, rfl⟩)
            go_ret
            exact ⟨rfl, HW.out _⟩
          · skip
            have q4 : (n == 0) = false := by simpa using h4
            have hF : F = false := by rw [← HF.out]; simp [formR, H1.out, H2.out, *]
            subst hF
            clear HF
            go_enter Tryz.func11, Tryz.ntmps11
            go_wp2_with (go_at_call 38; (first | (with_reducible refine (refNameB H1.out _).mono ?_) | (with_reducible refine (refNameB H2.out _).mono ?_) | (with_reducible refine (refNameB H3.out _).mono ?_) | (with_reducible refine (refNameB H4.out _).mono ?_)); rintro e w3 ⟨rfl, rfl⟩)
            go_ret
            exact ⟨rfl, HW.out _⟩
        · skip
          have q3 : (to_.toList == ([] : List UInt8)) = false := (empty_beq to_).trans (decide_eq_false h3)
          have hF : F = false := by rw [← HF.out]; simp [formR, H1.out, H2.out, *]
          subst hF
          clear HF
          go_enter Tryz.func11, Tryz.ntmps11
          go_wp2_with (go_at_call 38; (first | (with_reducible refine (refNameB H1.out _).mono ?_) | (with_reducible refine (refNameB H2.out _).mono ?_) | (with_reducible refine (refNameB H3.out _).mono ?_) | (with_reducible refine (refNameB H4.out _).mono ?_)); rintro e w3 ⟨rfl, rfl⟩)
          go_ret
          exact ⟨rfl, HW.out _⟩
      · skip
        have q2 : (from_.toList == ([] : List UInt8)) = false := (empty_beq from_).trans (decide_eq_false h2)
        have hF : F = false := by rw [← HF.out]; simp [formR, H1.out, H2.out, *]
        subst hF
        clear HF
        go_enter Tryz.func11, Tryz.ntmps11
        go_wp2_with (go_at_call 38; (first | (with_reducible refine (refNameB H1.out _).mono ?_) | (with_reducible refine (refNameB H2.out _).mono ?_) | (with_reducible refine (refNameB H3.out _).mono ?_) | (with_reducible refine (refNameB H4.out _).mono ?_)); rintro e w3 ⟨rfl, rfl⟩)
        go_ret
        exact ⟨rfl, HW.out _⟩
set_option maxRecDepth 100000 in
set_option maxHeartbeats 2000000 in
theorem refForm3 (id : Int) (typ name from_ to_ : ByteArray) (n state : Int) (w : World) : Calls Tryz.prog 11 #[(PRule.mk id 3 typ name from_ to_ n state).args] w fun e w' => e = .returned (.bool (formR ⟨id, 3, typ, name, from_, to_, n, state⟩)) ∧ Grow w w' := by
  have HW := Lib.hid (show ∀ o1, Grow w (w.alloc o1) from fun o1 => (Grow.rfl' w).allocd o1)
  have HB := Lib.hid (show ∀ o1 w', Grow (w.alloc o1) w' → w'.heap[w.heap.size]? = some o1 from fun o1 w' hg => by rw [hg.heapEq (by simp)]; exact heap_alloc_new w _)
  generalize hF : formR _ = F
  have HF := Lib.hid hF; clear hF
  obtain ⟨b1, hb1⟩ : ∃ b, decide (NameOk typ) = b := ⟨_, rfl⟩
  obtain ⟨b2, hb2⟩ : ∃ b, decide (NameOk name) = b := ⟨_, rfl⟩
  obtain ⟨b3, hb3⟩ : ∃ b, decide (NameOk from_) = b := ⟨_, rfl⟩
  obtain ⟨b4, hb4⟩ : ∃ b, decide (NameOk to_) = b := ⟨_, rfl⟩
  have H1 := Lib.hid hb1; have H2 := Lib.hid hb2; have H3 := Lib.hid hb3; have H4 := Lib.hid hb4
  clear hb1 hb2 hb3 hb4
  have HK := Lib.hid True.intro
  cases b1
  · skip
    have hF : F = false := by rw [← HF.out]; simp [formR, H1.out, *]
    subst hF
    clear HF
    go_enter Tryz.func11, Tryz.ntmps11
    go_wp2_with (go_at_call 38; (first | (with_reducible refine (refNameB H1.out _).mono ?_) | (with_reducible refine (refNameB H2.out _).mono ?_) | (with_reducible refine (refNameB H3.out _).mono ?_) | (with_reducible refine (refNameB H4.out _).mono ?_)); rintro e w3 ⟨rfl, rfl⟩)
    go_ret
    exact ⟨rfl, HW.out _⟩
  · skip
    by_cases h1 : name = ByteArray.empty
    · skip
      subst h1
      cases b3
      · skip
        have hF : F = false := by rw [← HF.out]; simp [formR, H1.out, H3.out, *]
        subst hF
        clear HF
        go_enter Tryz.func11, Tryz.ntmps11
        go_wp2_with (go_at_call 38; (first | (with_reducible refine (refNameB H1.out _).mono ?_) | (with_reducible refine (refNameB H2.out _).mono ?_) | (with_reducible refine (refNameB H3.out _).mono ?_) | (with_reducible refine (refNameB H4.out _).mono ?_)); rintro e w3 ⟨rfl, rfl⟩)
        go_ret
        exact ⟨rfl, HW.out _⟩
      · skip
        cases b4
        · skip
          have hF : F = false := by rw [← HF.out]; simp [formR, H1.out, H3.out, H4.out, *]
          subst hF
          clear HF
          go_enter Tryz.func11, Tryz.ntmps11
          go_wp2_with (go_at_call 38; (first | (with_reducible refine (refNameB H1.out _).mono ?_) | (with_reducible refine (refNameB H2.out _).mono ?_) | (with_reducible refine (refNameB H3.out _).mono ?_) | (with_reducible refine (refNameB H4.out _).mono ?_)); rintro e w3 ⟨rfl, rfl⟩)
          go_ret
          exact ⟨rfl, HW.out _⟩
        · skip
          by_cases h4 : n = 0
          · skip
            subst h4
            have hF : F = true := by rw [← HF.out]; simp [formR, H1.out, H3.out, H4.out, *]
            subst hF
            clear HF
            go_enter Tryz.func11, Tryz.ntmps11
            go_wp2_with (go_at_call 38; (first | (with_reducible refine (refNameB H1.out _).mono ?_) | (with_reducible refine (refNameB H2.out _).mono ?_) | (with_reducible refine (refNameB H3.out _).mono ?_) | (with_reducible refine (refNameB H4.out _).mono ?_)); rintro e w3 ⟨rfl, rfl⟩)
            go_ret
            exact ⟨rfl, HW.out _⟩
          · skip
            have q4 : (n == 0) = false := by simpa using h4
            have hF : F = false := by rw [← HF.out]; simp [formR, H1.out, H3.out, H4.out, *]
            subst hF
            clear HF
            go_enter Tryz.func11, Tryz.ntmps11
            go_wp2_with (go_at_call 38; (first | (with_reducible refine (refNameB H1.out _).mono ?_) | (with_reducible refine (refNameB H2.out _).mono ?_) | (with_reducible refine (refNameB H3.out _).mono ?_) | (with_reducible refine (refNameB H4.out _).mono ?_)); rintro e w3 ⟨rfl, rfl⟩)
            go_ret
            exact ⟨rfl, HW.out _⟩
    · skip
      have q1 : (name.toList == ([] : List UInt8)) = false := (empty_beq name).trans (decide_eq_false h1)
      have hF : F = false := by rw [← HF.out]; simp [formR, H1.out, *]
      subst hF
      clear HF
      go_enter Tryz.func11, Tryz.ntmps11
      go_wp2_with (go_at_call 38; (first | (with_reducible refine (refNameB H1.out _).mono ?_) | (with_reducible refine (refNameB H2.out _).mono ?_) | (with_reducible refine (refNameB H3.out _).mono ?_) | (with_reducible refine (refNameB H4.out _).mono ?_)); rintro e w3 ⟨rfl, rfl⟩)
      go_ret
      exact ⟨rfl, HW.out _⟩
set_option maxRecDepth 100000 in
set_option maxHeartbeats 2000000 in
theorem refForm4 (id : Int) (typ name from_ to_ : ByteArray) (n state : Int) (w : World) : Calls Tryz.prog 11 #[(PRule.mk id 4 typ name from_ to_ n state).args] w fun e w' => e = .returned (.bool (formR ⟨id, 4, typ, name, from_, to_, n, state⟩)) ∧ Grow w w' := by
  have HW := Lib.hid (show ∀ o1, Grow w (w.alloc o1) from fun o1 => (Grow.rfl' w).allocd o1)
  have HB := Lib.hid (show ∀ o1 w', Grow (w.alloc o1) w' → w'.heap[w.heap.size]? = some o1 from fun o1 w' hg => by rw [hg.heapEq (by simp)]; exact heap_alloc_new w _)
  generalize hF : formR _ = F
  have HF := Lib.hid hF; clear hF
  obtain ⟨b1, hb1⟩ : ∃ b, decide (NameOk typ) = b := ⟨_, rfl⟩
  obtain ⟨b2, hb2⟩ : ∃ b, decide (NameOk name) = b := ⟨_, rfl⟩
  obtain ⟨b3, hb3⟩ : ∃ b, decide (NameOk from_) = b := ⟨_, rfl⟩
  obtain ⟨b4, hb4⟩ : ∃ b, decide (NameOk to_) = b := ⟨_, rfl⟩
  have H1 := Lib.hid hb1; have H2 := Lib.hid hb2; have H3 := Lib.hid hb3; have H4 := Lib.hid hb4
  clear hb1 hb2 hb3 hb4
  have HK := Lib.hid True.intro
  cases b1
  · skip
    have hF : F = false := by rw [← HF.out]; simp [formR, H1.out, *]
    subst hF
    clear HF
    go_enter Tryz.func11, Tryz.ntmps11
    go_wp2_with (go_at_call 38; (first | (with_reducible refine (refNameB H1.out _).mono ?_) | (with_reducible refine (refNameB H2.out _).mono ?_) | (with_reducible refine (refNameB H3.out _).mono ?_) | (with_reducible refine (refNameB H4.out _).mono ?_)); rintro e w3 ⟨rfl, rfl⟩)
    go_ret
    exact ⟨rfl, HW.out _⟩
  · skip
    by_cases h1 : name = ByteArray.empty
    · skip
      subst h1
      by_cases h2 : from_ = ByteArray.empty
      · skip
        subst h2
        by_cases h3 : to_ = ByteArray.empty
        · skip
          subst h3
          by_cases h4 : 0 ≤ n
          · skip
            have q4 : decide (0 ≤ n) = true := by simpa using h4
            by_cases h5 : n ≤ 1024
            · skip
              have q5 : decide (n ≤ 1024) = true := by simpa using h5
              have hF : F = true := by rw [← HF.out]; simp [formR, H1.out, *]
              subst hF
              clear HF
              go_enter Tryz.func11, Tryz.ntmps11
              go_wp2_with (go_at_call 38; (first | (with_reducible refine (refNameB H1.out _).mono ?_) | (with_reducible refine (refNameB H2.out _).mono ?_) | (with_reducible refine (refNameB H3.out _).mono ?_) | (with_reducible refine (refNameB H4.out _).mono ?_)); rintro e w3 ⟨rfl, rfl⟩)
              go_ret
              exact ⟨rfl, HW.out _⟩
            · skip
              have q5 : decide (n ≤ 1024) = false := by simpa using h5
              have hF : F = false := by rw [← HF.out]; simp [formR, H1.out, *]
              subst hF
              clear HF
              go_enter Tryz.func11, Tryz.ntmps11
              go_wp2_with (go_at_call 38; (first | (with_reducible refine (refNameB H1.out _).mono ?_) | (with_reducible refine (refNameB H2.out _).mono ?_) | (with_reducible refine (refNameB H3.out _).mono ?_) | (with_reducible refine (refNameB H4.out _).mono ?_)); rintro e w3 ⟨rfl, rfl⟩)
              go_ret
              exact ⟨rfl, HW.out _⟩
          · skip
            have q4 : decide (0 ≤ n) = false := by simpa using h4
            have hF : F = false := by rw [← HF.out]; simp [formR, H1.out, *]
            subst hF
            clear HF
            go_enter Tryz.func11, Tryz.ntmps11
            go_wp2_with (go_at_call 38; (first | (with_reducible refine (refNameB H1.out _).mono ?_) | (with_reducible refine (refNameB H2.out _).mono ?_) | (with_reducible refine (refNameB H3.out _).mono ?_) | (with_reducible refine (refNameB H4.out _).mono ?_)); rintro e w3 ⟨rfl, rfl⟩)
            go_ret
            exact ⟨rfl, HW.out _⟩
        · skip
          have q3 : (to_.toList == ([] : List UInt8)) = false := (empty_beq to_).trans (decide_eq_false h3)
          have hF : F = false := by rw [← HF.out]; simp [formR, H1.out, *]
          subst hF
          clear HF
          go_enter Tryz.func11, Tryz.ntmps11
          go_wp2_with (go_at_call 38; (first | (with_reducible refine (refNameB H1.out _).mono ?_) | (with_reducible refine (refNameB H2.out _).mono ?_) | (with_reducible refine (refNameB H3.out _).mono ?_) | (with_reducible refine (refNameB H4.out _).mono ?_)); rintro e w3 ⟨rfl, rfl⟩)
          go_ret
          exact ⟨rfl, HW.out _⟩
      · skip
        have q2 : (from_.toList == ([] : List UInt8)) = false := (empty_beq from_).trans (decide_eq_false h2)
        have hF : F = false := by rw [← HF.out]; simp [formR, H1.out, *]
        subst hF
        clear HF
        go_enter Tryz.func11, Tryz.ntmps11
        go_wp2_with (go_at_call 38; (first | (with_reducible refine (refNameB H1.out _).mono ?_) | (with_reducible refine (refNameB H2.out _).mono ?_) | (with_reducible refine (refNameB H3.out _).mono ?_) | (with_reducible refine (refNameB H4.out _).mono ?_)); rintro e w3 ⟨rfl, rfl⟩)
        go_ret
        exact ⟨rfl, HW.out _⟩
    · skip
      have q1 : (name.toList == ([] : List UInt8)) = false := (empty_beq name).trans (decide_eq_false h1)
      have hF : F = false := by rw [← HF.out]; simp [formR, H1.out, *]
      subst hF
      clear HF
      go_enter Tryz.func11, Tryz.ntmps11
      go_wp2_with (go_at_call 38; (first | (with_reducible refine (refNameB H1.out _).mono ?_) | (with_reducible refine (refNameB H2.out _).mono ?_) | (with_reducible refine (refNameB H3.out _).mono ?_) | (with_reducible refine (refNameB H4.out _).mono ?_)); rintro e w3 ⟨rfl, rfl⟩)
      go_ret
      exact ⟨rfl, HW.out _⟩
set_option maxRecDepth 100000 in
set_option maxHeartbeats 2000000 in
theorem refForm0 (id kind : Int) (typ name from_ to_ : ByteArray) (n state : Int) (hk : kind ≠ 1 ∧ kind ≠ 2 ∧ kind ≠ 3 ∧ kind ≠ 4) (w : World) : Calls Tryz.prog 11 #[(PRule.mk id kind typ name from_ to_ n state).args] w fun e w' => e = .returned (.bool (formR ⟨id, kind, typ, name, from_, to_, n, state⟩)) ∧ Grow w w' := by
  have HW := Lib.hid (show ∀ o1, Grow w (w.alloc o1) from fun o1 => (Grow.rfl' w).allocd o1)
  have HB := Lib.hid (show ∀ o1 w', Grow (w.alloc o1) w' → w'.heap[w.heap.size]? = some o1 from fun o1 w' hg => by rw [hg.heapEq (by simp)]; exact heap_alloc_new w _)
  generalize hF : formR _ = F
  have HF := Lib.hid hF; clear hF
  obtain ⟨b1, hb1⟩ : ∃ b, decide (NameOk typ) = b := ⟨_, rfl⟩
  obtain ⟨b2, hb2⟩ : ∃ b, decide (NameOk name) = b := ⟨_, rfl⟩
  obtain ⟨b3, hb3⟩ : ∃ b, decide (NameOk from_) = b := ⟨_, rfl⟩
  obtain ⟨b4, hb4⟩ : ∃ b, decide (NameOk to_) = b := ⟨_, rfl⟩
  have H1 := Lib.hid hb1; have H2 := Lib.hid hb2; have H3 := Lib.hid hb3; have H4 := Lib.hid hb4
  clear hb1 hb2 hb3 hb4
  obtain ⟨k1, k2, k3, k4⟩ := hk
  have HK := Lib.hid (And.intro k1 (And.intro k2 (And.intro k3 k4)))
  cases b1
  · skip
    have hF : F = false := by rw [← HF.out]; simp [formR, HK.out, H1.out, *]
    subst hF
    clear HF
    go_enter Tryz.func11, Tryz.ntmps11
    go_wp2_with (go_at_call 38; (first | (with_reducible refine (refNameB H1.out _).mono ?_) | (with_reducible refine (refNameB H2.out _).mono ?_) | (with_reducible refine (refNameB H3.out _).mono ?_) | (with_reducible refine (refNameB H4.out _).mono ?_)); rintro e w3 ⟨rfl, rfl⟩)
    go_ret
    exact ⟨rfl, HW.out _⟩
  · skip
    have hF : F = false := by rw [← HF.out]; simp [formR, HK.out, H1.out, *]
    subst hF
    clear HF
    go_enter Tryz.func11, Tryz.ntmps11
    go_wp2_with (go_at_call 38; (first | (with_reducible refine (refNameB H1.out _).mono ?_) | (with_reducible refine (refNameB H2.out _).mono ?_) | (with_reducible refine (refNameB H3.out _).mono ?_) | (with_reducible refine (refNameB H4.out _).mono ?_)); rintro e w3 ⟨rfl, rfl⟩)
    go_ret
    exact ⟨rfl, HW.out _⟩
theorem refForm (r : PRule) (w : World) : Calls Tryz.prog 11 #[r.args] w fun e w' => e = .returned (.bool (formR r)) ∧ Grow w w' := by
  obtain ⟨id, kind, typ, name, from_, to_, n, state⟩ := r
  by_cases k1 : kind = 1
  · subst k1; exact refForm1 id typ name from_ to_ n state w
  by_cases k2 : kind = 2
  · subst k2; exact refForm2 id typ name from_ to_ n state w
  by_cases k3 : kind = 3
  · subst k3; exact refForm3 id typ name from_ to_ n state w
  by_cases k4 : kind = 4
  · subst k4; exact refForm4 id typ name from_ to_ n state w
  exact refForm0 id kind typ name from_ to_ n state ⟨k1, k2, k3, k4⟩ w

end Go.Hg

namespace Go.Hg
open Go.RowKit Go.Proofs

structure PJob where
  r : PRule
  chunk : Int
  pos : Int
  tch : List Int
def tchF (l : List Int) : Int → Option Value := fun k => if k ∈ l then some (.int .i64 1) else none
def JobInv (J : PJob) : Prop := 1 ≤ J.chunk ∧ J.chunk ≤ 1024 ∧ 1 ≤ J.pos ∧ J.pos ≤ 4611686018427387904 ∧ J.tch.Pairwise (· < ·) ∧ J.tch.length ≤ 4096 ∧ (∀ x ∈ J.tch, (Lit.int .i64 x).wf = true)
abbrev jobCells (J : PJob) (cb mb : Nat) : Array Value := #[.int .i64 J.r.id, .int .i64 J.r.kind, .string J.r.typ, .string J.r.name, .string J.r.from_, .string J.r.to_, .int .i64 J.r.n, .int .i64 J.r.state, .int .i64 J.chunk, .int .i64 J.pos, .chan (some cb), .map (some mb)]
def JobOk (S : Nat → Prop) (w : World) (B : Nat) (J : PJob) : Prop :=
  ∃ cb mb s r tm, S B ∧ S cb ∧ S mb ∧ B ≠ cb ∧ B ≠ mb ∧ cb ≠ mb ∧ w.heap[B]? = some (.cells (jobCells J cb mb) 88 (0, 0)) ∧ w.heap[cb]? = some (.chan 4097 #[] false s r tm) ∧ MapI w mb (tchF J.tch) 4096
theorem JobOk.grow {S : Nat → Prop} {w w' : World} {B : Nat} {J : PJob} (h : JobOk S w B J) (g : Grow w w') : JobOk S w' B J := by
  obtain ⟨cb, mb, s, r, tm, h1, h2, h3, h4, h5, h6, h7, h8, h9⟩ := h
  exact ⟨cb, mb, s, r, tm, h1, h2, h3, h4, h5, h6, (g.heapEq (blk_lt h7)).trans h7, (g.heapEq (blk_lt h8)).trans h8, h9.grow g⟩
theorem JobOk.keep {S F : Nat → Prop} {w w' : World} {B : Nat} {J : PJob} (h : JobOk S w B J) (g : Mod F w w') (hd : ∀ b, S b → ¬ F b) : JobOk S w' B J := by
  obtain ⟨cb, mb, s, r, tm, h1, h2, h3, h4, h5, h6, h7, h8, h9⟩ := h
  exact ⟨cb, mb, s, r, tm, h1, h2, h3, h4, h5, h6, (g.block B (blk_lt h7) (hd B h1)).trans h7, (g.block cb (blk_lt h8) (hd cb h2)).trans h8, h9.mod g (hd mb h3)⟩
theorem tchF_nil : tchF [] = fun _ => none := by funext k; simp [tchF]
theorem tchF_some (l : List Int) (k : Int) : (tchF l k).isSome = true ↔ k ∈ l := by unfold tchF; split <;> simp [*]

def newE (r : PRule) (chunk : Int) : Int := if formR r = false then 11 else if chunk < 1 ∨ 1024 < chunk then 1 else 0

abbrev RuleB (w : World) (b : Nat) (r : PRule) : Prop := w.cell? ⟨b, 0, none⟩ = some (.int .i64 r.id) ∧ w.cell? ⟨b, 1, none⟩ = some (.int .i64 r.kind) ∧ w.cell? ⟨b, 2, none⟩ = some (.string r.typ) ∧ w.cell? ⟨b, 3, none⟩ = some (.string r.name) ∧ w.cell? ⟨b, 4, none⟩ = some (.string r.from_) ∧ w.cell? ⟨b, 5, none⟩ = some (.string r.to_) ∧ w.cell? ⟨b, 6, none⟩ = some (.int .i64 r.n) ∧ w.cell? ⟨b, 7, none⟩ = some (.int .i64 r.state)
def ruleRow (r : PRule) : List Value := [.int .i64 r.id, .int .i64 r.kind, .string r.typ, .string r.name, .string r.from_, .string r.to_, .int .i64 r.n, .int .i64 r.state]
theorem ruleB_of {w : World} {b : Nat} {r : PRule} {T : TypeId} {rest : List Value} (h : w.heap[b]? = some (.cells (ruleRow r ++ rest).toArray T (0, 0))) : RuleB w b r := by
  refine ⟨?_, ?_, ?_, ?_, ?_, ?_, ?_, ?_⟩ <;> simp [World.cell?, h, ruleRow]
theorem at3 (W : World) (o1 o2 o3 : Obj) : (((W.alloc o1).alloc o2).alloc o3).heap[W.heap.size]? = some o1 ∧ (((W.alloc o1).alloc o2).alloc o3).heap[W.heap.size + 1]? = some o2 ∧ (((W.alloc o1).alloc o2).alloc o3).heap[W.heap.size + 1 + 1]? = some o3 := by
  have h3 := heap_alloc_new ((W.alloc o1).alloc o2) o3
  rw [World.size_alloc, World.size_alloc] at h3
  have h2 := heap_alloc_new (W.alloc o1) o2
  rw [World.size_alloc] at h2
  refine ⟨?_, ?_, h3⟩
  · rw [(((Grow.rfl' _).allocd o2).allocd o3 : Grow (W.alloc o1) _).heapEq (by simp)]
    exact heap_alloc_new W o1
  · rw [((Grow.rfl' _).allocd o3 : Grow ((W.alloc o1).alloc o2) _).heapEq (by simp)]
    exact h2
theorem jobMkA (w1 W : World) (n : Nat) (hn : n ≤ w1.heap.size) (r : PRule) (chunk : Int)
    (hW : W.heap = (((w1.alloc (.chan 4097 #[] false 0 0 false)).alloc (.map #[] 0)).alloc (.cells (jobCells ⟨r, chunk, 1, []⟩ w1.heap.size (w1.heap.size + 1)) 88)).heap) :
    JobOk (fun b => n ≤ b) W (w1.heap.size + 1 + 1) ⟨r, chunk, 1, []⟩ := by
  obtain ⟨h1, h2, h3⟩ := at3 w1 (.chan 4097 #[] false 0 0 false) (.map #[] 0) (.cells (jobCells ⟨r, chunk, 1, []⟩ w1.heap.size (w1.heap.size + 1)) 88)
  rw [← hW] at h1 h2 h3
  exact ⟨_, _, 0, 0, false, by simp; omega, by simp; omega, by simp; omega, by omega, by omega, by omega, h3, h1, by rw [tchF_nil]; exact (⟨#[], 0, h2, MapKept.stamped_empty 0, by simp, by simp, by simp⟩ : MapI W _ (fun _ => none) 4096)⟩
theorem jobMkB (w1 W : World) (n : Nat) (hn : n ≤ w1.heap.size) (r : PRule) (chunk : Int)
    (hW : W.heap = (((w1.alloc (.map #[] 0)).alloc (.chan 4097 #[] false 0 0 false)).alloc (.cells (jobCells ⟨r, chunk, 1, []⟩ (w1.heap.size + 1) w1.heap.size) 88)).heap) :
    JobOk (fun b => n ≤ b) W (w1.heap.size + 1 + 1) ⟨r, chunk, 1, []⟩ := by
  obtain ⟨h1, h2, h3⟩ := at3 w1 (.map #[] 0) (.chan 4097 #[] false 0 0 false) (.cells (jobCells ⟨r, chunk, 1, []⟩ (w1.heap.size + 1) w1.heap.size) 88)
  rw [← hW] at h1 h2 h3
  exact ⟨_, _, 0, 0, false, by simp; omega, by simp; omega, by simp; omega, by omega, by omega, by omega, h3, h2, by rw [tchF_nil]; exact (⟨#[], 0, h1, MapKept.stamped_empty 0, by simp, by simp, by simp⟩ : MapI W _ (fun _ => none) 4096)⟩
theorem jobB_of {w : World} {B cb mb : Nat} {J : PJob} {T : TypeId} (h : w.heap[B]? = some (.cells (jobCells J cb mb) T (0, 0))) :
    RuleB w B J.r ∧ w.cell? ⟨B, 8, none⟩ = some (.int .i64 J.chunk) ∧ w.cell? ⟨B, 9, none⟩ = some (.int .i64 J.pos) ∧ w.cell? ⟨B, 10, none⟩ = some (.chan (some cb)) ∧ w.cell? ⟨B, 11, none⟩ = some (.map (some mb)) :=
  ⟨ruleB_of (rest := [.int .i64 J.chunk, .int .i64 J.pos, .chan (some cb), .map (some mb)]) h, by simp [World.cell?, h], by simp [World.cell?, h], by simp [World.cell?, h], by simp [World.cell?, h]⟩
theorem jobSetPos {w : World} {B cb mb : Nat} {J : PJob} {T : TypeId} (h : w.heap[B]? = some (.cells (jobCells J cb mb) T (0, 0))) (z : Int) :
    (w.setCell ⟨B, 9, none⟩ (.int .i64 z)).heap[B]? = some (.cells (jobCells { J with pos := z } cb mb) T (0, 0)) ∧ Mod (fun b => b = B) w (w.setCell ⟨B, 9, none⟩ (.int .i64 z)) :=
  ⟨by rw [heap_setCell_same w B 9 _ T _ h]; rfl, (Mod.rfl' (fun b => b = B) w).setd (p := ⟨B, 9, none⟩) (.inl rfl) _⟩
theorem jobFroz {w : World} {B cb mb : Nat} {J : PJob} {T : TypeId} (h : w.heap[B]? = some (.cells (jobCells J cb mb) T (0, 0))) (i : Nat) : w.frozen? ⟨B, i, none⟩ = false := by simp [World.frozen?, h]
def NewPost (T : TypeId) (w : World) (r : PRule) (chunk : Int) (e : Ending) (w' : World) : Prop :=
  Grow w w' ∧ ((newE r chunk ≠ 0 ∧ e = .returned (.tuple #[.pointer none, .int .i64 (newE r chunk)])) ∨ (newE r chunk = 0 ∧ ∃ B, e = .returned (.tuple #[.pointer (some ⟨B, 0, none⟩), .int .i64 0]) ∧ JobOk (fun b => w.heap.size ≤ b) w' B ⟨r, chunk, 1, []⟩))

set_option maxRecDepth 100000 in
set_option maxHeartbeats 2000000 in
theorem buildNew (r : PRule) (chunk : Int) (w : World) : Calls Tryz.prog 13 #[r.args, .int .i64 chunk] w (NewPost 0 w r chunk) := by
  have HW := Lib.hid (show ∀ o1, Grow w (w.alloc o1) from fun o1 => (Grow.rfl' w).allocd o1)
  have HC := Lib.hid (show ∀ w', Grow (w.alloc (.cells #[.int .i64 r.id, .int .i64 r.kind, .string r.typ, .string r.name, .string r.from_, .string r.to_, .int .i64 r.n, .int .i64 r.state] 23)) w' → w'.heap[w.heap.size]? = some (.cells #[.int .i64 r.id, .int .i64 r.kind, .string r.typ, .string r.name, .string r.from_, .string r.to_, .int .i64 r.n, .int .i64 r.state] 23) from fun w' g => by rw [g.heapEq (by simp)]; exact heap_alloc_new w _)
  have hmm := @run_makeMap Tryz.prog
  have hmc : ∀ W : World, (Instr.makeChan 85 (.int .i64 4097)).run Tryz.prog W = .ok (.chan (some W.heap.size)) (W.alloc (.chan 4097 #[] false 0 0 false)) := fun W => Go.Conc.run_makeChan Tryz.underlying85 rfl .i64 4097 (by decide) (by decide)
  go_enter Tryz.func13, Tryz.ntmps13
  go_wp2_with fail
  refine (ruleForm r _).mono ?_
  rintro e w1 ⟨rfl, g1⟩
  have HG1 := Lib.hid g1; have HG01 := Lib.hid ((HW.out _).step g1)
  have HC1 := Lib.hid (HC.out w1 g1)
  obtain ⟨fr, hfr⟩ : ∃ fr, formR r = fr := ⟨_, rfl⟩
  rw [hfr]
  have HF := Lib.hid hfr
  clear g1 hfr
  cases fr
  · go_wp2
    go_ret2
    exact ⟨HG01.out, .inl (by have hE : newE r chunk = 11 := (by unfold newE; rw [HF.out]; rfl); rw [hE]; exact ⟨by decide, rfl⟩)⟩
  · by_cases h1 : chunk < 1
    · have HE := Lib.hid (show newE r chunk = 1 by unfold newE; rw [HF.out]; simp [h1])
      go_wp2
      go_ret2
      exact ⟨HG01.out, .inl (by rw [HE.out]; exact ⟨by decide, rfl⟩)⟩
    · by_cases h2 : 1024 < chunk
      · have HE := Lib.hid (show newE r chunk = 1 by unfold newE; rw [HF.out]; simp [h2])
        go_wp2
        go_ret2
        exact ⟨HG01.out, .inl (by rw [HE.out]; exact ⟨by decide, rfl⟩)⟩
      · have HE := Lib.hid (show newE r chunk = 0 by unfold newE; rw [HF.out]; simp; omega)
        have hb := HC1.out
        have hbl := blk_lt hb
        go_wp2
        have HS := Lib.hid (show ∀ w', Grow w1 w' → RuleB w' w.heap.size r from fun w' g => ruleB_of (rest := []) ((g.heapEq hbl).trans hb))
        clear hb hbl
        go_region_held3 (fun w' => RuleB w' w.heap.size r) (exact HS.out _ (by repeat first | exact Grow.rfl' _ | apply Grow.drewd | apply Grow.allocd)) (fail)
        all_goals go_wp2
        all_goals go_ret2
        all_goals exact ⟨HG01.out.step (by repeat first | exact Grow.rfl' _ | apply Grow.drewd | apply Grow.allocd), .inr ⟨HE.out, _, rfl, by first | exact jobMkA w1 _ _ HG01.out.size r chunk rfl | exact jobMkB w1 _ _ HG01.out.size r chunk rfl⟩⟩
end Go.Hg

namespace Go.Hg
open Go.RowKit Go.Proofs

theorem wpList_lookIz {P : Program} {ops : Array Oper} {rest : List Oper} {o : Oper} {a : Act} {Q : Exit → Act → World → Prop} (w : World) (hg : o.guard = none) (m x : Operand) (t : TypeId) (hop : o.op = Op.lookup t m x false) (kt et : TypeId) (ht : P.underlying t = some (.map kt et)) (hk : P.underlying kt = some (.int .i64)) (z : Value)
    (hz : (zeroValue et).run P w = .ok z w) (b n : Nat) (f : Int → Option Value) (hm : a.eval m = .map (some b)) (h : MapI w b f n) (k : Int) (hx : a.eval x = .int .i64 k) (hf : f k = none)
    (hK : wpList P ops Q rest (a.put o.dst z) w) : wpList P ops Q (o :: rest) a w :=
  wpList_lookI w hg m x t hop kt et ht hk z hz b n f hm h k hx (by rw [hf]; exact hK)
theorem zeroIntB (w : World) : (zeroValue 3).run Tryz.prog w = .ok (.int .i64 0) w := by kernel_rfl
set_option maxRecDepth 100000 in
set_option maxHeartbeats 2000000 in
theorem jobTakes (J : PJob) (B cb mb : Nat) (s r : Nat) (tm : Bool) (x : Int) (n : Nat) (f : Int → Option Value) (w : World) (hB : w.heap[B]? = some (.cells (jobCells J cb mb) 88 (0, 0))) (hcb : w.heap[cb]? = some (.chan 4097 #[.int .i64 x] false s r tm)) (hm : MapI w mb f n) (hf : f x = none)
    (h1 : B ≠ cb) (h2 : B ≠ mb) (h3 : cb ≠ mb) :
    Calls Tryz.prog 44 #[.pointer (some ⟨B, 0, none⟩)] w fun e w' => e = .returned (.tuple #[]) ∧ Mod (fun b => b = cb ∨ b = mb) w w' ∧ w'.heap[cb]? = some (.chan 4097 #[] false s (r + 1) tm) ∧ MapI w' mb (fput f x (.int .i64 1)) (n + 1) := by
  go_enter Tryz.func44, Tryz.ntmps44
  go_wp2
  go_loopg [] 1 (fun g wr => (g = 1 ∧ wr = w) ∨ (g = 0 ∧ Mod (fun b => b = cb ∨ b = mb) w wr ∧ wr.heap[cb]? = some (.chan 4097 #[] false s (r + 1) tm) ∧ MapI wr mb (fput f x (.int .i64 1)) (n + 1)))
  case atStart => exact .inl ⟨rfl, rfl⟩
  case round =>
    rcases hrel with ⟨rfl, rfl⟩ | ⟨rfl, hmod, hcb', hm'⟩
    · obtain ⟨-, -, -, c10, c11⟩ := jobB_of hB
      go_upto_region 1 with fail
      refine arr_region (show Arr _ _ _ [0, 1, 2] _ _ from ?_)
      refine arr_sel_buf (i := 0) (c := cb) (z := .int .i64 0) (cap := 4097) (buf := #[.int .i64 x]) (s := s) (r := r) (tm := tm) (closed := false) rfl (by kernel_rfl) (by simp [go_sem, execOp, Go.Conc.rcase, Act.eval]) hcb (by simp) ?_
      refine arr_value (w' := wr.setChan cb 4097 #[] false s (r + 1) tm) (v := .int .i64 0) (i := 1) rfl (by kernel_rfl) (by simp [go_sem, execOp, Act.eval, Act.put, goInt]) ?_
      refine arr_value (w' := wr.setChan cb 4097 #[] false s (r + 1) tm) (v := .bool true) (i := 2) rfl (by kernel_rfl) (by simp [go_sem, execOp, Act.eval, Act.put]) ?_
      refine arr_nil ?_
      simp [Act.put, goInt, Exit.then]
      obtain ⟨w2, hw2⟩ : ∃ w2, w2 = wr.setChan cb 4097 #[] false s (r + 1) tm := ⟨_, rfl⟩
      have hmod2 : Mod (fun b => b = cb ∨ b = mb) wr w2 := by subst hw2; exact ⟨rfl, rfl, rfl, by simp [World.setChan], fun k hk hne => by simp only [World.setChan]; rw [Array.getElem?_setIfInBounds_ne (fun e => hne (.inl e.symm))]⟩
      have hch2 : w2.heap[cb]? = some (.chan 4097 #[] false s (r + 1) tm) := by subst hw2; simp only [World.setChan]; rw [Array.getElem?_setIfInBounds_self, if_pos (Array.getElem?_eq_some_iff.1 hcb).1]
      have hm2 := hm.keep (w' := w2) (by subst hw2; simp only [World.setChan]; rw [Array.getElem?_setIfInBounds_ne h3])
      have hB2 := (hmod2.block B (blk_lt hB) (by omega)).trans hB
      rw [← hw2]
      obtain ⟨-, -, -, c10, c11⟩ := jobB_of hB2
      have HM2 := Lib.hid hm2; have HMOD := Lib.hid hmod2; have HCH := Lib.hid hch2
      clear hm2 hmod2 hch2 hm hB2 hw2 hB hcb
      go_wp2_with (first | (at_lookup; go_must (refine wpList_lookIz _ rfl (.tmp 14) (.tmp 15) 86 rfl 2 3 Tryz.underlying86 Tryz.underlying2 (.int .i64 0) (zeroIntB _) _ _ _ rfl HM2.out x rfl hf ?_)) | (at_mapUpdate; go_must (refine wpList_updI _ rfl (.tmp 14) (.tmp 15) (.tmp 17) 86 rfl 2 3 Tryz.underlying86 Tryz.underlying2 _ _ _ rfl HM2.out x rfl (.int .i64 1) (by first | rfl | (simp [Act.eval]; done)) ?_)))
      intro w3 hm3 hmod3 hs3
      go_wp2
      go_roundg 0
      case measure => omega
      case rel => exact .inr ⟨rfl, HMOD.out.step (hmod3.mono (fun b hb => .inr hb)), (hmod3.block cb (blk_lt HCH.out) h3).trans HCH.out, hm3⟩
    · have hB2 := (hmod.block B (blk_lt hB) (by omega)).trans hB
      obtain ⟨-, -, -, c10, c11⟩ := jobB_of hB2
      have HMOD := Lib.hid hmod; have HCH := Lib.hid hcb'; have HM := Lib.hid hm'
      clear hmod hcb' hm' hB2 hB
      go_upto_region 1 with fail
      refine arr_region (show Arr _ _ _ [0, 1, 2] _ _ from ?_)
      refine arr_sel_default (i := 0) (c := cb) (z := .int .i64 0) (cap := 4097) (s := s) (r := r + 1) (tm := tm) rfl (by kernel_rfl) (by simp [go_sem, execOp, Go.Conc.rcase, Act.eval]) HCH.out ?_
      refine arr_value (w' := wr) (v := .int .i64 (-1)) (i := 1) rfl (by kernel_rfl) (by simp [go_sem, execOp, Act.eval, Act.put, goInt]) ?_
      refine arr_value (w' := wr) (v := .bool false) (i := 2) rfl (by kernel_rfl) (by simp [go_sem, execOp, Act.eval, Act.put]) ?_
      refine arr_nil ?_
      simp [Act.put, goInt, Exit.then]
      go_wp2
      refine bodyPost_ret (results_none (by kernel_rfl) _ _ _) rfl ?_
      refine ⟨rfl, ?_⟩
      exact ⟨HMOD.out, HCH.out, HM.out⟩
end Go.Hg
