/- rule.Form, hedgerowref15.Form; The job of build and of its reference: plain words, its cells, build.New and hedgerowref23.New; (*build.Job).takes: what lies in the channel goes into the map; (*build.Job).Touch; hedgerowref23.New, At, Left: the reference's job; (*build.Job).At, Left, ended, Rule; (*build.Job).ended; The ids of a graph from one on, rising; a job's step: plain words; The reference's ids merged, a job's step keeps its words: plain words. Conditions: those that each theorem names. -/
import Derived.WalkKit
import Derived.WalkSpells
import Derived.WalkLawsBesides
import Derived.Lib.Hide
import Derived.BigQuiet
import Derived.Deep.LoopGhost
import Derived.Test.YtfachjfohhhgeaaGreatDoorRows
import Derived.Lib.SliceRun
import Derived.WideMake
import Derived.Deep.RegionLaw
import Derived.Lib.Overlaps
import Derived.Deep.RegionHeld3
import Derived.Laws.ResultCell
import Derived.Maps.OwnOps
import Derived.Maps.OwnSet
import Derived.Carry
import Derived.Lib.SlKeysI
import Derived.Conc.LoneCalls
import Derived.Conc.SmallLaws
import Derived.Deep.CutBlock
import Derived.Deep.DeepCutAuto
import Derived.Test.YtfachjfohhhgeaaGreatDoorBdE
namespace Go.Hg
open Go.RowKit Go.Proofs

theorem valNameB {s : ByteArray} {b : Bool} (hb : decide (NameOk s) = b) (w : World) : Calls Tryz.prog 60 #[.string s] w fun e w' => e = .returned (.bool b) ∧ w' = w := hb ▸ valName s w
theorem valNameG {s : ByteArray} {b : Bool} (hb : decide (NameOk s) = b) (w : World) : Calls Tryz.prog 60 #[.string s] w fun e w' => e = .returned (.bool b) ∧ Grow w w' :=
  (valNameB hb w).mono fun _ _ ⟨h1, h2⟩ => ⟨h1, h2 ▸ Grow.rfl' _⟩
set_option maxRecDepth 100000 in
set_option maxHeartbeats 2000000 in
theorem ruleForm1 (id : Int) (typ name from_ to_ : ByteArray) (n state : Int) (w : World) : Calls Tryz.prog 39 #[(PRule.mk id 1 typ name from_ to_ n state).args] w fun e w' => e = .returned (.bool (formR ⟨id, 1, typ, name, from_, to_, n, state⟩)) ∧ Grow w w' := by
  have HW := Lib.hid (show ∀ o1, Grow w (w.alloc o1) from fun o1 => (Grow.rfl' w).allocd o1)
  have HB := Lib.hid (show ∀ o1 w', Grow (w.alloc o1) w' → w'.heap[w.heap.size]? = some o1 from fun o1 w' hg => by rw [hg.heapEq (by simp)]; exact heap_alloc_new w _)
  generalize hF : formR _ = F
  have HF := Lib.hid hF; clear hF
  obtain ⟨b1, hb1⟩ : ∃ b, decide (NameOk typ) = b := ⟨_, rfl⟩
  obtain ⟨b2, hb2⟩ : ∃ b, decide (NameOk name) = b := ⟨_, rfl⟩
  obtain ⟨b3, hb3⟩ : ∃ b, decide (NameOk from_) = b := ⟨_, rfl⟩
  obtain ⟨b4, hb4⟩ : ∃ b, decide (NameOk to_) = b := ⟨_, rfl⟩
  have H1 := Lib.hid hb1; have H2 := Lib.hid hb2; have H3 := Lib.hid hb3; have H4 := Lib.hid hb4
  clear hb1 hb2 hb3 hb4
  have HK := Lib.hid True.intro
  cases b1
  · skip
    have hF : F = false := by rw [← HF.out]; simp [formR, H1.out, *]
    subst hF
    clear HF
    go_enter Tryz.func39, Tryz.ntmps39
    go_wp2_with fail
    refine wp_region_grow (by kernel_rfl) (by kernel_rfl) ?_
    repeat (go_big_quiet_step (first | (go_at_call 60; with_reducible exact calls_gr (valNameG H1.out _)) | (go_at_call 60; with_reducible exact calls_gr (valNameG H2.out _))))
    refine wpQuiet_nil ?_
    intro w2 hw2
    have HB2 := HB.out _ w2 hw2
    have hbl := blk_lt HB2
    have c1 : w2.cell? ⟨w.heap.size, 1, none⟩ = some (.int .i64 1) := by rw [blk_cell HB2]; rfl
    have c3 : w2.cell? ⟨w.heap.size, 3, none⟩ = some (.string name) := by rw [blk_cell HB2]; rfl
    have c4 : w2.cell? ⟨w.heap.size, 4, none⟩ = some (.string from_) := by rw [blk_cell HB2]; rfl
    have c5 : w2.cell? ⟨w.heap.size, 5, none⟩ = some (.string to_) := by rw [blk_cell HB2]; rfl
    have c6 : w2.cell? ⟨w.heap.size, 6, none⟩ = some (.int .i64 n) := by rw [blk_cell HB2]; rfl
    have HG2 := Lib.hid ((HW.out _).step hw2)
    clear HB2 hw2
    go_wp2_with (go_at_call 60; (first | (with_reducible refine (valNameB H1.out _).mono ?_) | (with_reducible refine (valNameB H2.out _).mono ?_) | (with_reducible refine (valNameB H3.out _).mono ?_) | (with_reducible refine (valNameB H4.out _).mono ?_)); rintro e w3 ⟨rfl, rfl⟩)
    go_ret
    exact ⟨rfl, HG2.out⟩
  · skip
    cases b2
    · skip
      have hF : F = false := by rw [← HF.out]; simp [formR, H1.out, H2.out, *]
      subst hF
      clear HF
      go_enter Tryz.func39, Tryz.ntmps39
      go_wp2_with fail
      refine wp_region_grow (by kernel_rfl) (by kernel_rfl) ?_
      repeat (go_big_quiet_step (first | (go_at_call 60; with_reducible exact calls_gr (valNameG H1.out _)) | (go_at_call 60; with_reducible exact calls_gr (valNameG H2.out _))))
      refine wpQuiet_nil ?_
      intro w2 hw2
      have HB2 := HB.out _ w2 hw2
      have hbl := blk_lt HB2
      have c1 : w2.cell? ⟨w.heap.size, 1, none⟩ = some (.int .i64 1) := by rw [blk_cell HB2]; rfl
      have c3 : w2.cell? ⟨w.heap.size, 3, none⟩ = some (.string name) := by rw [blk_cell HB2]; rfl
      have c4 : w2.cell? ⟨w.heap.size, 4, none⟩ = some (.string from_) := by rw [blk_cell HB2]; rfl
      have c5 : w2.cell? ⟨w.heap.size, 5, none⟩ = some (.string to_) := by rw [blk_cell HB2]; rfl
      have c6 : w2.cell? ⟨w.heap.size, 6, none⟩ = some (.int .i64 n) := by rw [blk_cell HB2]; rfl
      have HG2 := Lib.hid ((HW.out _).step hw2)
      clear HB2 hw2
      go_wp2_with (go_at_call 60; (first | (with_reducible refine (valNameB H1.out _).mono ?_) | (with_reducible refine (valNameB H2.out _).mono ?_) | (with_reducible refine (valNameB H3.out _).mono ?_) | (with_reducible refine (valNameB H4.out _).mono ?_)); rintro e w3 ⟨rfl, rfl⟩)
      go_ret
      exact ⟨rfl, HG2.out⟩
    · skip
      by_cases h2 : from_ = ByteArray.empty
      · skip
        subst h2
        by_cases h3 : to_ = ByteArray.empty
        · skip
          subst h3
          by_cases h4 : n = 0
          · skip
            subst h4
            have hF : F = true := by rw [← HF.out]; simp [formR, H1.out, H2.out, *]
            subst hF
            clear HF
            go_enter Tryz.func39, Tryz.ntmps39
            go_wp2_with fail
            refine wp_region_grow (by kernel_rfl) (by kernel_rfl) ?_
            repeat (go_big_quiet_step (first | (go_at_call 60; with_reducible exact calls_gr (valNameG H1.out _)) | (go_at_call 60; with_reducible exact calls_gr (valNameG H2.out _))))
            refine wpQuiet_nil ?_
            intro w2 hw2
            have HB2 := HB.out _ w2 hw2
            have hbl := blk_lt HB2
            have c1 : w2.cell? ⟨w.heap.size, 1, none⟩ = some (.int .i64 1) := by rw [blk_cell HB2]; rfl
            have c3 : w2.cell? ⟨w.heap.size, 3, none⟩ = some (.string name) := by rw [blk_cell HB2]; rfl
            have c4 : w2.cell? ⟨w.heap.size, 4, none⟩ = some (.string ByteArray.empty) := by rw [blk_cell HB2]; rfl
            have c5 : w2.cell? ⟨w.heap.size, 5, none⟩ = some (.string ByteArray.empty) := by rw [blk_cell HB2]; rfl
            have c6 : w2.cell? ⟨w.heap.size, 6, none⟩ = some (.int .i64 0) := by rw [blk_cell HB2]; rfl
            have HG2 := Lib.hid ((HW.out _).step hw2)
            clear HB2 hw2
            go_wp2_with (go_at_call 60; (first | (with_reducible refine (valNameB H1.out _).mono ?_) | (with_reducible refine (valNameB H2.out _).mono ?_) | (with_reducible refine (valNameB H3.out _).mono ?_) | (with_reducible refine (valNameB H4.out _).mono ?_)); rintro e w3 ⟨rfl, rfl⟩)
            go_ret
            exact ⟨rfl, HG2.out⟩
          · skip
            have q4 : (n == 0) = false := by simpa using h4
            have hF : F = false := by rw [← HF.out]; simp [formR, H1.out, H2.out, *]
            subst hF
            clear HF
            go_enter Tryz.func39, Tryz.ntmps39
            go_wp2_with fail
            refine wp_region_grow (by kernel_rfl) (by kernel_rfl) ?_
            repeat (go_big_quiet_step (first | (go_at_call 60; with_reducible exact calls_gr (valNameG H1.out _)) | (go_at_call 60; with_reducible exact calls_gr (valNameG H2.out _))))
            refine wpQuiet_nil ?_
            intro w2 hw2
            have HB2 := HB.out _ w2 hw2
            have hbl := blk_lt HB2
            have c1 : w2.cell? ⟨w.heap.size, 1, none⟩ = some (.int .i64 1) := by rw [blk_cell HB2]; rfl
            have c3 : w2.cell? ⟨w.heap.size, 3, none⟩ = some (.string name) := by rw [blk_cell HB2]; rfl
            have c4 : w2.cell? ⟨w.heap.size, 4, none⟩ = some (.string ByteArray.empty) := by rw [blk_cell HB2]; rfl
            have c5 : w2.cell? ⟨w.heap.size, 5, none⟩ = some (.string ByteArray.empty) := by rw [blk_cell HB2]; rfl
            have c6 : w2.cell? ⟨w.heap.size, 6, none⟩ = some (.int .i64 n) := by rw [blk_cell HB2]; rfl
            have HG2 := Lib.hid ((HW.out _).step hw2)
            clear HB2 hw2
            go_wp2_with (go_at_call 60; (first | (with_reducible refine (valNameB H1.out _).mono ?_) | (with_reducible refine (valNameB H2.out _).mono ?_) | (with_reducible refine (valNameB H3.out _).mono ?_) | (with_reducible refine (valNameB H4.out _).mono ?_)); rintro e w3 ⟨rfl, rfl⟩)
            go_ret
            exact ⟨rfl, HG2.out⟩
        · skip
          have q3 : (to_.toList == ([] : List UInt8)) = false := (empty_beq to_).trans (decide_eq_false h3)
          have hF : F = false := by rw [← HF.out]; simp [formR, H1.out, H2.out, *]
          subst hF
          clear HF
          go_enter Tryz.func39, Tryz.ntmps39
          go_wp2_with fail
          refine wp_region_grow (by kernel_rfl) (by kernel_rfl) ?_
          repeat (go_big_quiet_step (first | (go_at_call 60; with_reducible exact calls_gr (valNameG H1.out _)) | (go_at_call 60; with_reducible exact calls_gr (valNameG H2.out _))))
          refine wpQuiet_nil ?_
          intro w2 hw2
          have HB2 := HB.out _ w2 hw2
          have hbl := blk_lt HB2
          have c1 : w2.cell? ⟨w.heap.size, 1, none⟩ = some (.int .i64 1) := by rw [blk_cell HB2]; rfl
          have c3 : w2.cell? ⟨w.heap.size, 3, none⟩ = some (.string name) := by rw [blk_cell HB2]; rfl
          have c4 : w2.cell? ⟨w.heap.size, 4, none⟩ = some (.string ByteArray.empty) := by rw [blk_cell HB2]; rfl
          have c5 : w2.cell? ⟨w.heap.size, 5, none⟩ = some (.string to_) := by rw [blk_cell HB2]; rfl
          have c6 : w2.cell? ⟨w.heap.size, 6, none⟩ = some (.int .i64 n) := by rw [blk_cell HB2]; rfl
          have HG2 := Lib.hid ((HW.out _).step hw2)
          clear HB2 hw2
          go_wp2_with (go_at_call 60; (first | (with_reducible refine (valNameB H1.out _).mono ?_) | (with_reducible refine (valNameB H2.out _).mono ?_) | (with_reducible refine (valNameB H3.out _).mono ?_) | (with_reducible refine (valNameB H4.out _).mono ?_)); rintro e w3 ⟨rfl, rfl⟩)
          go_ret
          exact ⟨rfl, HG2.out⟩
      · skip
        have q2 : (from_.toList == ([] : List UInt8)) = false := (empty_beq from_).trans (decide_eq_false h2)
        have hF : F = false := by rw [← HF.out]; simp [formR, H1.out, H2.out, *]
        subst hF
        clear HF
        go_enter Tryz.func39, Tryz.ntmps39
        go_wp2_with fail
        refine wp_region_grow (by kernel_rfl) (by kernel_rfl) ?_
        repeat (go_big_quiet_step (first | (go_at_call 60; with_reducible exact calls_gr (valNameG H1.out _)) | (go_at_call 60; with_reducible exact calls_gr (valNameG H2.out _))))
        refine wpQuiet_nil ?_
        intro w2 hw2
        have HB2 := HB.out _ w2 hw2
        have hbl := blk_lt HB2
        have c1 : w2.cell? ⟨w.heap.size, 1, none⟩ = some (.int .i64 1) := by rw [blk_cell HB2]; rfl
        have c3 : w2.cell? ⟨w.heap.size, 3, none⟩ = some (.string name) := by rw [blk_cell HB2]; rfl
        have c4 : w2.cell? ⟨w.heap.size, 4, none⟩ = some (.string from_) := by rw [blk_cell HB2]; rfl
        have c5 : w2.cell? ⟨w.heap.size, 5, none⟩ = some (.string to_) := by rw [blk_cell HB2]; rfl
        have c6 : w2.cell? ⟨w.heap.size, 6, none⟩ = some (.int .i64 n) := by rw [blk_cell HB2]; rfl
        have HG2 := Lib.hid ((HW.out _).step hw2)
        clear HB2 hw2
        go_wp2_with (go_at_call 60; (first | (with_reducible refine (valNameB H1.out _).mono ?_) | (with_reducible refine (valNameB H2.out _).mono ?_) | (with_reducible refine (valNameB H3.out _).mono ?_) | (with_reducible refine (valNameB H4.out _).mono ?_)); rintro e w3 ⟨rfl, rfl⟩)
        go_ret
        exact ⟨rfl, HG2.out⟩
set_option maxRecDepth 100000 in
set_option maxHeartbeats 2000000 in
theorem ruleForm2 (id : Int) (typ name from_ to_ : ByteArray) (n state : Int) (w : World) : Calls Tryz.prog 39 #[(PRule.mk id 2 typ name from_ to_ n state).args] w fun e w' => e = .returned (.bool (formR ⟨id, 2, typ, name, from_, to_, n, state⟩)) ∧ Grow w w' := by
  have HW := Lib.hid (show ∀ o1, Grow w (w.alloc o1) from fun o1 => (Grow.rfl' w).allocd o1)
  have HB := Lib.hid (show ∀ o1 w', Grow (w.alloc o1) w' → w'.heap[w.heap.size]? = some o1 from fun o1 w' hg => by rw [hg.heapEq (by simp)]; exact heap_alloc_new w _)
  generalize hF : formR _ = F
  have HF := Lib.hid hF; clear hF
  obtain ⟨b1, hb1⟩ : ∃ b, decide (NameOk typ) = b := ⟨_, rfl⟩
  obtain ⟨b2, hb2⟩ : ∃ b, decide (NameOk name) = b := ⟨_, rfl⟩
  obtain ⟨b3, hb3⟩ : ∃ b, decide (NameOk from_) = b := ⟨_, rfl⟩
  obtain ⟨b4, hb4⟩ : ∃ b, decide (NameOk to_) = b := ⟨_, rfl⟩
  have H1 := Lib.hid hb1; have H2 := Lib.hid hb2; have H3 := Lib.hid hb3; have H4 := Lib.hid hb4
  clear hb1 hb2 hb3 hb4
  have HK := Lib.hid True.intro
  cases b1
  · skip
    have hF : F = false := by rw [← HF.out]; simp [formR, H1.out, *]
    subst hF
    clear HF
    go_enter Tryz.func39, Tryz.ntmps39
    go_wp2_with fail
    refine wp_region_grow (by kernel_rfl) (by kernel_rfl) ?_
    repeat (go_big_quiet_step (first | (go_at_call 60; with_reducible exact calls_gr (valNameG H1.out _)) | (go_at_call 60; with_reducible exact calls_gr (valNameG H2.out _))))
    refine wpQuiet_nil ?_
    intro w2 hw2
    have HB2 := HB.out _ w2 hw2
    have hbl := blk_lt HB2
    have c1 : w2.cell? ⟨w.heap.size, 1, none⟩ = some (.int .i64 2) := by rw [blk_cell HB2]; rfl
    have c3 : w2.cell? ⟨w.heap.size, 3, none⟩ = some (.string name) := by rw [blk_cell HB2]; rfl
    have c4 : w2.cell? ⟨w.heap.size, 4, none⟩ = some (.string from_) := by rw [blk_cell HB2]; rfl
    have c5 : w2.cell? ⟨w.heap.size, 5, none⟩ = some (.string to_) := by rw [blk_cell HB2]; rfl
    have c6 : w2.cell? ⟨w.heap.size, 6, none⟩ = some (.int .i64 n) := by rw [blk_cell HB2]; rfl
    have HG2 := Lib.hid ((HW.out _).step hw2)
    clear HB2 hw2
    go_wp2_with (go_at_call 60; (first | (with_reducible refine (valNameB H1.out _).mono ?_) | (with_reducible refine (valNameB H2.out _).mono ?_) | (with_reducible refine (valNameB H3.out _).mono ?_) | (with_reducible refine (valNameB H4.out _).mono ?_)); rintro e w3 ⟨rfl, rfl⟩)
    go_ret
    exact ⟨rfl, HG2.out⟩
  · skip
    cases b2
    · skip
      have hF : F = false := by rw [← HF.out]; simp [formR, H1.out, H2.out, *]
      subst hF
      clear HF
      go_enter Tryz.func39, Tryz.ntmps39
      go_wp2_with fail
      refine wp_region_grow (by kernel_rfl) (by kernel_rfl) ?_
      repeat (go_big_quiet_step (first | (go_at_call 60; with_reducible exact calls_gr (valNameG H1.out _)) | (go_at_call 60; with_reducible exact calls_gr (valNameG H2.out _))))
      refine wpQuiet_nil ?_
      intro w2 hw2
      have HB2 := HB.out _ w2 hw2
      have hbl := blk_lt HB2
      have c1 : w2.cell? ⟨w.heap.size, 1, none⟩ = some (.int .i64 2) := by rw [blk_cell HB2]; rfl
      have c3 : w2.cell? ⟨w.heap.size, 3, none⟩ = some (.string name) := by rw [blk_cell HB2]; rfl
      have c4 : w2.cell? ⟨w.heap.size, 4, none⟩ = some (.string from_) := by rw [blk_cell HB2]; rfl
      have c5 : w2.cell? ⟨w.heap.size, 5, none⟩ = some (.string to_) := by rw [blk_cell HB2]; rfl
      have c6 : w2.cell? ⟨w.heap.size, 6, none⟩ = some (.int .i64 n) := by rw [blk_cell HB2]; rfl
      have HG2 := Lib.hid ((HW.out _).step hw2)
      clear HB2 hw2
      go_wp2_with (go_at_call 60; (first | (with_reducible refine (valNameB H1.out _).mono ?_) | (with_reducible refine (valNameB H2.out _).mono ?_) | (with_reducible refine (valNameB H3.out _).mono ?_) | (with_reducible refine (valNameB H4.out _).mono ?_)); rintro e w3 ⟨rfl, rfl⟩)
      go_ret
      exact ⟨rfl, HG2.out⟩
    · skip
      by_cases h2 : from_ = ByteArray.empty
      · skip
        subst h2
        by_cases h3 : to_ = ByteArray.empty
        · skip
          subst h3
          by_cases h4 : n = 0
          · skip
            subst h4
            have hF : F = true := by rw [← HF.out]; simp [formR, H1.out, H2.out, *]
            subst hF
            clear HF
            go_enter Tryz.func39, Tryz.ntmps39
            go_wp2_with fail
            refine wp_region_grow (by kernel_rfl) (by kernel_rfl) ?_
            repeat (go_big_quiet_step (first | (go_at_call 60; with_reducible exact calls_gr (valNameG H1.out _)) | (go_at_call 60; with_reducible exact calls_gr (valNameG H2.out _))))
            refine wpQuiet_nil ?_
            intro w2 hw2
            have HB2 := HB.out _ w2 hw2
            have hbl := blk_lt HB2
            have c1 : w2.cell? ⟨w.heap.size, 1, none⟩ = some (.int .i64 2) := by rw [blk_cell HB2]; rfl
            have c3 : w2.cell? ⟨w.heap.size, 3, none⟩ = some (.string name) := by rw [blk_cell HB2]; rfl
            have c4 : w2.cell? ⟨w.heap.size, 4, none⟩ = some (.string ByteArray.empty) := by rw [blk_cell HB2]; rfl
            have c5 : w2.cell? ⟨w.heap.size, 5, none⟩ = some (.string ByteArray.empty) := by rw [blk_cell HB2]; rfl
            have c6 : w2.cell? ⟨w.heap.size, 6, none⟩ = some (.int .i64 0) := by rw [blk_cell HB2]; rfl
            have HG2 := Lib.hid ((HW.out _).step hw2)
            clear HB2 hw2
            go_wp2_with (go_at_call 60; (first | (with_reducible refine (valNameB H1.out _).mono ?_) | (with_reducible refine (valNameB H2.out _).mono ?_) | (with_reducible refine (valNameB H3.out _).mono ?_) | (with_reducible refine (valNameB H4.out _).mono ?_)); rintro e w3 ⟨rfl, rfl⟩)
            go_ret
            exact ⟨rfl, HG2.out⟩
          · skip
            have q4 : (n == 0) = false := by simpa using h4
            have hF : F = false := by rw [← HF.out]; simp [formR, H1.out, H2.out, *]
            subst hF
            clear HF
            go_enter Tryz.func39, Tryz.ntmps39
            go_wp2_with fail
            refine wp_region_grow (by kernel_rfl) (by kernel_rfl) ?_
            repeat (go_big_quiet_step (first | (go_at_call 60; with_reducible exact calls_gr (valNameG H1.out _)) | (go_at_call 60; with_reducible exact calls_gr (valNameG H2.out _))))
            refine wpQuiet_nil ?_
            intro w2 hw2
            have HB2 := HB.out _ w2 hw2
            have hbl := blk_lt HB2
            have c1 : w2.cell? ⟨w.heap.size, 1, none⟩ = some (.int .i64 2) := by rw [blk_cell HB2]; rfl
            have c3 : w2.cell? ⟨w.heap.size, 3, none⟩ = some (.string name) := by rw [blk_cell HB2]; rfl
            have c4 : w2.cell? ⟨w.heap.size, 4, none⟩ = some (.string ByteArray.empty) := by rw [blk_cell HB2]; rfl
            have c5 : w2.cell? ⟨w.heap.size, 5, none⟩ = some (.string ByteArray.empty) := by rw [blk_cell HB2]; rfl
            have c6 : w2.cell? ⟨w.heap.size, 6, none⟩ = some (.int .i64 n) := by rw [blk_cell HB2]; rfl
            have HG2 := Lib.hid ((HW.out _).step hw2)
            clear HB2 hw2
            go_wp2_with (go_at_call 60; (first | (with_reducible refine (valNameB H1.out _).mono ?_) | (with_reducible refine (valNameB H2.out _).mono ?_) | (with_reducible refine (valNameB H3.out _).mono ?_) | (with_reducible refine (valNameB H4.out _).mono ?_)); rintro e w3 ⟨rfl, rfl⟩)
            go_ret
            exact ⟨rfl, HG2.out⟩
        · skip
          have q3 : (to_.toList == ([] : List UInt8)) = false := (empty_beq to_).trans (decide_eq_false h3)
          have hF : F = false := by rw [← HF.out]; simp [formR, H1.out, H2.out, *]
          subst hF
          clear HF
          go_enter Tryz.func39, Tryz.ntmps39
          go_wp2_with fail
          refine wp_region_grow (by kernel_rfl) (by kernel_rfl) ?_
          repeat (go_big_quiet_step (first | (go_at_call 60; with_reducible exact calls_gr (valNameG H1.out _)) | (go_at_call 60; with_reducible exact calls_gr (valNameG H2.out _))))
          refine wpQuiet_nil ?_
          intro w2 hw2
          have HB2 := HB.out _ w2 hw2
          have hbl := blk_lt HB2
          have c1 : w2.cell? ⟨w.heap.size, 1, none⟩ = some (.int .i64 2) := by rw [blk_cell HB2]; rfl
          have c3 : w2.cell? ⟨w.heap.size, 3, none⟩ = some (.string name) := by rw [blk_cell HB2]; rfl
          have c4 : w2.cell? ⟨w.heap.size, 4, none⟩ = some (.string ByteArray.empty) := by rw [blk_cell HB2]; rfl
          have c5 : w2.cell? ⟨w.heap.size, 5, none⟩ = some (.string to_) := by rw [blk_cell HB2]; rfl
          have c6 : w2.cell? ⟨w.heap.size, 6, none⟩ = some (.int .i64 n) := by rw [blk_cell HB2]; rfl
          have HG2 := Lib.hid ((HW.out _).step hw2)
          clear HB2 hw2
          go_wp2_with (go_at_call 60; (first | (with_reducible refine (valNameB H1.out _).mono ?_) | (with_reducible refine (valNameB H2.out _).mono ?_) | (with_reducible refine (valNameB H3.out _).mono ?_) | (with_reducible refine (valNameB H4.out _).mono ?_)); rintro e w3 ⟨rfl, rfl⟩)
          go_ret
          exact ⟨rfl, HG2.out⟩
      · skip
        have q2 : (from_.toList == ([] : List UInt8)) = false := (empty_beq from_).trans (decide_eq_false h2)
        have hF : F = false := by rw [← HF.out]; simp [formR, H1.out, H2.out, *]
        subst hF
        clear HF
        go_enter Tryz.func39, Tryz.ntmps39
        go_wp2_with fail
        refine wp_region_grow (by kernel_rfl) (by kernel_rfl) ?_
        repeat (go_big_quiet_step (first | (go_at_call 60; with_reducible exact calls_gr (valNameG H1.out _)) | (go_at_call 60; with_reducible exact calls_gr (valNameG H2.out _))))
        refine wpQuiet_nil ?_
        intro w2 hw2
        have HB2 := HB.out _ w2 hw2
        have hbl := blk_lt HB2
        have c1 : w2.cell? ⟨w.heap.size, 1, none⟩ = some (.int .i64 2) := by rw [blk_cell HB2]; rfl
        have c3 : w2.cell? ⟨w.heap.size, 3, none⟩ = some (.string name) := by rw [blk_cell HB2]; rfl
        have c4 : w2.cell? ⟨w.heap.size, 4, none⟩ = some (.string from_) := by rw [blk_cell HB2]; rfl
        have c5 : w2.cell? ⟨w.heap.size, 5, none⟩ = some (.string to_) := by rw [blk_cell HB2]; rfl
        have c6 : w2.cell? ⟨w.heap.size, 6, none⟩ = some (.int .i64 n) := by rw [blk_cell HB2]; rfl
        have HG2 := Lib.hid ((HW.out _).step hw2)
        clear HB2 hw2
        go_wp2_with (go_at_call 60; (first | (with_reducible refine (valNameB H1.out _).mono ?_) | (with_reducible refine (valNameB H2.out _).mono ?_) | (with_reducible refine (valNameB H3.out _).mono ?_) | (with_reducible refine (valNameB H4.out _).mono ?_)); rintro e w3 ⟨rfl, rfl⟩)
        go_ret
        exact ⟨rfl, HG2.out⟩
set_option maxRecDepth 100000 in
set_option maxHeartbeats 2000000 in
theorem ruleForm3 (id : Int) (typ name from_ to_ : ByteArray) (n state : Int) (w : World) : Calls Tryz.prog 39 #[(PRule.mk id 3 typ name from_ to_ n state).args] w fun e w' => e = .returned (.bool (formR ⟨id, 3, typ, name, from_, to_, n, state⟩)) ∧ Grow w w' := by
  have HW := Lib.hid (show ∀ o1, Grow w (w.alloc o1) from fun o1 => (Grow.rfl' w).allocd o1)
  have HB := Lib.hid (show ∀ o1 w', Grow (w.alloc o1) w' → w'.heap[w.heap.size]? = some o1 from fun o1 w' hg => by rw [hg.heapEq (by simp)]; exact heap_alloc_new w _)
  generalize hF : formR _ = F
  have HF := Lib.hid hF; clear hF
  obtain ⟨b1, hb1⟩ : ∃ b, decide (NameOk typ) = b := ⟨_, rfl⟩
  obtain ⟨b2, hb2⟩ : ∃ b, decide (NameOk name) = b := ⟨_, rfl⟩
  obtain ⟨b3, hb3⟩ : ∃ b, decide (NameOk from_) = b := ⟨_, rfl⟩
  obtain ⟨b4, hb4⟩ : ∃ b, decide (NameOk to_) = b := ⟨_, rfl⟩
  have H1 := Lib.hid hb1; have H2 := Lib.hid hb2; have H3 := Lib.hid hb3; have H4 := Lib.hid hb4
  clear hb1 hb2 hb3 hb4
  have HK := Lib.hid True.intro
  cases b1
  · skip
    have hF : F = false := by rw [← HF.out]; simp [formR, H1.out, *]
    subst hF
    clear HF
    go_enter Tryz.func39, Tryz.ntmps39
    go_wp2_with fail
    refine wp_region_grow (by kernel_rfl) (by kernel_rfl) ?_
    repeat (go_big_quiet_step (first | (go_at_call 60; with_reducible exact calls_gr (valNameG H1.out _)) | (go_at_call 60; with_reducible exact calls_gr (valNameG H2.out _))))
    refine wpQuiet_nil ?_
    intro w2 hw2
    have HB2 := HB.out _ w2 hw2
    have hbl := blk_lt HB2
    have c1 : w2.cell? ⟨w.heap.size, 1, none⟩ = some (.int .i64 3) := by rw [blk_cell HB2]; rfl
    have c3 : w2.cell? ⟨w.heap.size, 3, none⟩ = some (.string name) := by rw [blk_cell HB2]; rfl
    have c4 : w2.cell? ⟨w.heap.size, 4, none⟩ = some (.string from_) := by rw [blk_cell HB2]; rfl
    have c5 : w2.cell? ⟨w.heap.size, 5, none⟩ = some (.string to_) := by rw [blk_cell HB2]; rfl
    have c6 : w2.cell? ⟨w.heap.size, 6, none⟩ = some (.int .i64 n) := by rw [blk_cell HB2]; rfl
    have HG2 := Lib.hid ((HW.out _).step hw2)
    clear HB2 hw2
    go_wp2_with (go_at_call 60; (first | (with_reducible refine (valNameB H1.out _).mono ?_) | (with_reducible refine (valNameB H2.out _).mono ?_) | (with_reducible refine (valNameB H3.out _).mono ?_) | (with_reducible refine (valNameB H4.out _).mono ?_)); rintro e w3 ⟨rfl, rfl⟩)
    go_ret
    exact ⟨rfl, HG2.out⟩
  · skip
    cases b3
    · skip
      have hF : F = false := by rw [← HF.out]; simp [formR, H1.out, H3.out, *]
      subst hF
      clear HF
      go_enter Tryz.func39, Tryz.ntmps39
      go_wp2_with fail
      refine wp_region_grow (by kernel_rfl) (by kernel_rfl) ?_
      repeat (go_big_quiet_step (first | (go_at_call 60; with_reducible exact calls_gr (valNameG H1.out _)) | (go_at_call 60; with_reducible exact calls_gr (valNameG H2.out _))))
      refine wpQuiet_nil ?_
      intro w2 hw2
      have HB2 := HB.out _ w2 hw2
      have hbl := blk_lt HB2
      have c1 : w2.cell? ⟨w.heap.size, 1, none⟩ = some (.int .i64 3) := by rw [blk_cell HB2]; rfl
      have c3 : w2.cell? ⟨w.heap.size, 3, none⟩ = some (.string name) := by rw [blk_cell HB2]; rfl
      have c4 : w2.cell? ⟨w.heap.size, 4, none⟩ = some (.string from_) := by rw [blk_cell HB2]; rfl
      have c5 : w2.cell? ⟨w.heap.size, 5, none⟩ = some (.string to_) := by rw [blk_cell HB2]; rfl
      have c6 : w2.cell? ⟨w.heap.size, 6, none⟩ = some (.int .i64 n) := by rw [blk_cell HB2]; rfl
      have HG2 := Lib.hid ((HW.out _).step hw2)
      clear HB2 hw2
      go_wp2_with (go_at_call 60; (first | (with_reducible refine (valNameB H1.out _).mono ?_) | (with_reducible refine (valNameB H2.out _).mono ?_) | (with_reducible refine (valNameB H3.out _).mono ?_) | (with_reducible refine (valNameB H4.out _).mono ?_)); rintro e w3 ⟨rfl, rfl⟩)
      go_ret
      exact ⟨rfl, HG2.out⟩
    · skip
      cases b4
      · skip
        have hF : F = false := by rw [← HF.out]; simp [formR, H1.out, H3.out, H4.out, *]
        subst hF
        clear HF
        go_enter Tryz.func39, Tryz.ntmps39
        go_wp2_with fail
        refine wp_region_grow (by kernel_rfl) (by kernel_rfl) ?_
        repeat (go_big_quiet_step (first | (go_at_call 60; with_reducible exact calls_gr (valNameG H1.out _)) | (go_at_call 60; with_reducible exact calls_gr (valNameG H2.out _))))
        refine wpQuiet_nil ?_
        intro w2 hw2
        have HB2 := HB.out _ w2 hw2
        have hbl := blk_lt HB2
        have c1 : w2.cell? ⟨w.heap.size, 1, none⟩ = some (.int .i64 3) := by rw [blk_cell HB2]; rfl
        have c3 : w2.cell? ⟨w.heap.size, 3, none⟩ = some (.string name) := by rw [blk_cell HB2]; rfl
        have c4 : w2.cell? ⟨w.heap.size, 4, none⟩ = some (.string from_) := by rw [blk_cell HB2]; rfl
        have c5 : w2.cell? ⟨w.heap.size, 5, none⟩ = some (.string to_) := by rw [blk_cell HB2]; rfl
        have c6 : w2.cell? ⟨w.heap.size, 6, none⟩ = some (.int .i64 n) := by rw [blk_cell HB2]; rfl
        have HG2 := Lib.hid ((HW.out _).step hw2)
        clear HB2 hw2
        go_wp2_with (go_at_call 60; (first | (with_reducible refine (valNameB H1.out _).mono ?_) | (with_reducible refine (valNameB H2.out _).mono ?_) | (with_reducible refine (valNameB H3.out _).mono ?_) | (with_reducible refine (valNameB H4.out _).mono ?_)); rintro e w3 ⟨rfl, rfl⟩)
        go_ret
        exact ⟨rfl, HG2.out⟩
      · skip
        by_cases h3 : name = ByteArray.empty
        · skip
          subst h3
          by_cases h4 : n = 0
          · skip
            subst h4
            have hF : F = true := by rw [← HF.out]; simp [formR, H1.out, H3.out, H4.out, *]
            subst hF
            clear HF
            go_enter Tryz.func39, Tryz.ntmps39
            go_wp2_with fail
            refine wp_region_grow (by kernel_rfl) (by kernel_rfl) ?_
            repeat (go_big_quiet_step (first | (go_at_call 60; with_reducible exact calls_gr (valNameG H1.out _)) | (go_at_call 60; with_reducible exact calls_gr (valNameG H2.out _))))
            refine wpQuiet_nil ?_
            intro w2 hw2
            have HB2 := HB.out _ w2 hw2
            have hbl := blk_lt HB2
            have c1 : w2.cell? ⟨w.heap.size, 1, none⟩ = some (.int .i64 3) := by rw [blk_cell HB2]; rfl
            have c3 : w2.cell? ⟨w.heap.size, 3, none⟩ = some (.string ByteArray.empty) := by rw [blk_cell HB2]; rfl
            have c4 : w2.cell? ⟨w.heap.size, 4, none⟩ = some (.string from_) := by rw [blk_cell HB2]; rfl
            have c5 : w2.cell? ⟨w.heap.size, 5, none⟩ = some (.string to_) := by rw [blk_cell HB2]; rfl
            have c6 : w2.cell? ⟨w.heap.size, 6, none⟩ = some (.int .i64 0) := by rw [blk_cell HB2]; rfl
            have HG2 := Lib.hid ((HW.out _).step hw2)
            clear HB2 hw2
            go_wp2_with (go_at_call 60; (first | (with_reducible refine (valNameB H1.out _).mono ?_) | (with_reducible refine (valNameB H2.out _).mono ?_) | (with_reducible refine (valNameB H3.out _).mono ?_) | (with_reducible refine (valNameB H4.out _).mono ?_)); rintro e w3 ⟨rfl, rfl⟩)
            go_ret
            exact ⟨rfl, HG2.out⟩
          · skip
            have q4 : (n == 0) = false := by simpa using h4
            have hF : F = false := by rw [← HF.out]; simp [formR, H1.out, H3.out, H4.out, *]
            subst hF
            clear HF
            go_enter Tryz.func39, Tryz.ntmps39
            go_wp2_with fail
            refine wp_region_grow (by kernel_rfl) (by kernel_rfl) ?_
            repeat (go_big_quiet_step (first | (go_at_call 60; with_reducible exact calls_gr (valNameG H1.out _)) | (go_at_call 60; with_reducible exact calls_gr (valNameG H2.out _))))
            refine wpQuiet_nil ?_
            intro w2 hw2
            have HB2 := HB.out _ w2 hw2
            have hbl := blk_lt HB2
            have c1 : w2.cell? ⟨w.heap.size, 1, none⟩ = some (.int .i64 3) := by rw [blk_cell HB2]; rfl
            have c3 : w2.cell? ⟨w.heap.size, 3, none⟩ = some (.string ByteArray.empty) := by rw [blk_cell HB2]; rfl
            have c4 : w2.cell? ⟨w.heap.size, 4, none⟩ = some (.string from_) := by rw [blk_cell HB2]; rfl
            have c5 : w2.cell? ⟨w.heap.size, 5, none⟩ = some (.string to_) := by rw [blk_cell HB2]; rfl
            have c6 : w2.cell? ⟨w.heap.size, 6, none⟩ = some (.int .i64 n) := by rw [blk_cell HB2]; rfl
            have HG2 := Lib.hid ((HW.out _).step hw2)
            clear HB2 hw2
            go_wp2_with (go_at_call 60; (first | (with_reducible refine (valNameB H1.out _).mono ?_) | (with_reducible refine (valNameB H2.out _).mono ?_) | (with_reducible refine (valNameB H3.out _).mono ?_) | (with_reducible refine (valNameB H4.out _).mono ?_)); rintro e w3 ⟨rfl, rfl⟩)
            go_ret
            exact ⟨rfl, HG2.out⟩
        · skip
          have q3 : (name.toList == ([] : List UInt8)) = false := (empty_beq name).trans (decide_eq_false h3)
          have hF : F = false := by rw [← HF.out]; simp [formR, H1.out, H3.out, H4.out, *]
          subst hF
          clear HF
          go_enter Tryz.func39, Tryz.ntmps39
          go_wp2_with fail
          refine wp_region_grow (by kernel_rfl) (by kernel_rfl) ?_
          repeat (go_big_quiet_step (first | (go_at_call 60; with_reducible exact calls_gr (valNameG H1.out _)) | (go_at_call 60; with_reducible exact calls_gr (valNameG H2.out _))))
          refine wpQuiet_nil ?_
          intro w2 hw2
          have HB2 := HB.out _ w2 hw2
          have hbl := blk_lt HB2
          have c1 : w2.cell? ⟨w.heap.size, 1, none⟩ = some (.int .i64 3) := by rw [blk_cell HB2]; rfl
          have c3 : w2.cell? ⟨w.heap.size, 3, none⟩ = some (.string name) := by rw [blk_cell HB2]; rfl
          have c4 : w2.cell? ⟨w.heap.size, 4, none⟩ = some (.string from_) := by rw [blk_cell HB2]; rfl
          have c5 : w2.cell? ⟨w.heap.size, 5, none⟩ = some (.string to_) := by rw [blk_cell HB2]; rfl
          have c6 : w2.cell? ⟨w.heap.size, 6, none⟩ = some (.int .i64 n) := by rw [blk_cell HB2]; rfl
          have HG2 := Lib.hid ((HW.out _).step hw2)
          clear HB2 hw2
          go_wp2_with (go_at_call 60; (first | (with_reducible refine (valNameB H1.out _).mono ?_) | (with_reducible refine (valNameB H2.out _).mono ?_) | (with_reducible refine (valNameB H3.out _).mono ?_) | (with_reducible refine (valNameB H4.out _).mono ?_)); rintro e w3 ⟨rfl, rfl⟩)
          go_ret
          exact ⟨rfl, HG2.out⟩
set_option maxRecDepth 100000 in
set_option maxHeartbeats 2000000 in
theorem ruleForm4 (id : Int) (typ name from_ to_ : ByteArray) (n state : Int) (w : World) : Calls Tryz.prog 39 #[(PRule.mk id 4 typ name from_ to_ n state).args] w fun e w' => e = .returned (.bool (formR ⟨id, 4, typ, name, from_, to_, n, state⟩)) ∧ Grow w w' := by
  have HW := Lib.hid (show ∀ o1, Grow w (w.alloc o1) from fun o1 => (Grow.rfl' w).allocd o1)
  have HB := Lib.hid (show ∀ o1 w', Grow (w.alloc o1) w' → w'.heap[w.heap.size]? = some o1 from fun o1 w' hg => by rw [hg.heapEq (by simp)]; exact heap_alloc_new w _)
  generalize hF : formR _ = F
  have HF := Lib.hid hF; clear hF
  obtain ⟨b1, hb1⟩ : ∃ b, decide (NameOk typ) = b := ⟨_, rfl⟩
  obtain ⟨b2, hb2⟩ : ∃ b, decide (NameOk name) = b := ⟨_, rfl⟩
  obtain ⟨b3, hb3⟩ : ∃ b, decide (NameOk from_) = b := ⟨_, rfl⟩
  obtain ⟨b4, hb4⟩ : ∃ b, decide (NameOk to_) = b := ⟨_, rfl⟩
  have H1 := Lib.hid hb1; have H2 := Lib.hid hb2; have H3 := Lib.hid hb3; have H4 := Lib.hid hb4
  clear hb1 hb2 hb3 hb4
  have HK := Lib.hid True.intro
  cases b1
  · skip
    have hF : F = false := by rw [← HF.out]; simp [formR, H1.out, *]
    subst hF
    clear HF
    go_enter Tryz.func39, Tryz.ntmps39
    go_wp2_with fail
    refine wp_region_grow (by kernel_rfl) (by kernel_rfl) ?_
    repeat (go_big_quiet_step (first | (go_at_call 60; with_reducible exact calls_gr (valNameG H1.out _)) | (go_at_call 60; with_reducible exact calls_gr (valNameG H2.out _))))
    refine wpQuiet_nil ?_
    intro w2 hw2
    have HB2 := HB.out _ w2 hw2
    have hbl := blk_lt HB2
    have c1 : w2.cell? ⟨w.heap.size, 1, none⟩ = some (.int .i64 4) := by rw [blk_cell HB2]; rfl
    have c3 : w2.cell? ⟨w.heap.size, 3, none⟩ = some (.string name) := by rw [blk_cell HB2]; rfl
    have c4 : w2.cell? ⟨w.heap.size, 4, none⟩ = some (.string from_) := by rw [blk_cell HB2]; rfl
    have c5 : w2.cell? ⟨w.heap.size, 5, none⟩ = some (.string to_) := by rw [blk_cell HB2]; rfl
    have c6 : w2.cell? ⟨w.heap.size, 6, none⟩ = some (.int .i64 n) := by rw [blk_cell HB2]; rfl
    have HG2 := Lib.hid ((HW.out _).step hw2)
    clear HB2 hw2
    go_wp2_with (go_at_call 60; (first | (with_reducible refine (valNameB H1.out _).mono ?_) | (with_reducible refine (valNameB H2.out _).mono ?_) | (with_reducible refine (valNameB H3.out _).mono ?_) | (with_reducible refine (valNameB H4.out _).mono ?_)); rintro e w3 ⟨rfl, rfl⟩)
    go_ret
    exact ⟨rfl, HG2.out⟩
  · skip
    by_cases h1 : name = ByteArray.empty
    · skip
      subst h1
      by_cases h2 : from_ = ByteArray.empty
      · skip
        subst h2
        by_cases h3 : to_ = ByteArray.empty
        · skip
          subst h3
          by_cases h4 : 0 ≤ n
          · skip
            have q4 : decide (0 ≤ n) = true := by simpa using h4
            by_cases h5 : n ≤ 1024
            · skip
              have q5 : decide (n ≤ 1024) = true := by simpa using h5
              have hF : F = true := by rw [← HF.out]; simp [formR, H1.out, *]
              subst hF
              clear HF
              go_enter Tryz.func39, Tryz.ntmps39
              go_wp2_with fail
              refine wp_region_grow (by kernel_rfl) (by kernel_rfl) ?_
              repeat (go_big_quiet_step (first | (go_at_call 60; with_reducible exact calls_gr (valNameG H1.out _)) | (go_at_call 60; with_reducible exact calls_gr (valNameG H2.out _))))
              refine wpQuiet_nil ?_
              intro w2 hw2
              have HB2 := HB.out _ w2 hw2
              have hbl := blk_lt HB2
              have c1 : w2.cell? ⟨w.heap.size, 1, none⟩ = some (.int .i64 4) := by rw [blk_cell HB2]; rfl
              have c3 : w2.cell? ⟨w.heap.size, 3, none⟩ = some (.string ByteArray.empty) := by rw [blk_cell HB2]; rfl
              have c4 : w2.cell? ⟨w.heap.size, 4, none⟩ = some (.string ByteArray.empty) := by rw [blk_cell HB2]; rfl
              have c5 : w2.cell? ⟨w.heap.size, 5, none⟩ = some (.string ByteArray.empty) := by rw [blk_cell HB2]; rfl
              have c6 : w2.cell? ⟨w.heap.size, 6, none⟩ = some (.int .i64 n) := by rw [blk_cell HB2]; rfl
              have HG2 := Lib.hid ((HW.out _).step hw2)
              clear HB2 hw2
              go_wp2_with (go_at_call 60; (first | (with_reducible refine (valNameB H1.out _).mono ?_) | (with_reducible refine (valNameB H2.out _).mono ?_) | (with_reducible refine (valNameB H3.out _).mono ?_) | (with_reducible refine (valNameB H4.out _).mono ?_)); rintro e w3 ⟨rfl, rfl⟩)
              go_ret
              exact ⟨rfl, HG2.out⟩
            · skip
              have q5 : decide (n ≤ 1024) = false := by simpa using h5
              have hF : F = false := by rw [← HF.out]; simp [formR, H1.out, *]
              subst hF
              clear HF
              go_enter Tryz.func39, Tryz.ntmps39
              go_wp2_with fail
              refine wp_region_grow (by kernel_rfl) (by kernel_rfl) ?_
              repeat (go_big_quiet_step (first | (go_at_call 60; with_reducible exact calls_gr (valNameG H1.out _)) | (go_at_call 60; with_reducible exact calls_gr (valNameG H2.out _))))
              refine wpQuiet_nil ?_
              intro w2 hw2
              have HB2 := HB.out _ w2 hw2
              have hbl := blk_lt HB2
              have c1 : w2.cell? ⟨w.heap.size, 1, none⟩ = some (.int .i64 4) := by rw [blk_cell HB2]; rfl
              have c3 : w2.cell? ⟨w.heap.size, 3, none⟩ = some (.string ByteArray.empty) := by rw [blk_cell HB2]; rfl
              have c4 : w2.cell? ⟨w.heap.size, 4, none⟩ = some (.string ByteArray.empty) := by rw [blk_cell HB2]; rfl
              have c5 : w2.cell? ⟨w.heap.size, 5, none⟩ = some (.string ByteArray.empty) := by rw [blk_cell HB2]; rfl
              have c6 : w2.cell? ⟨w.heap.size, 6, none⟩ = some (.int .i64 n) := by rw [blk_cell HB2]; rfl
              have HG2 := Lib.hid ((HW.out _).step hw2)
              clear HB2 hw2
              go_wp2_with (go_at_call 60; (first | (with_reducible refine (valNameB H1.out _).mono ?_) | (with_reducible refine (valNameB H2.out _).mono ?_) | (with_reducible refine (valNameB H3.out _).mono ?_) | (with_reducible refine (valNameB H4.out _).mono ?_)); rintro e w3 ⟨rfl, rfl⟩)
              go_ret
              exact ⟨rfl, HG2.out⟩
          · skip
            have q4 : decide (0 ≤ n) = false := by simpa using h4
            have hF : F = false := by rw [← HF.out]; simp [formR, H1.out, *]
            subst hF
            clear HF
            go_enter Tryz.func39, Tryz.ntmps39
            go_wp2_with fail
            refine wp_region_grow (by kernel_rfl) (by kernel_rfl) ?_
            repeat (go_big_quiet_step (first | (go_at_call 60; with_reducible exact calls_gr (valNameG H1.out _)) | (go_at_call 60; with_reducible exact calls_gr (valNameG H2.out _))))
            refine wpQuiet_nil ?_
            intro w2 hw2
            have HB2 := HB.out _ w2 hw2
            have hbl := blk_lt HB2
            have c1 : w2.cell? ⟨w.heap.size, 1, none⟩ = some (.int .i64 4) := by rw [blk_cell HB2]; rfl
            have c3 : w2.cell? ⟨w.heap.size, 3, none⟩ = some (.string ByteArray.empty) := by rw [blk_cell HB2]; rfl
            have c4 : w2.cell? ⟨w.heap.size, 4, none⟩ = some (.string ByteArray.empty) := by rw [blk_cell HB2]; rfl
            have c5 : w2.cell? ⟨w.heap.size, 5, none⟩ = some (.string ByteArray.empty) := by rw [blk_cell HB2]; rfl
            have c6 : w2.cell? ⟨w.heap.size, 6, none⟩ = some (.int .i64 n) := by rw [blk_cell HB2]; rfl
            have HG2 := Lib.hid ((HW.out _).step hw2)
            clear HB2 hw2
            go_wp2_with (go_at_call 60; (first | (with_reducible refine (valNameB H1.out _).mono ?_) | (with_reducible refine (valNameB H2.out _).mono ?_) | (with_reducible refine (valNameB H3.out _).mono ?_) | (with_reducible refine (valNameB H4.out _).mono ?_)); rintro e w3 ⟨rfl, rfl⟩)
            go_ret
            exact ⟨rfl, HG2.out⟩
        · skip
          have q3 : (to_.toList == ([] : List UInt8)) = false := (empty_beq to_).trans (decide_eq_false h3)
          have hF : F = false := by rw [← HF.out]; simp [formR, H1.out, *]
          subst hF
          clear HF
          go_enter Tryz.func39, Tryz.ntmps39
          go_wp2_with fail
          refine wp_region_grow (by kernel_rfl) (by kernel_rfl) ?_
          repeat (go_big_quiet_step (first | (go_at_call 60; with_reducible exact calls_gr (valNameG H1.out _)) | (go_at_call 60; with_reducible exact calls_gr (valNameG H2.out _))))
          refine wpQuiet_nil ?_
          intro w2 hw2
          have HB2 := HB.out _ w2 hw2
          have hbl := blk_lt HB2
          have c1 : w2.cell? ⟨w.heap.size, 1, none⟩ = some (.int .i64 4) := by rw [blk_cell HB2]; rfl
          have c3 : w2.cell? ⟨w.heap.size, 3, none⟩ = some (.string ByteArray.empty) := by rw [blk_cell HB2]; rfl
          have c4 : w2.cell? ⟨w.heap.size, 4, none⟩ = some (.string ByteArray.empty) := by rw [blk_cell HB2]; rfl
          have c5 : w2.cell? ⟨w.heap.size, 5, none⟩ = some (.string to_) := by rw [blk_cell HB2]; rfl
          have c6 : w2.cell? ⟨w.heap.size, 6, none⟩ = some (.int .i64 n) := by rw [blk_cell HB2]; rfl
          have HG2 := Lib.hid ((HW.out _).step hw2)
          clear HB2 hw2
          go_wp2_with (go_at_call 60; (first | (with_reducible refine (valNameB H1.out _).mono ?_) | (with_reducible refine (valNameB H2.out _).mono ?_) | (with_reducible refine (valNameB H3.out _).mono ?_) | (with_reducible refine (valNameB H4.out _).mono ?_)); rintro e w3 ⟨rfl, rfl⟩)
          go_ret
          exact ⟨rfl, HG2.out⟩
      · skip
        have q2 : (from_.toList == ([] : List UInt8)) = false := (empty_beq from_).trans (decide_eq_false h2)
        have hF : F = false := by rw [← HF.out]; simp [formR, H1.out, *]
        subst hF
        clear HF
        go_enter Tryz.func39, Tryz.ntmps39
        go_wp2_with fail
        refine wp_region_grow (by kernel_rfl) (by kernel_rfl) ?_
        repeat (go_big_quiet_step (first | (go_at_call 60; with_reducible exact calls_gr (valNameG H1.out _)) | (go_at_call 60; with_reducible exact calls_gr (valNameG H2.out _))))
        refine wpQuiet_nil ?_
        intro w2 hw2
        have HB2 := HB.out _ w2 hw2
        have hbl := blk_lt HB2
        have c1 : w2.cell? ⟨w.heap.size, 1, none⟩ = some (.int .i64 4) := by rw [blk_cell HB2]; rfl
        have c3 : w2.cell? ⟨w.heap.size, 3, none⟩ = some (.string ByteArray.empty) := by rw [blk_cell HB2]; rfl
        have c4 : w2.cell? ⟨w.heap.size, 4, none⟩ = some (.string from_) := by rw [blk_cell HB2]; rfl
        have c5 : w2.cell? ⟨w.heap.size, 5, none⟩ = some (.string to_) := by rw [blk_cell HB2]; rfl
        have c6 : w2.cell? ⟨w.heap.size, 6, none⟩ = some (.int .i64 n) := by rw [blk_cell HB2]; rfl
        have HG2 := Lib.hid ((HW.out _).step hw2)
        clear HB2 hw2
        go_wp2_with (go_at_call 60; (first | (with_reducible refine (valNameB H1.out _).mono ?_) | (with_reducible refine (valNameB H2.out _).mono ?_) | (with_reducible refine (valNameB H3.out _).mono ?_) | (with_reducible refine (valNameB H4.out _).mono ?_)); rintro e w3 ⟨rfl, rfl⟩)
        go_ret
        exact ⟨rfl, HG2.out⟩
    · skip
      have q1 : (name.toList == ([] : List UInt8)) = false := (empty_beq name).trans (decide_eq_false h1)
      have hF : F = false := by rw [← HF.out]; simp [formR, H1.out, *]
      subst hF
      clear HF
      go_enter Tryz.func39, Tryz.ntmps39
      go_wp2_with fail
      refine wp_region_grow (by kernel_rfl) (by kernel_rfl) ?_
      repeat (go_big_quiet_step (first | (go_at_call 60; with_reducible exact calls_gr (valNameG H1.out _)) | (go_at_call 60; with_reducible exact calls_gr (valNameG H2.out _))))
      refine wpQuiet_nil ?_
      intro w2 hw2
      have HB2 := HB.out _ w2 hw2
      have hbl := blk_lt HB2
      have c1 : w2.cell? ⟨w.heap.size, 1, none⟩ = some (.int .i64 4) := by rw [blk_cell HB2]; rfl
      have c3 : w2.cell? ⟨w.heap.size, 3, none⟩ = some (.string name) := by rw [blk_cell HB2]; rfl
      have c4 : w2.cell? ⟨w.heap.size, 4, none⟩ = some (.string from_) := by rw [blk_cell HB2]; rfl
      have c5 : w2.cell? ⟨w.heap.size, 5, none⟩ = some (.string to_) := by rw [blk_cell HB2]; rfl
      have c6 : w2.cell? ⟨w.heap.size, 6, none⟩ = some (.int .i64 n) := by rw [blk_cell HB2]; rfl
      have HG2 := Lib.hid ((HW.out _).step hw2)
      clear HB2 hw2
      go_wp2_with (go_at_call 60; (first | (with_reducible refine (valNameB H1.out _).mono ?_) | (with_reducible refine (valNameB H2.out _).mono ?_) | (with_reducible refine (valNameB H3.out _).mono ?_) | (with_reducible refine (valNameB H4.out _).mono ?_)); rintro e w3 ⟨rfl, rfl⟩)
      go_ret
      exact ⟨rfl, HG2.out⟩
set_option maxRecDepth 100000 in
set_option maxHeartbeats 2000000 in
theorem ruleForm0 (id kind : Int) (typ name from_ to_ : ByteArray) (n state : Int) (hk : kind ≠ 1 ∧ kind ≠ 2 ∧ kind ≠ 3 ∧ kind ≠ 4) (w : World) : Calls Tryz.prog 39 #[(PRule.mk id kind typ name from_ to_ n state).args] w fun e w' => e = .returned (.bool (formR ⟨id, kind, typ, name, from_, to_, n, state⟩)) ∧ Grow w w' := by
  have HW := Lib.hid (show ∀ o1, Grow w (w.alloc o1) from fun o1 => (Grow.rfl' w).allocd o1)
  have HB := Lib.hid (show ∀ o1 w', Grow (w.alloc o1) w' → w'.heap[w.heap.size]? = some o1 from fun o1 w' hg => by rw [hg.heapEq (by simp)]; exact heap_alloc_new w _)
  generalize hF : formR _ = F
  have HF := Lib.hid hF; clear hF
  obtain ⟨b1, hb1⟩ : ∃ b, decide (NameOk typ) = b := ⟨_, rfl⟩
  obtain ⟨b2, hb2⟩ : ∃ b, decide (NameOk name) = b := ⟨_, rfl⟩
  obtain ⟨b3, hb3⟩ : ∃ b, decide (NameOk from_) = b := ⟨_, rfl⟩
  obtain ⟨b4, hb4⟩ : ∃ b, decide (NameOk to_) = b := ⟨_, rfl⟩
  have H1 := Lib.hid hb1; have H2 := Lib.hid hb2; have H3 := Lib.hid hb3; have H4 := Lib.hid hb4
  clear hb1 hb2 hb3 hb4
  obtain ⟨k1, k2, k3, k4⟩ := hk
  have HK := Lib.hid (And.intro k1 (And.intro k2 (And.intro k3 k4)))
  have hF : F = false := by rw [← HF.out]; simp [formR, HK.out, *]
  subst hF
  clear HF
  go_enter Tryz.func39, Tryz.ntmps39
  go_wp2_with fail
  refine wp_region_grow (by kernel_rfl) (by kernel_rfl) ?_
  repeat (go_big_quiet_step (first | (go_at_call 60; with_reducible exact calls_gr (valNameG H1.out _)) | (go_at_call 60; with_reducible exact calls_gr (valNameG H2.out _))))
  refine wpQuiet_nil ?_
  intro w2 hw2
  have HB2 := HB.out _ w2 hw2
  have hbl := blk_lt HB2
  have c1 : w2.cell? ⟨w.heap.size, 1, none⟩ = some (.int .i64 kind) := by rw [blk_cell HB2]; rfl
  have c3 : w2.cell? ⟨w.heap.size, 3, none⟩ = some (.string name) := by rw [blk_cell HB2]; rfl
  have c4 : w2.cell? ⟨w.heap.size, 4, none⟩ = some (.string from_) := by rw [blk_cell HB2]; rfl
  have c5 : w2.cell? ⟨w.heap.size, 5, none⟩ = some (.string to_) := by rw [blk_cell HB2]; rfl
  have c6 : w2.cell? ⟨w.heap.size, 6, none⟩ = some (.int .i64 n) := by rw [blk_cell HB2]; rfl
  have HG2 := Lib.hid ((HW.out _).step hw2)
  clear HB2 hw2
  go_wp2_with (go_at_call 60; (first | (with_reducible refine (valNameB H1.out _).mono ?_) | (with_reducible refine (valNameB H2.out _).mono ?_) | (with_reducible refine (valNameB H3.out _).mono ?_) | (with_reducible refine (valNameB H4.out _).mono ?_)); rintro e w3 ⟨rfl, rfl⟩)
  go_ret
  exact ⟨rfl, HG2.out⟩
theorem ruleForm (r : PRule) (w : World) : Calls Tryz.prog 39 #[r.args] w fun e w' => e = .returned (.bool (formR r)) ∧ Grow w w' := by
  obtain ⟨id, kind, typ, name, from_, to_, n, state⟩ := r
  by_cases k1 : kind = 1
  · subst k1; exact ruleForm1 id typ name from_ to_ n state w
  by_cases k2 : kind = 2
  · subst k2; exact ruleForm2 id typ name from_ to_ n state w
  by_cases k3 : kind = 3
  · subst k3; exact ruleForm3 id typ name from_ to_ n state w
  by_cases k4 : kind = 4
  · subst k4; exact ruleForm4 id typ name from_ to_ n state w
  exact ruleForm0 id kind typ name from_ to_ n state ⟨k1, k2, k3, k4⟩ w

end Go.Hg

namespace Go.Hg
open Go.RowKit Go.Proofs

structure PJob where
  r : PRule
  chunk : Int
  pos : Int
  tch : List Int
def tchF (l : List Int) : Int → Option Value := fun k => if k ∈ l then some (.int .i64 1) else none
def JobInv (J : PJob) : Prop := 1 ≤ J.chunk ∧ J.chunk ≤ 1024 ∧ 1 ≤ J.pos ∧ J.pos ≤ 4611686018427387904 ∧ J.tch.Pairwise (· < ·) ∧ J.tch.length ≤ 4096 ∧ (∀ x ∈ J.tch, (Lit.int .i64 x).wf = true)
abbrev jobCells (J : PJob) (cb mb : Nat) : Array Value := #[.int .i64 J.r.id, .int .i64 J.r.kind, .string J.r.typ, .string J.r.name, .string J.r.from_, .string J.r.to_, .int .i64 J.r.n, .int .i64 J.r.state, .int .i64 J.chunk, .int .i64 J.pos, .chan (some cb), .map (some mb)]
def JobOk (S : Nat → Prop) (w : World) (B : Nat) (J : PJob) : Prop :=
  ∃ cb mb s r tm, S B ∧ S cb ∧ S mb ∧ B ≠ cb ∧ B ≠ mb ∧ cb ≠ mb ∧ w.heap[B]? = some (.cells (jobCells J cb mb) 88 (0, 0)) ∧ w.heap[cb]? = some (.chan 4097 #[] false s r tm) ∧ MapI w mb (tchF J.tch) 4096
theorem JobOk.grow {S : Nat → Prop} {w w' : World} {B : Nat} {J : PJob} (h : JobOk S w B J) (g : Grow w w') : JobOk S w' B J := by
  obtain ⟨cb, mb, s, r, tm, h1, h2, h3, h4, h5, h6, h7, h8, h9⟩ := h
  exact ⟨cb, mb, s, r, tm, h1, h2, h3, h4, h5, h6, (g.heapEq (blk_lt h7)).trans h7, (g.heapEq (blk_lt h8)).trans h8, h9.grow g⟩
theorem JobOk.keep {S F : Nat → Prop} {w w' : World} {B : Nat} {J : PJob} (h : JobOk S w B J) (g : Mod F w w') (hd : ∀ b, S b → ¬ F b) : JobOk S w' B J := by
  obtain ⟨cb, mb, s, r, tm, h1, h2, h3, h4, h5, h6, h7, h8, h9⟩ := h
  exact ⟨cb, mb, s, r, tm, h1, h2, h3, h4, h5, h6, (g.block B (blk_lt h7) (hd B h1)).trans h7, (g.block cb (blk_lt h8) (hd cb h2)).trans h8, h9.mod g (hd mb h3)⟩
theorem tchF_nil : tchF [] = fun _ => none := by funext k; simp [tchF]
theorem tchF_some (l : List Int) (k : Int) : (tchF l k).isSome = true ↔ k ∈ l := by unfold tchF; split <;> simp [*]

def newE (r : PRule) (chunk : Int) : Int := if formR r = false then 11 else if chunk < 1 ∨ 1024 < chunk then 1 else 0

abbrev RuleB (w : World) (b : Nat) (r : PRule) : Prop := w.cell? ⟨b, 0, none⟩ = some (.int .i64 r.id) ∧ w.cell? ⟨b, 1, none⟩ = some (.int .i64 r.kind) ∧ w.cell? ⟨b, 2, none⟩ = some (.string r.typ) ∧ w.cell? ⟨b, 3, none⟩ = some (.string r.name) ∧ w.cell? ⟨b, 4, none⟩ = some (.string r.from_) ∧ w.cell? ⟨b, 5, none⟩ = some (.string r.to_) ∧ w.cell? ⟨b, 6, none⟩ = some (.int .i64 r.n) ∧ w.cell? ⟨b, 7, none⟩ = some (.int .i64 r.state)
def ruleRow (r : PRule) : List Value := [.int .i64 r.id, .int .i64 r.kind, .string r.typ, .string r.name, .string r.from_, .string r.to_, .int .i64 r.n, .int .i64 r.state]
theorem ruleB_of {w : World} {b : Nat} {r : PRule} {T : TypeId} {rest : List Value} (h : w.heap[b]? = some (.cells (ruleRow r ++ rest).toArray T (0, 0))) : RuleB w b r := by
  refine ⟨?_, ?_, ?_, ?_, ?_, ?_, ?_, ?_⟩ <;> simp [World.cell?, h, ruleRow]
theorem at3 (W : World) (o1 o2 o3 : Obj) : (((W.alloc o1).alloc o2).alloc o3).heap[W.heap.size]? = some o1 ∧ (((W.alloc o1).alloc o2).alloc o3).heap[W.heap.size + 1]? = some o2 ∧ (((W.alloc o1).alloc o2).alloc o3).heap[W.heap.size + 1 + 1]? = some o3 := by
  have h3 := heap_alloc_new ((W.alloc o1).alloc o2) o3
  rw [World.size_alloc, World.size_alloc] at h3
  have h2 := heap_alloc_new (W.alloc o1) o2
  rw [World.size_alloc] at h2
  refine ⟨?_, ?_, h3⟩
  · rw [(((Grow.rfl' _).allocd o2).allocd o3 : Grow (W.alloc o1) _).heapEq (by simp)]
    exact heap_alloc_new W o1
  · rw [((Grow.rfl' _).allocd o3 : Grow ((W.alloc o1).alloc o2) _).heapEq (by simp)]
    exact h2
theorem jobMkA (w1 W : World) (n : Nat) (hn : n ≤ w1.heap.size) (r : PRule) (chunk : Int)
    (hW : W.heap = (((w1.alloc (.chan 4097 #[] false 0 0 false)).alloc (.map #[] 0)).alloc (.cells (jobCells ⟨r, chunk, 1, []⟩ w1.heap.size (w1.heap.size + 1)) 88)).heap) :
    JobOk (fun b => n ≤ b) W (w1.heap.size + 1 + 1) ⟨r, chunk, 1, []⟩ := by
  obtain ⟨h1, h2, h3⟩ := at3 w1 (.chan 4097 #[] false 0 0 false) (.map #[] 0) (.cells (jobCells ⟨r, chunk, 1, []⟩ w1.heap.size (w1.heap.size + 1)) 88)
  rw [← hW] at h1 h2 h3
  exact ⟨_, _, 0, 0, false, by simp; omega, by simp; omega, by simp; omega, by omega, by omega, by omega, h3, h1, by rw [tchF_nil]; exact (⟨#[], 0, h2, MapKept.stamped_empty 0, by simp, by simp, by simp⟩ : MapI W _ (fun _ => none) 4096)⟩
theorem jobMkB (w1 W : World) (n : Nat) (hn : n ≤ w1.heap.size) (r : PRule) (chunk : Int)
    (hW : W.heap = (((w1.alloc (.map #[] 0)).alloc (.chan 4097 #[] false 0 0 false)).alloc (.cells (jobCells ⟨r, chunk, 1, []⟩ (w1.heap.size + 1) w1.heap.size) 88)).heap) :
    JobOk (fun b => n ≤ b) W (w1.heap.size + 1 + 1) ⟨r, chunk, 1, []⟩ := by
  obtain ⟨h1, h2, h3⟩ := at3 w1 (.map #[] 0) (.chan 4097 #[] false 0 0 false) (.cells (jobCells ⟨r, chunk, 1, []⟩ (w1.heap.size + 1) w1.heap.size) 88)
  rw [← hW] at h1 h2 h3
  exact ⟨_, _, 0, 0, false, by simp; omega, by simp; omega, by simp; omega, by omega, by omega, by omega, h3, h2, by rw [tchF_nil]; exact (⟨#[], 0, h1, MapKept.stamped_empty 0, by simp, by simp, by simp⟩ : MapI W _ (fun _ => none) 4096)⟩
theorem jobB_of {w : World} {B cb mb : Nat} {J : PJob} {T : TypeId} (h : w.heap[B]? = some (.cells (jobCells J cb mb) T (0, 0))) :
    RuleB w B J.r ∧ w.cell? ⟨B, 8, none⟩ = some (.int .i64 J.chunk) ∧ w.cell? ⟨B, 9, none⟩ = some (.int .i64 J.pos) ∧ w.cell? ⟨B, 10, none⟩ = some (.chan (some cb)) ∧ w.cell? ⟨B, 11, none⟩ = some (.map (some mb)) :=
  ⟨ruleB_of (rest := [.int .i64 J.chunk, .int .i64 J.pos, .chan (some cb), .map (some mb)]) h, by simp [World.cell?, h], by simp [World.cell?, h], by simp [World.cell?, h], by simp [World.cell?, h]⟩
theorem jobSetPos {w : World} {B cb mb : Nat} {J : PJob} {T : TypeId} (h : w.heap[B]? = some (.cells (jobCells J cb mb) T (0, 0))) (z : Int) :
    (w.setCell ⟨B, 9, none⟩ (.int .i64 z)).heap[B]? = some (.cells (jobCells { J with pos := z } cb mb) T (0, 0)) ∧ Mod (fun b => b = B) w (w.setCell ⟨B, 9, none⟩ (.int .i64 z)) :=
  ⟨by rw [heap_setCell_same w B 9 _ T _ h]; rfl, (Mod.rfl' (fun b => b = B) w).setd (p := ⟨B, 9, none⟩) (.inl rfl) _⟩
theorem jobFroz {w : World} {B cb mb : Nat} {J : PJob} {T : TypeId} (h : w.heap[B]? = some (.cells (jobCells J cb mb) T (0, 0))) (i : Nat) : w.frozen? ⟨B, i, none⟩ = false := by simp [World.frozen?, h]
def NewPost (_T : TypeId) (w : World) (r : PRule) (chunk : Int) (e : Ending) (w' : World) : Prop :=
  Grow w w' ∧ ((newE r chunk ≠ 0 ∧ e = .returned (.tuple #[.pointer none, .int .i64 (newE r chunk)])) ∨ (newE r chunk = 0 ∧ ∃ B, e = .returned (.tuple #[.pointer (some ⟨B, 0, none⟩), .int .i64 0]) ∧ JobOk (fun b => w.heap.size ≤ b) w' B ⟨r, chunk, 1, []⟩))

set_option maxRecDepth 100000 in
set_option maxHeartbeats 2000000 in
theorem buildNew (r : PRule) (chunk : Int) (w : World) : Calls Tryz.prog 13 #[r.args, .int .i64 chunk] w (NewPost 0 w r chunk) := by
  have HW := Lib.hid (show ∀ o1, Grow w (w.alloc o1) from fun o1 => (Grow.rfl' w).allocd o1)
  have HC := Lib.hid (show ∀ w', Grow (w.alloc (.cells #[.int .i64 r.id, .int .i64 r.kind, .string r.typ, .string r.name, .string r.from_, .string r.to_, .int .i64 r.n, .int .i64 r.state] 23)) w' → w'.heap[w.heap.size]? = some (.cells #[.int .i64 r.id, .int .i64 r.kind, .string r.typ, .string r.name, .string r.from_, .string r.to_, .int .i64 r.n, .int .i64 r.state] 23) from fun w' g => by rw [g.heapEq (by simp)]; exact heap_alloc_new w _)
  have hmm := @run_makeMap Tryz.prog
  have hmc : ∀ W : World, (Instr.makeChan 85 (.int .i64 4097)).run Tryz.prog W = .ok (.chan (some W.heap.size)) (W.alloc (.chan 4097 #[] false 0 0 false)) := fun W => Go.Conc.run_makeChan Tryz.underlying85 rfl .i64 4097 (by decide) (by decide)
  go_enter Tryz.func13, Tryz.ntmps13
  go_wp2_with fail
  refine (ruleForm r _).mono ?_
  rintro e w1 ⟨rfl, g1⟩
  have HG1 := Lib.hid g1; have HG01 := Lib.hid ((HW.out _).step g1)
  have HC1 := Lib.hid (HC.out w1 g1)
  obtain ⟨fr, hfr⟩ : ∃ fr, formR r = fr := ⟨_, rfl⟩
  rw [hfr]
  have HF := Lib.hid hfr
  clear g1 hfr
  cases fr
  · go_wp2
    go_ret2
    exact ⟨HG01.out, .inl (by have hE : newE r chunk = 11 := (by unfold newE; rw [HF.out]; rfl); rw [hE]; exact ⟨by decide, rfl⟩)⟩
  · by_cases h1 : chunk < 1
    · have HE := Lib.hid (show newE r chunk = 1 by unfold newE; rw [HF.out]; simp [h1])
      go_wp2
      go_ret2
      exact ⟨HG01.out, .inl (by rw [HE.out]; exact ⟨by decide, rfl⟩)⟩
    · by_cases h2 : 1024 < chunk
      · have HE := Lib.hid (show newE r chunk = 1 by unfold newE; rw [HF.out]; simp [h2])
        go_wp2
        go_ret2
        exact ⟨HG01.out, .inl (by rw [HE.out]; exact ⟨by decide, rfl⟩)⟩
      · have HE := Lib.hid (show newE r chunk = 0 by unfold newE; rw [HF.out]; simp; omega)
        have hb := HC1.out
        have hbl := blk_lt hb
        go_wp2
        have HS := Lib.hid (show ∀ w', Grow w1 w' → RuleB w' w.heap.size r from fun w' g => ruleB_of (rest := []) ((g.heapEq hbl).trans hb))
        clear hb hbl
        go_region_held3 (fun w' => RuleB w' w.heap.size r) (exact HS.out _ (by repeat first | exact Grow.rfl' _ | apply Grow.drewd | apply Grow.allocd)) (fail)
        all_goals go_wp2
        all_goals go_ret2
        all_goals exact ⟨HG01.out.step (by repeat first | exact Grow.rfl' _ | apply Grow.drewd | apply Grow.allocd), .inr ⟨HE.out, _, rfl, by first | exact jobMkA w1 _ _ HG01.out.size r chunk rfl | exact jobMkB w1 _ _ HG01.out.size r chunk rfl⟩⟩
end Go.Hg

namespace Go.Hg
open Go.RowKit Go.Proofs

theorem wpList_lookIz {P : Program} {ops : Array Oper} {rest : List Oper} {o : Oper} {a : Act} {Q : Exit → Act → World → Prop} (w : World) (hg : o.guard = none) (m x : Operand) (t : TypeId) (hop : o.op = Op.lookup t m x false) (kt et : TypeId) (ht : P.underlying t = some (.map kt et)) (hk : P.underlying kt = some (.int .i64)) (z : Value)
    (hz : (zeroValue et).run P w = .ok z w) (b n : Nat) (f : Int → Option Value) (hm : a.eval m = .map (some b)) (h : MapI w b f n) (k : Int) (hx : a.eval x = .int .i64 k) (hf : f k = none)
    (hK : wpList P ops Q rest (a.put o.dst z) w) : wpList P ops Q (o :: rest) a w :=
  wpList_lookI w hg m x t hop kt et ht hk z hz b n f hm h k hx (by rw [hf]; exact hK)
theorem zeroIntB (w : World) : (zeroValue 3).run Tryz.prog w = .ok (.int .i64 0) w := by kernel_rfl
set_option maxRecDepth 100000 in
set_option maxHeartbeats 2000000 in
theorem jobTakes (J : PJob) (B cb mb : Nat) (s r : Nat) (tm : Bool) (x : Int) (n : Nat) (f : Int → Option Value) (w : World) (hB : w.heap[B]? = some (.cells (jobCells J cb mb) 88 (0, 0))) (hcb : w.heap[cb]? = some (.chan 4097 #[.int .i64 x] false s r tm)) (hm : MapI w mb f n) (hf : f x = none)
    (h1 : B ≠ cb) (h2 : B ≠ mb) (h3 : cb ≠ mb) :
    Calls Tryz.prog 44 #[.pointer (some ⟨B, 0, none⟩)] w fun e w' => e = .returned (.tuple #[]) ∧ Mod (fun b => b = cb ∨ b = mb) w w' ∧ w'.heap[cb]? = some (.chan 4097 #[] false s (r + 1) tm) ∧ MapI w' mb (fput f x (.int .i64 1)) (n + 1) := by
  go_enter Tryz.func44, Tryz.ntmps44
  go_wp2
  go_loopg [] 1 (fun g wr => (g = 1 ∧ wr = w) ∨ (g = 0 ∧ Mod (fun b => b = cb ∨ b = mb) w wr ∧ wr.heap[cb]? = some (.chan 4097 #[] false s (r + 1) tm) ∧ MapI wr mb (fput f x (.int .i64 1)) (n + 1)))
  case atStart => exact .inl ⟨rfl, rfl⟩
  case round =>
    rcases hrel with ⟨rfl, rfl⟩ | ⟨rfl, hmod, hcb', hm'⟩
    · obtain ⟨-, -, -, c10, c11⟩ := jobB_of hB
      go_upto_region 1 with fail
      refine arr_region (show Arr _ _ _ [0, 1, 2] _ _ from ?_)
      refine arr_sel_buf (i := 0) (c := cb) (z := .int .i64 0) (cap := 4097) (buf := #[.int .i64 x]) (s := s) (r := r) (tm := tm) (closed := false) rfl (by kernel_rfl) (by simp [go_sem, execOp, Go.Conc.rcase, Act.eval]) hcb (by simp) ?_
      refine arr_value (w' := wr.setChan cb 4097 #[] false s (r + 1) tm) (v := .int .i64 0) (i := 1) rfl (by kernel_rfl) (by simp [go_sem, execOp, Act.eval, Act.put, goInt]) ?_
      refine arr_value (w' := wr.setChan cb 4097 #[] false s (r + 1) tm) (v := .bool true) (i := 2) rfl (by kernel_rfl) (by simp [go_sem, execOp, Act.eval, Act.put]) ?_
      refine arr_nil ?_
      simp [Act.put, goInt, Exit.then]
      obtain ⟨w2, hw2⟩ : ∃ w2, w2 = wr.setChan cb 4097 #[] false s (r + 1) tm := ⟨_, rfl⟩
      have hmod2 : Mod (fun b => b = cb ∨ b = mb) wr w2 := by subst hw2; exact ⟨rfl, rfl, rfl, by simp [World.setChan], fun k hk hne => by simp only [World.setChan]; rw [Array.getElem?_setIfInBounds_ne (fun e => hne (.inl e.symm))]⟩
      have hch2 : w2.heap[cb]? = some (.chan 4097 #[] false s (r + 1) tm) := by subst hw2; simp only [World.setChan]; rw [Array.getElem?_setIfInBounds_self, if_pos (Array.getElem?_eq_some_iff.1 hcb).1]
      have hm2 := hm.keep (w' := w2) (by subst hw2; simp only [World.setChan]; rw [Array.getElem?_setIfInBounds_ne h3])
      have hB2 := (hmod2.block B (blk_lt hB) (by omega)).trans hB
      rw [← hw2]
      obtain ⟨-, -, -, c10, c11⟩ := jobB_of hB2
      have HM2 := Lib.hid hm2; have HMOD := Lib.hid hmod2; have HCH := Lib.hid hch2
      clear hm2 hmod2 hch2 hm hB2 hw2 hB hcb
      go_wp2_with (first | (at_lookup; go_must (refine wpList_lookIz _ rfl (.tmp 14) (.tmp 15) 86 rfl 2 3 Tryz.underlying86 Tryz.underlying2 (.int .i64 0) (zeroIntB _) _ _ _ rfl HM2.out x rfl hf ?_)) | (at_mapUpdate; go_must (refine wpList_updI _ rfl (.tmp 14) (.tmp 15) (.tmp 17) 86 rfl 2 3 Tryz.underlying86 Tryz.underlying2 _ _ _ rfl HM2.out x rfl (.int .i64 1) (by first | rfl | (simp [Act.eval]; done)) ?_)))
      intro w3 hm3 hmod3 hs3
      go_wp2
      go_roundg 0
      case measure => omega
      case rel => exact .inr ⟨rfl, HMOD.out.step (hmod3.mono (fun b hb => .inr hb)), (hmod3.block cb (blk_lt HCH.out) h3).trans HCH.out, hm3⟩
    · have hB2 := (hmod.block B (blk_lt hB) (by omega)).trans hB
      obtain ⟨-, -, -, c10, c11⟩ := jobB_of hB2
      have HMOD := Lib.hid hmod; have HCH := Lib.hid hcb'; have HM := Lib.hid hm'
      clear hmod hcb' hm' hB2 hB
      go_upto_region 1 with fail
      refine arr_region (show Arr _ _ _ [0, 1, 2] _ _ from ?_)
      refine arr_sel_default (i := 0) (c := cb) (z := .int .i64 0) (cap := 4097) (s := s) (r := r + 1) (tm := tm) rfl (by kernel_rfl) (by simp [go_sem, execOp, Go.Conc.rcase, Act.eval]) HCH.out ?_
      refine arr_value (w' := wr) (v := .int .i64 (-1)) (i := 1) rfl (by kernel_rfl) (by simp [go_sem, execOp, Act.eval, Act.put, goInt]) ?_
      refine arr_value (w' := wr) (v := .bool false) (i := 2) rfl (by kernel_rfl) (by simp [go_sem, execOp, Act.eval, Act.put]) ?_
      refine arr_nil ?_
      simp [Act.put, goInt, Exit.then]
      go_wp2
      refine bodyPost_ret (results_none (by kernel_rfl) _ _ _) rfl ?_
      refine ⟨rfl, ?_⟩
      exact ⟨HMOD.out, HCH.out, HM.out⟩
end Go.Hg

namespace Go.Hg
open Go.RowKit Go.Proofs

def touchJ (J : PJob) (x : Int) : PJob := if J.pos ≤ x ∨ x ∈ J.tch then J else if J.tch.length = 4096 then { J with pos := 1, tch := [] } else { J with tch := putL J.tch x }
theorem putL_len1 {l : List Int} {x : Int} (h : x ∉ l) : (putL l x).length = l.length + 1 := by
  unfold putL
  rw [if_neg h]
  simp only [List.length_append, List.length_take, List.length_cons, List.length_drop]
  omega
theorem tchF_put (l : List Int) (x : Int) : tchF (putL l x) = fput (tchF l) x (.int .i64 1) := by
  funext k
  unfold tchF fput
  by_cases h : k = x
  · subst h; simp [mem_putL]
  · simp [mem_putL, h]
theorem touchJ_inv {J : PJob} (h : JobInv J) {x : Int} (hx : (Lit.int .i64 x).wf = true) : JobInv (touchJ J x) := by
  unfold touchJ
  split
  · exact h
  · split
    · obtain ⟨h1, h2, -⟩ := h
      exact ⟨h1, h2, by show (1 : Int) ≤ 1; omega, by show (1 : Int) ≤ 4611686018427387904; omega, List.Pairwise.nil, by simp, by simp⟩
    · rename_i hn hl
      obtain ⟨h1, h2, h3, h4, h5, h6, h7⟩ := h
      refine ⟨h1, h2, h3, h4, putL_rises h5 x, ?_, fun y hy => ?_⟩
      · show (putL J.tch x).length ≤ 4096
        rw [putL_len1 (fun h => hn (.inr h))]; omega
      · rcases (mem_putL _ _ _).1 hy with hy | rfl
        · exact h7 y hy
        · exact hx
def touchL (J : PJob) (l : List Int) : PJob := l.foldl touchJ J
theorem touchL_snoc (J : PJob) (l : List Int) (x : Int) : touchL J (l ++ [x]) = touchJ (touchL J l) x := by simp [touchL]
theorem touchL_inv {J : PJob} (h : JobInv J) : ∀ {l : List Int}, (∀ x ∈ l, (Lit.int .i64 x).wf = true) → JobInv (touchL J l) := by
  intro l
  induction l generalizing J with
  | nil => intro _; exact h
  | cons a t ih => intro hl; exact ih (touchJ_inv h (hl a (.head _))) (fun x hx => hl x (.tail _ hx))

theorem wpList_lenIz {P : Program} {ops : Array Oper} {rest : List Oper} {o : Oper} {a : Act} {Q : Exit → Act → World → Prop} (w : World) (hg : o.guard = none) (m : Operand) (t : TypeId) (hop : o.op = Op.call { callee := Callee.builtin Builtin.len, args := #[m], argTypes := #[t] }) (kt et : TypeId) (ht : P.underlying t = some (.map kt et))
    (b n : Nat) (f : Int → Option Value) (hm : a.eval m = .map (some b)) (h : MapI w b f n) (L : List Int) (hn : L.Nodup) (hL : ∀ k, (f k).isSome = true ↔ k ∈ L) (z : Int) (hz : (L.length : Int) = z)
    (hK : wpList P ops Q rest (a.put o.dst (.int .i64 z)) w) : wpList P ops Q (o :: rest) a w :=
  wpList_lenI w hg m t hop kt et ht b n f hm h L hn hL (by rw [hz]; exact hK)
set_option maxRecDepth 100000 in
set_option maxHeartbeats 4000000 in
theorem jobTouch (S SI : Nat → Prop) (B : Nat) (J : PJob) (v : Value) (l : List Int) (w : World) (h : JobOk S w B J) (hi : JobInv J) (hl : IdsR SI w v l) (hsep : ∀ b, SI b → ¬ S b) (h64 : ∀ x ∈ l, (Lit.int .i64 x).wf = true) :
    Calls Tryz.prog 15 #[.pointer (some ⟨B, 0, none⟩), v] w fun e w' => e = .returned (.tuple #[]) ∧ JobOk S w' B (touchL J l) ∧ Mod S w w' := by
  obtain ⟨aa, ca, rfl, hal, hac, hA⟩ := SlR.open hl
  unfold maxLen at hac
  have HL := Lib.hid hl; have HJ := Lib.hid h; have HI := Lib.hid hi; have H64 := Lib.hid h64; have HSEP := Lib.hid hsep
  clear hl hA h hi h64 hsep
  go_enter Tryz.func15, Tryz.ntmps15
  go_wp2
  go_loopg [10] l.length (fun g iv wr => ∃ k : Nat, k ≤ l.length ∧ g = l.length - k ∧ iv = .int .i64 k ∧ JobOk S wr B (touchL J (l.take k)) ∧ Mod S w wr)
  case atStart => exact ⟨0, by omega, by omega, rfl, HJ.out, Mod.rfl' _ _⟩
  case round =>
    obtain ⟨k, hk, rfl, rfl, hj, hgr⟩ := hrel
    by_cases hkl : k < l.length
    · obtain ⟨_, _, he, -, -, hA'⟩ := SlR.open (HL.out.modS hgr HSEP.out)
      cases he
      obtain ⟨ba, oa, ra, rfl, hSa, hba, hRa, hca⟩ := hA' k l[k] (List.getElem?_eq_getElem hkl)
      have hca0 := hca 0 (.int .i64 l[k]) (by rw [show ra = [.int .i64 l[k]] from hRa]; rfl)
      rw [Nat.mul_one, Nat.add_zero] at hca0
      have HX := Lib.hid (show (Lit.int .i64 l[k]).wf = true from H64.out _ (List.getElem_mem hkl))
      have HTL := Lib.hid (show touchL J (l.take (k + 1)) = touchJ (touchL J (l.take k)) l[k] by rw [List.take_succ_eq_append_getElem hkl, touchL_snoc])
      have HIN := Lib.hid (touchL_inv HI.out (fun x hx => H64.out x (List.mem_of_mem_take hx)) : JobInv (touchL J (l.take k)))
      have HGR := Lib.hid hgr
      clear hca hRa hSa hba hgr hA'
      generalize l[k] = x at *
      generalize touchL J (l.take k) = Jk at *
      obtain ⟨cb, mb, s, r, tm, hS1, hS2, hS3, hn1, hn2, hn3, hB, hcb, hm⟩ := hj
      obtain ⟨-, -, c9, c10, c11⟩ := jobB_of hB
      have HB := Lib.hid hB; have HCB := Lib.hid hcb; have HM := Lib.hid hm
      have HJOK := Lib.hid (show JobOk S wr B Jk from ⟨cb, mb, s, r, tm, hS1, hS2, hS3, hn1, hn2, hn3, hB, hcb, hm⟩)
      clear hB hcb hm
      by_cases hp : Jk.pos ≤ x
      · have HTJ := Lib.hid (show touchJ Jk x = Jk by unfold touchJ; rw [if_pos (.inl hp)])
        go_wp2
        go_roundg (l.length - (k + 1))
        case measure => omega
        case rel => exact ⟨k + 1, by omega, rfl, by go_num, by rw [HTL.out, HTJ.out]; exact HJOK.out, HGR.out⟩
      · by_cases hx : x ∈ Jk.tch
        · have HTJ := Lib.hid (show touchJ Jk x = Jk by unfold touchJ; rw [if_pos (.inr hx)])
          have hlk : (Instr.lookup 86 (.map (some mb)) (.int .i64 x) false).run Tryz.prog wr = .ok (.int .i64 1) wr := by
            have := HM.out.look Tryz.underlying86 Tryz.underlying2 (zeroIntB wr) x
            rw [this]; simp [tchF, hx]
          go_wp2
          go_roundg (l.length - (k + 1))
          case measure => omega
          case rel => exact ⟨k + 1, by omega, rfl, by go_num, by rw [HTL.out, HTJ.out]; exact HJOK.out, HGR.out⟩
        · have HNE := Lib.hid (show ¬(Jk.pos ≤ x ∨ x ∈ Jk.tch) from fun h => h.elim hp hx)
          have hlk : (Instr.lookup 86 (.map (some mb)) (.int .i64 x) false).run Tryz.prog wr = .ok (.int .i64 0) wr := by
            have := HM.out.look Tryz.underlying86 Tryz.underlying2 (zeroIntB wr) x
            rw [this]; simp [tchF, hx]
          go_upto_region 5 with fail
          refine arr_region (show Arr _ _ _ [0, 1, 2, 3, 4, 5] _ _ from ?_)
          refine arr_value (w' := wr) (v := .pointer (some ⟨B, 0, none⟩)) (i := 0) rfl (by kernel_rfl) (by simp [go_sem, execOp, Act.eval]) ?_
          refine arr_value (w' := wr) (v := .pointer (some ⟨B, 0, none⟩)) (i := 1) rfl (by kernel_rfl) (by simp [go_sem, execOp, Act.eval, Act.put]) ?_
          refine arr_value (w' := wr) (v := .pointer (some ⟨B, 10, none⟩)) (i := 2) rfl (by kernel_rfl) (by simp [go_sem, execOp, Act.eval, Act.put]) ?_
          refine arr_value (w' := wr) (v := .chan (some cb)) (i := 3) rfl (by kernel_rfl) (by simp [go_sem, execOp, Act.eval, Act.put, c10]) ?_
          refine arr_value (w' := wr) (v := .int .i64 x) (i := 4) rfl (by kernel_rfl) (by simp [go_sem, execOp, Act.eval, Act.put]) ?_
          refine arr_send (i := 5) (c := cb) (v := .int .i64 x) (z := .tuple #[]) (cap := 4097) (buf := #[]) (s := s) (r := r) (tm := tm) rfl (by kernel_rfl) (by simp [go_sem, execOp, Go.Conc.scase, Act.eval, Act.put]) HCB.out (by simp) ?_
          refine arr_nil ?_
          simp [Act.put, Exit.then]
          obtain ⟨w2, hw2⟩ : ∃ w2, w2 = wr.setChan cb 4097 #[.int .i64 x] false (s + 1) r tm := ⟨_, rfl⟩
          have hmod2 : Mod (fun b => b = cb) wr w2 := by subst hw2; exact ⟨rfl, rfl, rfl, by simp [World.setChan], fun k hk hne => by simp only [World.setChan]; rw [Array.getElem?_setIfInBounds_ne (fun e => hne e.symm)]⟩
          have hch2 : w2.heap[cb]? = some (.chan 4097 #[.int .i64 x] false (s + 1) r tm) := by subst hw2; simp only [World.setChan]; rw [Array.getElem?_setIfInBounds_self, if_pos (Array.getElem?_eq_some_iff.1 HCB.out).1]
          have hm2 := HM.out.mod hmod2 (fun e => hn3 e.symm)
          have hB2 := (hmod2.block B (blk_lt HB.out) hn1).trans HB.out
          rw [← hw2]
          have HM2 := Lib.hid hm2; have HMOD2 := Lib.hid hmod2; have HCH2 := Lib.hid hch2; have HB2 := Lib.hid hB2
          clear hm2 hmod2 hch2 hB2 hw2 hlk c9 c10 c11 hca0
          go_wp2_with fail
          refine (jobTakes Jk B cb mb (s + 1) r tm x 4096 (tchF Jk.tch) w2 HB2.out HCH2.out HM2.out (by simp [tchF, hx]) hn1 hn2 hn3).mono ?_
          rintro e w3 ⟨rfl, hmod3, hch3, hm3⟩
          have hB3 := (hmod3.block B (blk_lt HB2.out) (by omega)).trans HB2.out
          rw [← tchF_put] at hm3
          have HM3 := Lib.hid hm3; have HCH3 := Lib.hid hch3; have HB3 := Lib.hid hB3
          have HMOD3 := Lib.hid (show Mod S w w3 from HGR.out.step ((HMOD2.out.mono (fun b hb => hb ▸ hS2)).step (hmod3.mono (fun b hb => by rcases hb with rfl | rfl <;> assumption))))
          have HND := Lib.hid (show (putL Jk.tch x).Nodup from (putL_rises HIN.out.2.2.2.2.1 x).imp (fun {a b} hab => by omega))
          have HLN := Lib.hid (putL_len1 hx)
          obtain ⟨-, -, c9, c10, c11⟩ := jobB_of hB3
          clear hmod3 hch3 hm3 hB3
          by_cases hfull : Jk.tch.length = 4096
          · have HTJ := Lib.hid (show touchJ Jk x = { Jk with pos := 1, tch := [] } by unfold touchJ; rw [if_neg HNE.out, if_pos hfull])
            have HZ := Lib.hid (show ((putL Jk.tch x).length : Int) = 4097 by rw [HLN.out, hfull]; rfl)
            obtain ⟨w4, hcl, hm4, hmod4, hs4⟩ := HM3.out.clear Tryz.underlying86 0
            have hB4 := (hmod4.block B (blk_lt HB3.out) hn2).trans HB3.out
            have f9 := jobFroz hB4 9
            obtain ⟨-, -, d9, -, -⟩ := jobB_of hB4
            have HSET := Lib.hid (jobSetPos hB4 1)
            have HM4 := Lib.hid hm4; have HMOD4 := Lib.hid hmod4; have HCH4 := Lib.hid ((hmod4.block cb (blk_lt HCH3.out) hn3).trans HCH3.out)
            clear hfull hm4 hmod4 hs4 hB4
            go_wp2_with (first | (at_len; go_must (refine wpList_lenIz _ rfl (.tmp 39) 86 rfl 2 3 Tryz.underlying86 _ _ _ rfl HM3.out (putL Jk.tch x) HND.out (tchF_some _) 4097 HZ.out ?_)))
            go_roundg (l.length - (k + 1))
            case measure => omega
            case rel => exact ⟨k + 1, by omega, rfl, by go_num, by rw [HTL.out, HTJ.out]; exact ⟨cb, mb, _, _, _, hS1, hS2, hS3, hn1, hn2, hn3, HSET.out.1, (HSET.out.2.block cb (blk_lt HCH4.out) (fun e => hn1 e.symm)).trans HCH4.out, by show MapI _ _ (tchF []) _; rw [tchF_nil]; exact (HM4.out.mod HSET.out.2 (fun e => hn2 e.symm)).mono (by omega)⟩, (HMOD3.out.step (HMOD4.out.mono (fun b hb => hb ▸ hS3))).step (HSET.out.2.mono (fun b hb => hb ▸ hS1))⟩
          · have HTJ := Lib.hid (show touchJ Jk x = { Jk with tch := putL Jk.tch x } by unfold touchJ; rw [if_neg HNE.out, if_neg hfull])
            have hle := HIN.out.2.2.2.2.2.1
            obtain ⟨z, hz⟩ : ∃ z : Int, ((putL Jk.tch x).length : Int) = z := ⟨_, rfl⟩
            have hz2 : z ≤ 4096 := by rw [← hz, HLN.out]; omega
            have HZ := Lib.hid hz
            clear hfull hz hle
            go_wp2_with (first | (at_len; go_must (refine wpList_lenIz _ rfl (.tmp 39) 86 rfl 2 3 Tryz.underlying86 _ _ _ rfl HM3.out (putL Jk.tch x) HND.out (tchF_some _) z HZ.out ?_)))
            go_roundg (l.length - (k + 1))
            case measure => omega
            case rel => exact ⟨k + 1, by omega, rfl, by go_num, by rw [HTL.out, HTJ.out]; exact ⟨cb, mb, _, _, _, hS1, hS2, hS3, hn1, hn2, hn3, HB3.out, HCH3.out, (HM3.out.fits HND.out (tchF_some _)).mono (by rw [← HZ.out] at hz2; omega)⟩, HMOD3.out⟩
    · obtain rfl : k = l.length := by omega
      rw [List.take_length] at hj
      have HJK := Lib.hid hj; have HGR := Lib.hid hgr
      clear hj hgr
      go_wp2
      go_end0
      exact ⟨rfl, HJK.out, HGR.out⟩
end Go.Hg

namespace Go.Hg
open Go.RowKit Go.Proofs

abbrev rjobCells (J : PJob) (lv : Value) : Array Value := #[.int .i64 J.r.id, .int .i64 J.r.kind, .string J.r.typ, .string J.r.name, .string J.r.from_, .string J.r.to_, .int .i64 J.r.n, .int .i64 J.r.state, .int .i64 J.chunk, .int .i64 J.pos, lv]
def RJobOk (S : Nat → Prop) (w : World) (B : Nat) (J : PJob) : Prop :=
  ∃ lv, S B ∧ w.heap[B]? = some (.cells (rjobCells J lv) 108 (0, 0)) ∧ IdsR (fun b => S b ∧ b ≠ B) w lv J.tch
theorem RJobOk.grow {S : Nat → Prop} {w w' : World} {B : Nat} {J : PJob} (h : RJobOk S w B J) (g : Grow w w') : RJobOk S w' B J := by
  obtain ⟨lv, h1, h2, h3⟩ := h
  exact ⟨lv, h1, (g.heapEq (blk_lt h2)).trans h2, h3.growS g⟩
theorem RJobOk.keep {S F : Nat → Prop} {w w' : World} {B : Nat} {J : PJob} (h : RJobOk S w B J) (g : Mod F w w') (hd : ∀ b, S b → ¬ F b) : RJobOk S w' B J := by
  obtain ⟨lv, h1, h2, h3⟩ := h
  exact ⟨lv, h1, (g.block B (blk_lt h2) (hd B h1)).trans h2, h3.modS g (fun b hb => hd b hb.1)⟩
end Go.Hg

namespace Go.Hg
open Go.RowKit Go.Proofs

set_option maxRecDepth 100000 in
set_option maxHeartbeats 2000000 in
theorem jobAt (S : Nat → Prop) (B : Nat) (J : PJob) (w : World) (h : JobOk S w B J) : Calls Tryz.prog 19 #[.pointer (some ⟨B, 0, none⟩)] w fun e w' => e = .returned (.int .i64 J.pos) ∧ w' = w := by
  obtain ⟨cb, mb, s, r, tm, hS1, hS2, hS3, hn1, hn2, hn3, hB, hcb, hm⟩ := h
  obtain ⟨-, -, c9, -, -⟩ := jobB_of hB
  clear hcb hm hB
  go_enter Tryz.func19, Tryz.ntmps19
  go_wp2
  go_ret
  exact ⟨rfl, rfl⟩
set_option maxRecDepth 100000 in
set_option maxHeartbeats 2000000 in
theorem jobLeft (S : Nat → Prop) (B : Nat) (J : PJob) (w : World) (h : JobOk S w B J) (hi : JobInv J) : Calls Tryz.prog 22 #[.pointer (some ⟨B, 0, none⟩)] w fun e w' => e = .returned (.int .i64 J.tch.length) ∧ w' = w := by
  obtain ⟨cb, mb, s, r, tm, hS1, hS2, hS3, hn1, hn2, hn3, hB, hcb, hm⟩ := h
  obtain ⟨-, -, -, -, c11⟩ := jobB_of hB
  have HM := Lib.hid hm
  have HND := Lib.hid (show J.tch.Nodup from hi.2.2.2.2.1.imp (fun {a b} hab => by omega))
  clear hcb hm hB hi
  go_enter Tryz.func22, Tryz.ntmps22
  go_wp2_with (at_len; go_must (refine wpList_lenI _ rfl (.tmp 8) 86 rfl 2 3 Tryz.underlying86 _ _ _ rfl HM.out J.tch HND.out (tchF_some _) ?_))
  go_ret
  exact ⟨rfl, rfl⟩

theorem jobLenRun {J : PJob} {w : World} {mb : Nat} (hm : MapI w mb (tchF J.tch) 4096) (hi : JobInv J) (W : World) (g : Grow w W) (ty : TypeId) :
    (Builtin.len_ #[86] ty #[.map (some mb)]).run Tryz.prog W = .ok (.int .i64 J.tch.length) W :=
  (hm.grow g).len Tryz.underlying86 (hi.2.2.2.2.1.imp (fun {a b} hab => by omega)) (tchF_some _) ty
end Go.Hg

namespace Go.Hg
open Go.RowKit Go.Proofs

theorem quiet_lenI {P : Program} {C : World → Prop} {a : Act} {o : Oper} {K : Act → Prop} (m : Operand) (t : TypeId) (hop : o.op = Op.call { callee := Callee.builtin Builtin.len, args := #[m], argTypes := #[t] }) (mb : Nat) (n : Int) (hm : a.eval m = .map (some mb))
    (hr : ∀ W, C W → ∀ ty, (Builtin.len_ #[t] ty #[.map (some mb)]).run P W = .ok (.int .i64 n) W) (hk : K (a.put o.dst (.int .i64 n))) : o.quiet P a C K :=
  ⟨_, fun w hw => by unfold Oper.quietAt; simp [execOp, hop, resolve, invoke, builtin, hm, hr w hw, Result.andThen]; exact ⟨rfl, rfl⟩, hk⟩
def endedJ (J : PJob) (next : Int) : Bool := decide (J.pos = next) && decide (J.tch = [])
set_option maxRecDepth 100000 in
set_option maxHeartbeats 2000000 in
theorem jobEnded (S SG : Nat → Prop) (B BG : Nat) (J : PJob) (G : PGraph) (w : World) (h : JobOk S w B J) (hi : JobInv J) (hg : GraphOk 106 SG w BG G) :
    Calls Tryz.prog 43 #[.pointer (some ⟨B, 0, none⟩), .pointer (some ⟨BG, 0, none⟩)] w fun e w' => e = .returned (.bool (endedJ J G.next)) ∧ Grow w w' := by
  obtain ⟨cb, mb, s, r, tm, hS1, hS2, hS3, hn1, hn2, hn3, hB, hcb, hm⟩ := h
  have HLR := Lib.hid (jobLenRun hm hi)
  have HG := Lib.hid hg
  obtain ⟨-, -, c9, -, c11⟩ := jobB_of hB
  have hbl := blk_lt hB
  clear hcb hm hi hg hB
  obtain ⟨b1, hb1⟩ : ∃ b, decide (J.pos = G.next) = b := ⟨_, rfl⟩
  have hb2 : (J.pos == G.next) = b1 := by rw [← hb1]; exact Bool.beq_eq_decide_eq _ _
  obtain ⟨n, hn⟩ : ∃ n : Int, (J.tch.length : Int) = n := ⟨_, rfl⟩
  have HE := Lib.hid (show endedJ J G.next = (b1 && decide (n = 0)) by unfold endedJ; rw [hb1, ← hn]; congr 1; rw [decide_eq_decide]; cases J.tch <;> simp; omega)
  have hlr : ∀ W, Grow w W → ∀ ty, (Builtin.len_ #[86] ty #[.map (some mb)]).run Tryz.prog W = .ok (.int .i64 n) W := fun W g ty => by rw [HLR.out W g ty, hn]
  clear hb1 hn
  cases b1
  · go_enter Tryz.func43, Tryz.ntmps43
    go_wp2_with fail
    refine wp_region_grow (by kernel_rfl) (by kernel_rfl) ?_
    repeat (go_big_quiet_step (first | (go_at_call 23; exact calls_gr ((graphNext SG BG G _ (HG.out.grow (by first | assumption | exact Gr.h _))).mono fun e w' ⟨he, hw⟩ => ⟨he, by subst hw; exact Grow.rfl' _⟩))))
    refine wpQuiet_nil ?_
    intro w2 hw2
    go_wp2
    go_ret
    rw [HE.out]
    exact ⟨by simp, hw2⟩
  · go_enter Tryz.func43, Tryz.ntmps43
    go_wp2_with fail
    refine wp_region_grow (by kernel_rfl) (by kernel_rfl) ?_
    repeat (go_big_quiet_step (first | (go_at_call 23; exact calls_gr ((graphNext SG BG G _ (HG.out.grow (by first | assumption | exact Gr.h _))).mono fun e w' ⟨he, hw⟩ => ⟨he, by subst hw; exact Grow.rfl' _⟩))))
    refine BigFrame.wpQuiet_want (by kernel_rfl) (fun K hK => quiet_lenI (.tmp 16) _ rfl mb n rfl (fun W hW => hlr W (hW.elim fun g e => e ▸ Gr.h g)) (hK _ ?_))
    simp only [Act.put, List.setIfInBounds_toArray, List.set_cons_succ, List.set_cons_zero]
    repeat (go_big_quiet_step (fail))
    refine wpQuiet_nil ?_
    intro w2 hw2
    go_wp2
    go_ret
    rw [HE.out]
    exact ⟨by simp; exact Bool.beq_eq_decide_eq _ _, hw2⟩
end Go.Hg

namespace Go.Hg

def allIds (G : PGraph) : List Int := G.nodes.map (·.id) ++ G.edges.map (·.id)
def idsG (G : PGraph) (f : Int) : List Int := ((allIds G).filter (fun x => decide (f ≤ x))).mergeSort (fun a b => decide (a ≤ b))
theorem sortedPerm_eq {l m : List Int} (h1 : l.Pairwise (· ≤ ·)) (h2 : m.Pairwise (· ≤ ·)) (hp : l.Perm m) : l = m := by
  induction l generalizing m with
  | nil => exact (List.nil_perm.1 hp).symm ▸ rfl
  | cons a t ih =>
    cases m with
    | nil => exact absurd hp.length_eq (by simp)
    | cons b u =>
      have ha : a ∈ b :: u := hp.mem_iff.1 (.head _)
      have hb : b ∈ a :: t := hp.mem_iff.2 (.head _)
      rw [List.pairwise_cons] at h1 h2
      have hab : a = b := by
        rcases List.mem_cons.1 ha with h | h
        · exact h
        · rcases List.mem_cons.1 hb with h' | h'
          · exact h'.symm
          · have := h1.1 b h'; have := h2.1 a h; omega
      subst hab
      rw [ih h1.2 h2.2 (List.Perm.cons_inv hp)]
theorem idsG_sorted (G : PGraph) (f : Int) : (idsG G f).Pairwise (· ≤ ·) := by
  have h := List.pairwise_mergeSort (le := fun a b : Int => decide (a ≤ b)) (fun a b c h1 h2 => by simp at *; omega) (fun a b => by simp; omega) ((allIds G).filter (fun x => decide (f ≤ x)))
  exact h.imp (fun {a b} h => by simpa using h)
theorem idsG_perm (G : PGraph) (f : Int) : (idsG G f).Perm ((allIds G).filter (fun x => decide (f ≤ x))) := List.mergeSort_perm _ _
theorem idsG_of {G : PGraph} {f : Int} {L : List Int} (h1 : L.Pairwise (· ≤ ·)) (h2 : L.Perm ((allIds G).filter (fun x => decide (f ≤ x)))) : L = idsG G f :=
  sortedPerm_eq h1 (idsG_sorted G f) (h2.trans (idsG_perm G f).symm)
theorem idsG_len (G : PGraph) (f : Int) : (idsG G f).length ≤ G.nodes.length + G.edges.length := by
  rw [(idsG_perm G f).length_eq]
  refine Nat.le_trans (List.length_filter_le _ _) ?_
  simp [allIds]
theorem idsG_mem {G : PGraph} {f x : Int} : x ∈ idsG G f ↔ f ≤ x ∧ (x ∈ G.nodes.map (·.id) ∨ x ∈ G.edges.map (·.id)) := by
  rw [(idsG_perm G f).mem_iff, List.mem_filter, allIds, List.mem_append]
  simp only [decide_eq_true_eq]
  exact And.comm
def stepJ (G : PGraph) (J : PJob) : PJob :=
  let n := min J.chunk.toNat J.tch.length
  if n < J.chunk.toNat then
    let l := idsG G J.pos
    if J.chunk.toNat - n < l.length then { J with tch := J.tch.drop n, pos := l.getD (J.chunk.toNat - n - 1) 0 + 1 } else { J with tch := J.tch.drop n, pos := G.next }
  else { J with tch := J.tch.drop n }
end Go.Hg

namespace Go.Hg

theorem idsG_bounds {G : PGraph} (hi : GInv G) {f x : Int} (h : x ∈ idsG G f) : 1 ≤ x ∧ x < G.next := by
  obtain ⟨-, h⟩ := idsG_mem.1 h
  rcases h with h | h
  · obtain ⟨n, hn, rfl⟩ := List.mem_map.1 h
    exact ⟨(hi.nodesB n hn).1, (hi.nodesB n hn).2.1⟩
  · obtain ⟨n, hn, rfl⟩ := List.mem_map.1 h
    exact ⟨(hi.edgesB n hn).1, (hi.edgesB n hn).2.1⟩
theorem stepJ_inv {G : PGraph} (hG : GInv G) {J : PJob} (h : JobInv J) : JobInv (stepJ G J) := by
  obtain ⟨h1, h2, h3, h4, h5, h6, h7⟩ := h
  have d5 : (J.tch.drop (min J.chunk.toNat J.tch.length)).Pairwise (· < ·) := h5.sublist (List.drop_sublist _ _)
  have d6 : (J.tch.drop (min J.chunk.toNat J.tch.length)).length ≤ 4096 := by rw [List.length_drop]; omega
  have d7 : ∀ x ∈ J.tch.drop (min J.chunk.toNat J.tch.length), (Lit.int .i64 x).wf = true := fun x hx => h7 x (List.mem_of_mem_drop hx)
  have hn0 := hG.next0; have hn1 := hG.next1
  unfold stepJ
  simp only
  split
  · rename_i hlt
    split
    · rename_i hlen
      have hm : J.chunk.toNat - min J.chunk.toNat J.tch.length - 1 < (idsG G J.pos).length := by omega
      have hb := idsG_bounds hG (List.getElem_mem hm)
      have he : (idsG G J.pos).getD (J.chunk.toNat - min J.chunk.toNat J.tch.length - 1) 0 = (idsG G J.pos)[J.chunk.toNat - min J.chunk.toNat J.tch.length - 1] := by rw [List.getD_eq_getElem?_getD, List.getElem?_eq_getElem hm]; rfl
      refine ⟨h1, h2, ?_, ?_, d5, d6, d7⟩
      · show 1 ≤ (idsG G J.pos).getD _ 0 + 1
        rw [he]; omega
      · show (idsG G J.pos).getD _ 0 + 1 ≤ 4611686018427387904
        rw [he]; omega
    · exact ⟨h1, h2, hn0, hn1, d5, d6, d7⟩
  · exact ⟨h1, h2, h3, h4, d5, d6, d7⟩
end Go.Hg
