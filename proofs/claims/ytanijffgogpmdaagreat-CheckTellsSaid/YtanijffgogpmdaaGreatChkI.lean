/- hedgerowref15.Form; What changes touch: the plain words; a rule that no spot concerns stays kept; graph.good: whether nodes and edges are a graph's; A good graph stays good under each change; Spots in order: the plain words; hedgerowref02.Compare; hedgerowref15.Broken: without a form, Ends. Conditions: those that each theorem names. -/
import Derived.Test.YtanijffgogpmdaaGreatChkE
import Derived.Test.YtanijffgogpmdaaGreatChkG
import Derived.Test.YtanijffgogpmdaaGreatChkF
import Derived.Test.YtanijffgogpmdaaGreatChkH
namespace Go.Hg
open Go.RowKit Go.Proofs

set_option maxRecDepth 100000 in
set_option maxHeartbeats 2000000 in
theorem refForm1 (id : Int) (typ name from_ to_ : ByteArray) (n state : Int) (w : World) : Calls Tryz.prog 18 #[(PRule.mk id 1 typ name from_ to_ n state).args] w fun e w' => e = .returned (.bool (formR ⟨id, 1, typ, name, from_, to_, n, state⟩)) ∧ Grow w w' := by
  have HW := Lib.hid (show ∀ o1, Grow w (w.alloc o1) from fun o1 => (Grow.rfl' w).allocd o1)
  have HB := Lib.hid (show ∀ o1 w', Grow (w.alloc o1) w' → w'.heap[w.heap.size]? = some o1 from fun o1 w' hg => by rw [hg.heapEq (by simp)]; exact heap_alloc_new w _)
  generalize hF : formR _ = F
  have HF := Lib.hid hF; clear hF
  obtain ⟨b1, hb1⟩ : ∃ b, decide (NameOk typ) = b := ⟨_, rfl⟩
  obtain ⟨b2, hb2⟩ : ∃ b, decide (NameOk name) = b := ⟨_, rfl⟩
  obtain ⟨b3, hb3⟩ : ∃ b, decide (NameOk from_) = b := ⟨_, rfl⟩
  obtain ⟨b4, hb4⟩ : ∃ b, decide (NameOk to_) = b := ⟨_, rfl⟩
  have H1 := Lib.hid hb1; have H2 := Lib.hid hb2; have H3 := Lib.hid hb3; have H4 := Lib.hid hb4
  clear hb1 hb2 hb3 hb4
  have HK := Lib.hid True.intro
  cases b1
  · skip
    have hF : F = false := by rw [← HF.out]; simp [formR, H1.out, *]
    subst hF
    clear HF
    go_enter Tryz.func18, Tryz.ntmps18
    go_wp2_with (go_at_call 59; (first | (with_reducible refine (refNameB H1.out _).mono ?_) | (with_reducible refine (refNameB H2.out _).mono ?_) | (with_reducible refine (refNameB H3.out _).mono ?_) | (with_reducible refine (refNameB H4.out _).mono ?_)); rintro e w3 ⟨rfl, rfl⟩)
    go_ret
    exact ⟨rfl, HW.out _⟩
  · skip
    cases b2
    · skip
      have hF : F = false := by rw [← HF.out]; simp [formR, H1.out, H2.out, *]
      subst hF
      clear HF
      go_enter Tryz.func18, Tryz.ntmps18
      go_wp2_with (go_at_call 59; (first | (with_reducible refine (refNameB H1.out _).mono ?_) | (with_reducible refine (refNameB H2.out _).mono ?_) | (with_reducible refine (refNameB H3.out _).mono ?_) | (with_reducible refine (refNameB H4.out _).mono ?_)); rintro e w3 ⟨rfl, rfl⟩)
      go_ret
      exact ⟨rfl, HW.out _⟩
    · skip
      by_cases h2 : from_ = ByteArray.empty
      · skip
        subst h2
        by_cases h3 : to_ = ByteArray.empty
        · skip
          subst h3
          by_cases h4 : n = 0
          · skip
            subst h4
            have hF : F = true := by rw [← HF.out]; simp [formR, H1.out, H2.out, *]
            subst hF
            clear HF
            go_enter Tryz.func18, Tryz.ntmps18
            go_wp2_with (go_at_call 59; (first | (with_reducible refine (refNameB H1.out _).mono ?_) | (with_reducible refine (refNameB H2.out _).mono ?_) | (with_reducible refine (refNameB H3.out _).mono ?_) | (with_reducible refine (refNameB H4.out _).mono ?_)); rintro e w3 ⟨rfl, rfl⟩)
            go_ret
            exact ⟨rfl, HW.out _⟩
          · skip
            have q4 : (n == 0) = false := by simpa using h4
            have hF : F = false := by rw [← HF.out]; simp [formR, H1.out, H2.out, *]
            subst hF
            clear HF
            go_enter Tryz.func18, Tryz.ntmps18
            go_wp2_with (go_at_call 59; (first | (with_reducible refine (refNameB H1.out _).mono ?_) | (with_reducible refine (refNameB H2.out _).mono ?_) | (with_reducible refine (refNameB H3.out _).mono ?_) | (with_reducible refine (refNameB H4.out _).mono ?_)); rintro e w3 ⟨rfl, rfl⟩)
            go_ret
            exact ⟨rfl, HW.out _⟩
        · skip
          have q3 : (to_.toList == ([] : List UInt8)) = false := (empty_beq to_).trans (decide_eq_false h3)
          have hF : F = false := by rw [← HF.out]; simp [formR, H1.out, H2.out, *]
          subst hF
          clear HF
          go_enter Tryz.func18, Tryz.ntmps18
          go_wp2_with (go_at_call 59; (first | (with_reducible refine (refNameB H1.out _).mono ?_) | (with_reducible refine (refNameB H2.out _).mono ?_) | (with_reducible refine (refNameB H3.out _).mono ?_) | (with_reducible refine (refNameB H4.out _).mono ?_)); rintro e w3 ⟨rfl, rfl⟩)
          go_ret
          exact ⟨rfl, HW.out _⟩
      · skip
        have q2 : (from_.toList == ([] : List UInt8)) = false := (empty_beq from_).trans (decide_eq_false h2)
        have hF : F = false := by rw [← HF.out]; simp [formR, H1.out, H2.out, *]
        subst hF
        clear HF
        go_enter Tryz.func18, Tryz.ntmps18
        go_wp2_with (go_at_call 59; (first | (with_reducible refine (refNameB H1.out _).mono ?_) | (with_reducible refine (refNameB H2.out _).mono ?_) | (with_reducible refine (refNameB H3.out _).mono ?_) | (with_reducible refine (refNameB H4.out _).mono ?_)); rintro e w3 ⟨rfl, rfl⟩)
        go_ret
        exact ⟨rfl, HW.out _⟩
set_option maxRecDepth 100000 in
set_option maxHeartbeats 2000000 in
theorem refForm2 (id : Int) (typ name from_ to_ : ByteArray) (n state : Int) (w : World) : Calls Tryz.prog 18 #[(PRule.mk id 2 typ name from_ to_ n state).args] w fun e w' => e = .returned (.bool (formR ⟨id, 2, typ, name, from_, to_, n, state⟩)) ∧ Grow w w' := by
  have HW := Lib.hid (show ∀ o1, Grow w (w.alloc o1) from fun o1 => (Grow.rfl' w).allocd o1)
  have HB := Lib.hid (show ∀ o1 w', Grow (w.alloc o1) w' → w'.heap[w.heap.size]? = some o1 from fun o1 w' hg => by rw [hg.heapEq (by simp)]; exact heap_alloc_new w _)
  generalize hF : formR _ = F
  have HF := Lib.hid hF; clear hF
  obtain ⟨b1, hb1⟩ : ∃ b, decide (NameOk typ) = b := ⟨_, rfl⟩
  obtain ⟨b2, hb2⟩ : ∃ b, decide (NameOk name) = b := ⟨_, rfl⟩
  obtain ⟨b3, hb3⟩ : ∃ b, decide (NameOk from_) = b := ⟨_, rfl⟩
  obtain ⟨b4, hb4⟩ : ∃ b, decide (NameOk to_) = b := ⟨_, rfl⟩
  have H1 := Lib.hid hb1; have H2 := Lib.hid hb2; have H3 := Lib.hid hb3; have H4 := Lib.hid hb4
  clear hb1 hb2 hb3 hb4
  have HK := Lib.hid True.intro
  cases b1
  · skip
    have hF : F = false := by rw [← HF.out]; simp [formR, H1.out, *]
    subst hF
    clear HF
    go_enter Tryz.func18, Tryz.ntmps18
    go_wp2_with (go_at_call 59; (first | (with_reducible refine (refNameB H1.out _).mono ?_) | (with_reducible refine (refNameB H2.out _).mono ?_) | (with_reducible refine (refNameB H3.out _).mono ?_) | (with_reducible refine (refNameB H4.out _).mono ?_)); rintro e w3 ⟨rfl, rfl⟩)
    go_ret
    exact ⟨rfl, HW.out _⟩
  · skip
    cases b2
    · skip
      have hF : F = false := by rw [← HF.out]; simp [formR, H1.out, H2.out, *]
      subst hF
      clear HF
      go_enter Tryz.func18, Tryz.ntmps18
      go_wp2_with (go_at_call 59; (first | (with_reducible refine (refNameB H1.out _).mono ?_) | (with_reducible refine (refNameB H2.out _).mono ?_) | (with_reducible refine (refNameB H3.out _).mono ?_) | (with_reducible refine (refNameB H4.out _).mono ?_)); rintro e w3 ⟨rfl, rfl⟩)
      go_ret
      exact ⟨rfl, HW.out _⟩
    · skip
      by_cases h2 : from_ = ByteArray.empty
      · skip
        subst h2
        by_cases h3 : to_ = ByteArray.empty
        · skip
          subst h3
          by_cases h4 : n = 0
          · skip
            subst h4
            have hF : F = true := by rw [← HF.out]; simp [formR, H1.out, H2.out, *]
            subst hF
            clear HF
            go_enter Tryz.func18, Tryz.ntmps18
            go_wp2_with (go_at_call 59; (first | (with_reducible refine (refNameB H1.out _).mono ?_) | (with_reducible refine (refNameB H2.out _).mono ?_) | (with_reducible refine (refNameB H3.out _).mono ?_) | (with_reducible refine (refNameB H4.out _).mono ?_)); rintro e w3 ⟨rfl, rfl⟩)
            go_ret
            exact ⟨rfl, HW.out _⟩
          · skip
            have q4 : (n == 0) = false := by simpa using h4
            have hF : F = false := by rw [← HF.out]; simp [formR, H1.out, H2.out, *]
            subst hF
            clear HF
            go_enter Tryz.func18, Tryz.ntmps18
            go_wp2_with (go_at_call 59; (first | (with_reducible refine (refNameB H1.out _).mono ?_) | (with_reducible refine (refNameB H2.out _).mono ?_) | (with_reducible refine (refNameB H3.out _).mono ?_) | (with_reducible refine (refNameB H4.out _).mono ?_)); rintro e w3 ⟨rfl, rfl⟩)
            go_ret
            exact ⟨rfl, HW.out _⟩
        · skip
          have q3 : (to_.toList == ([] : List UInt8)) = false := (empty_beq to_).trans (decide_eq_false h3)
          have hF : F = false := by rw [← HF.out]; simp [formR, H1.out, H2.out, *]
          subst hF
          clear HF
          go_enter Tryz.func18, Tryz.ntmps18
          go_wp2_with (go_at_call 59; (first | (with_reducible refine (refNameB H1.out _).mono ?_) | (with_reducible refine (refNameB H2.out _).mono ?_) | (with_reducible refine (refNameB H3.out _).mono ?_) | (with_reducible refine (refNameB H4.out _).mono ?_)); rintro e w3 ⟨rfl, rfl⟩)
          go_ret
          exact ⟨rfl, HW.out _⟩
      · skip
        have q2 : (from_.toList == ([] : List UInt8)) = false := (empty_beq from_).trans (decide_eq_false h2)
        have hF : F = false := by rw [← HF.out]; simp [formR, H1.out, H2.out, *]
        subst hF
        clear HF
        go_enter Tryz.func18, Tryz.ntmps18
        go_wp2_with (go_at_call 59; (first | (with_reducible refine (refNameB H1.out _).mono ?_) | (with_reducible refine (refNameB H2.out _).mono ?_) | (with_reducible refine (refNameB H3.out _).mono ?_) | (with_reducible refine (refNameB H4.out _).mono ?_)); rintro e w3 ⟨rfl, rfl⟩)
        go_ret
        exact ⟨rfl, HW.out _⟩
set_option maxRecDepth 100000 in
set_option maxHeartbeats 2000000 in
theorem refForm3 (id : Int) (typ name from_ to_ : ByteArray) (n state : Int) (w : World) : Calls Tryz.prog 18 #[(PRule.mk id 3 typ name from_ to_ n state).args] w fun e w' => e = .returned (.bool (formR ⟨id, 3, typ, name, from_, to_, n, state⟩)) ∧ Grow w w' := by
  have HW := Lib.hid (show ∀ o1, Grow w (w.alloc o1) from fun o1 => (Grow.rfl' w).allocd o1)
  have HB := Lib.hid (show ∀ o1 w', Grow (w.alloc o1) w' → w'.heap[w.heap.size]? = some o1 from fun o1 w' hg => by rw [hg.heapEq (by simp)]; exact heap_alloc_new w _)
  generalize hF : formR _ = F
  have HF := Lib.hid hF; clear hF
  obtain ⟨b1, hb1⟩ : ∃ b, decide (NameOk typ) = b := ⟨_, rfl⟩
  obtain ⟨b2, hb2⟩ : ∃ b, decide (NameOk name) = b := ⟨_, rfl⟩
  obtain ⟨b3, hb3⟩ : ∃ b, decide (NameOk from_) = b := ⟨_, rfl⟩
  obtain ⟨b4, hb4⟩ : ∃ b, decide (NameOk to_) = b := ⟨_, rfl⟩
  have H1 := Lib.hid hb1; have H2 := Lib.hid hb2; have H3 := Lib.hid hb3; have H4 := Lib.hid hb4
  clear hb1 hb2 hb3 hb4
  have HK := Lib.hid True.intro
  cases b1
  · skip
    have hF : F = false := by rw [← HF.out]; simp [formR, H1.out, *]
    subst hF
    clear HF
    go_enter Tryz.func18, Tryz.ntmps18
    go_wp2_with (go_at_call 59; (first | (with_reducible refine (refNameB H1.out _).mono ?_) | (with_reducible refine (refNameB H2.out _).mono ?_) | (with_reducible refine (refNameB H3.out _).mono ?_) | (with_reducible refine (refNameB H4.out _).mono ?_)); rintro e w3 ⟨rfl, rfl⟩)
    go_ret
    exact ⟨rfl, HW.out _⟩
  · skip
    by_cases h1 : name = ByteArray.empty
    · skip
      subst h1
      cases b3
      · skip
        have hF : F = false := by rw [← HF.out]; simp [formR, H1.out, H3.out, *]
        subst hF
        clear HF
        go_enter Tryz.func18, Tryz.ntmps18
        go_wp2_with (go_at_call 59; (first | (with_reducible refine (refNameB H1.out _).mono ?_) | (with_reducible refine (refNameB H2.out _).mono ?_) | (with_reducible refine (refNameB H3.out _).mono ?_) | (with_reducible refine (refNameB H4.out _).mono ?_)); rintro e w3 ⟨rfl, rfl⟩)
        go_ret
        exact ⟨rfl, HW.out _⟩
      · skip
        cases b4
        · skip
          have hF : F = false := by rw [← HF.out]; simp [formR, H1.out, H3.out, H4.out, *]
          subst hF
          clear HF
          go_enter Tryz.func18, Tryz.ntmps18
          go_wp2_with (go_at_call 59; (first | (with_reducible refine (refNameB H1.out _).mono ?_) | (with_reducible refine (refNameB H2.out _).mono ?_) | (with_reducible refine (refNameB H3.out _).mono ?_) | (with_reducible refine (refNameB H4.out _).mono ?_)); rintro e w3 ⟨rfl, rfl⟩)
          go_ret
          exact ⟨rfl, HW.out _⟩
        · skip
          by_cases h4 : n = 0
          · skip
            subst h4
            have hF : F = true := by rw [← HF.out]; simp [formR, H1.out, H3.out, H4.out, *]
            subst hF
            clear HF
            go_enter Tryz.func18, Tryz.ntmps18
            go_wp2_with (go_at_call 59; (first | (with_reducible refine (refNameB H1.out _).mono ?_) | (with_reducible refine (refNameB H2.out _).mono ?_) | (with_reducible refine (refNameB H3.out _).mono ?_) | (with_reducible refine (refNameB H4.out _).mono ?_)); rintro e w3 ⟨rfl, rfl⟩)
            go_ret
            exact ⟨rfl, HW.out _⟩
          · skip
            have q4 : (n == 0) = false := by simpa using h4
            have hF : F = false := by rw [← HF.out]; simp [formR, H1.out, H3.out, H4.out, *]
            subst hF
            clear HF
            go_enter Tryz.func18, Tryz.ntmps18
            go_wp2_with (go_at_call 59; (first | (with_reducible refine (refNameB H1.out _).mono ?_) | (with_reducible refine (refNameB H2.out _).mono ?_) | (with_reducible refine (refNameB H3.out _).mono ?_) | (with_reducible refine (refNameB H4.out _).mono ?_)); rintro e w3 ⟨rfl, rfl⟩)
            go_ret
            exact ⟨rfl, HW.out _⟩
    · skip
      have q1 : (name.toList == ([] : List UInt8)) = false := (empty_beq name).trans (decide_eq_false h1)
      have hF : F = false := by rw [← HF.out]; simp [formR, H1.out, *]
      subst hF
      clear HF
      go_enter Tryz.func18, Tryz.ntmps18
      go_wp2_with (go_at_call 59; (first | (with_reducible refine (refNameB H1.out _).mono ?_) | (with_reducible refine (refNameB H2.out _).mono ?_) | (with_reducible refine (refNameB H3.out _).mono ?_) | (with_reducible refine (refNameB H4.out _).mono ?_)); rintro e w3 ⟨rfl, rfl⟩)
      go_ret
      exact ⟨rfl, HW.out _⟩
set_option maxRecDepth 100000 in
set_option maxHeartbeats 2000000 in
theorem refForm4 (id : Int) (typ name from_ to_ : ByteArray) (n state : Int) (w : World) : Calls Tryz.prog 18 #[(PRule.mk id 4 typ name from_ to_ n state).args] w fun e w' => e = .returned (.bool (formR ⟨id, 4, typ, name, from_, to_, n, state⟩)) ∧ Grow w w' := by
  have HW := Lib.hid (show ∀ o1, Grow w (w.alloc o1) from fun o1 => (Grow.rfl' w).allocd o1)
  have HB := Lib.hid (show ∀ o1 w', Grow (w.alloc o1) w' → w'.heap[w.heap.size]? = some o1 from fun o1 w' hg => by rw [hg.heapEq (by simp)]; exact heap_alloc_new w _)
  generalize hF : formR _ = F
  have HF := Lib.hid hF; clear hF
  obtain ⟨b1, hb1⟩ : ∃ b, decide (NameOk typ) = b := ⟨_, rfl⟩
  obtain ⟨b2, hb2⟩ : ∃ b, decide (NameOk name) = b := ⟨_, rfl⟩
  obtain ⟨b3, hb3⟩ : ∃ b, decide (NameOk from_) = b := ⟨_, rfl⟩
  obtain ⟨b4, hb4⟩ : ∃ b, decide (NameOk to_) = b := ⟨_, rfl⟩
  have H1 := Lib.hid hb1; have H2 := Lib.hid hb2; have H3 := Lib.hid hb3; have H4 := Lib.hid hb4
  clear hb1 hb2 hb3 hb4
  have HK := Lib.hid True.intro
  cases b1
  · skip
    have hF : F = false := by rw [← HF.out]; simp [formR, H1.out, *]
    subst hF
    clear HF
    go_enter Tryz.func18, Tryz.ntmps18
    go_wp2_with (go_at_call 59; (first | (with_reducible refine (refNameB H1.out _).mono ?_) | (with_reducible refine (refNameB H2.out _).mono ?_) | (with_reducible refine (refNameB H3.out _).mono ?_) | (with_reducible refine (refNameB H4.out _).mono ?_)); rintro e w3 ⟨rfl, rfl⟩)
    go_ret
    exact ⟨rfl, HW.out _⟩
  · skip
    by_cases h1 : name = ByteArray.empty
    · skip
      subst h1
      by_cases h2 : from_ = ByteArray.empty
      · skip
        subst h2
        by_cases h3 : to_ = ByteArray.empty
        · skip
          subst h3
          by_cases h4 : 0 ≤ n
          · skip
            have q4 : decide (0 ≤ n) = true := by simpa using h4
            by_cases h5 : n ≤ 1024
            · skip
              have q5 : decide (n ≤ 1024) = true := by simpa using h5
              have hF : F = true := by rw [← HF.out]; simp [formR, H1.out, *]
              subst hF
              clear HF
              go_enter Tryz.func18, Tryz.ntmps18
              go_wp2_with (go_at_call 59; (first | (with_reducible refine (refNameB H1.out _).mono ?_) | (with_reducible refine (refNameB H2.out _).mono ?_) | (with_reducible refine (refNameB H3.out _).mono ?_) | (with_reducible refine (refNameB H4.out _).mono ?_)); rintro e w3 ⟨rfl, rfl⟩)
              go_ret
              exact ⟨rfl, HW.out _⟩
            · skip
              have q5 : decide (n ≤ 1024) = false := by simpa using h5
              have hF : F = false := by rw [← HF.out]; simp [formR, H1.out, *]
              subst hF
              clear HF
              go_enter Tryz.func18, Tryz.ntmps18
              go_wp2_with (go_at_call 59; (first | (with_reducible refine (refNameB H1.out _).mono ?_) | (with_reducible refine (refNameB H2.out _).mono ?_) | (with_reducible refine (refNameB H3.out _).mono ?_) | (with_reducible refine (refNameB H4.out _).mono ?_)); rintro e w3 ⟨rfl, rfl⟩)
              go_ret
              exact ⟨rfl, HW.out _⟩
          · skip
            have q4 : decide (0 ≤ n) = false := by simpa using h4
            have hF : F = false := by rw [← HF.out]; simp [formR, H1.out, *]
            subst hF
            clear HF
            go_enter Tryz.func18, Tryz.ntmps18
            go_wp2_with (go_at_call 59; (first | (with_reducible refine (refNameB H1.out _).mono ?_) | (with_reducible refine (refNameB H2.out _).mono ?_) | (with_reducible refine (refNameB H3.out _).mono ?_) | (with_reducible refine (refNameB H4.out _).mono ?_)); rintro e w3 ⟨rfl, rfl⟩)
            go_ret
            exact ⟨rfl, HW.out _⟩
        · skip
          have q3 : (to_.toList == ([] : List UInt8)) = false := (empty_beq to_).trans (decide_eq_false h3)
          have hF : F = false := by rw [← HF.out]; simp [formR, H1.out, *]
          subst hF
          clear HF
          go_enter Tryz.func18, Tryz.ntmps18
          go_wp2_with (go_at_call 59; (first | (with_reducible refine (refNameB H1.out _).mono ?_) | (with_reducible refine (refNameB H2.out _).mono ?_) | (with_reducible refine (refNameB H3.out _).mono ?_) | (with_reducible refine (refNameB H4.out _).mono ?_)); rintro e w3 ⟨rfl, rfl⟩)
          go_ret
          exact ⟨rfl, HW.out _⟩
      · skip
        have q2 : (from_.toList == ([] : List UInt8)) = false := (empty_beq from_).trans (decide_eq_false h2)
        have hF : F = false := by rw [← HF.out]; simp [formR, H1.out, *]
        subst hF
        clear HF
        go_enter Tryz.func18, Tryz.ntmps18
        go_wp2_with (go_at_call 59; (first | (with_reducible refine (refNameB H1.out _).mono ?_) | (with_reducible refine (refNameB H2.out _).mono ?_) | (with_reducible refine (refNameB H3.out _).mono ?_) | (with_reducible refine (refNameB H4.out _).mono ?_)); rintro e w3 ⟨rfl, rfl⟩)
        go_ret
        exact ⟨rfl, HW.out _⟩
    · skip
      have q1 : (name.toList == ([] : List UInt8)) = false := (empty_beq name).trans (decide_eq_false h1)
      have hF : F = false := by rw [← HF.out]; simp [formR, H1.out, *]
      subst hF
      clear HF
      go_enter Tryz.func18, Tryz.ntmps18
      go_wp2_with (go_at_call 59; (first | (with_reducible refine (refNameB H1.out _).mono ?_) | (with_reducible refine (refNameB H2.out _).mono ?_) | (with_reducible refine (refNameB H3.out _).mono ?_) | (with_reducible refine (refNameB H4.out _).mono ?_)); rintro e w3 ⟨rfl, rfl⟩)
      go_ret
      exact ⟨rfl, HW.out _⟩
set_option maxRecDepth 100000 in
set_option maxHeartbeats 2000000 in
theorem refForm0 (id kind : Int) (typ name from_ to_ : ByteArray) (n state : Int) (hk : kind ≠ 1 ∧ kind ≠ 2 ∧ kind ≠ 3 ∧ kind ≠ 4) (w : World) : Calls Tryz.prog 18 #[(PRule.mk id kind typ name from_ to_ n state).args] w fun e w' => e = .returned (.bool (formR ⟨id, kind, typ, name, from_, to_, n, state⟩)) ∧ Grow w w' := by
  have HW := Lib.hid (show ∀ o1, Grow w (w.alloc o1) from fun o1 => (Grow.rfl' w).allocd o1)
  have HB := Lib.hid (show ∀ o1 w', Grow (w.alloc o1) w' → w'.heap[w.heap.size]? = some o1 from fun o1 w' hg => by rw [hg.heapEq (by simp)]; exact heap_alloc_new w _)
  generalize hF : formR _ = F
  have HF := Lib.hid hF; clear hF
  obtain ⟨b1, hb1⟩ : ∃ b, decide (NameOk typ) = b := ⟨_, rfl⟩
  obtain ⟨b2, hb2⟩ : ∃ b, decide (NameOk name) = b := ⟨_, rfl⟩
  obtain ⟨b3, hb3⟩ : ∃ b, decide (NameOk from_) = b := ⟨_, rfl⟩
  obtain ⟨b4, hb4⟩ : ∃ b, decide (NameOk to_) = b := ⟨_, rfl⟩
  have H1 := Lib.hid hb1; have H2 := Lib.hid hb2; have H3 := Lib.hid hb3; have H4 := Lib.hid hb4
  clear hb1 hb2 hb3 hb4
  obtain ⟨k1, k2, k3, k4⟩ := hk
  have HK := Lib.hid (And.intro k1 (And.intro k2 (And.intro k3 k4)))
  cases b1
  · skip
    have hF : F = false := by rw [← HF.out]; simp [formR, HK.out, H1.out, *]
    subst hF
    clear HF
    go_enter Tryz.func18, Tryz.ntmps18
    go_wp2_with (go_at_call 59; (first | (with_reducible refine (refNameB H1.out _).mono ?_) | (with_reducible refine (refNameB H2.out _).mono ?_) | (with_reducible refine (refNameB H3.out _).mono ?_) | (with_reducible refine (refNameB H4.out _).mono ?_)); rintro e w3 ⟨rfl, rfl⟩)
    go_ret
    exact ⟨rfl, HW.out _⟩
  · skip
    have hF : F = false := by rw [← HF.out]; simp [formR, HK.out, H1.out, *]
    subst hF
    clear HF
    go_enter Tryz.func18, Tryz.ntmps18
    go_wp2_with (go_at_call 59; (first | (with_reducible refine (refNameB H1.out _).mono ?_) | (with_reducible refine (refNameB H2.out _).mono ?_) | (with_reducible refine (refNameB H3.out _).mono ?_) | (with_reducible refine (refNameB H4.out _).mono ?_)); rintro e w3 ⟨rfl, rfl⟩)
    go_ret
    exact ⟨rfl, HW.out _⟩
theorem refForm (r : PRule) (w : World) : Calls Tryz.prog 18 #[r.args] w fun e w' => e = .returned (.bool (formR r)) ∧ Grow w w' := by
  obtain ⟨id, kind, typ, name, from_, to_, n, state⟩ := r
  by_cases k1 : kind = 1
  · subst k1; exact refForm1 id typ name from_ to_ n state w
  by_cases k2 : kind = 2
  · subst k2; exact refForm2 id typ name from_ to_ n state w
  by_cases k3 : kind = 3
  · subst k3; exact refForm3 id typ name from_ to_ n state w
  by_cases k4 : kind = 4
  · subst k4; exact refForm4 id typ name from_ to_ n state w
  exact refForm0 id kind typ name from_ to_ n state ⟨k1, k2, k3, k4⟩ w

end Go.Hg

namespace Go.Hg

structure PSpot where
  kind : Int
  typ : ByteArray
  name : ByteArray
deriving DecidableEq

/-- what a change touches that may be done -/
def noteG (G : PGraph) (o : POp) : List PSpot :=
  if o.kind = 1 then [⟨1, o.typ, ByteArray.empty⟩]
  else if o.kind = 3 then [⟨2, o.typ, ByteArray.empty⟩]
  else if o.kind = 2 then (match G.nodes.find? fun x => decide (x.id = o.id) with | some n => [⟨1, n.typ, ByteArray.empty⟩] | none => []) ++ (G.edges.filter fun e => atE e o.id).map fun e => ⟨2, e.typ, ByteArray.empty⟩
  else if o.kind = 4 then (match G.edges.find? fun x => decide (x.id = o.id) with | some e => [⟨2, e.typ, ByteArray.empty⟩] | none => [])
  else if o.kind = 5 then (match G.nodes.find? fun x => decide (x.id = o.id) with | some n => [⟨1, n.typ, o.name⟩] | none => []) ++ (match G.edges.find? fun x => decide (x.id = o.id) with | some e => [⟨2, e.typ, o.name⟩] | none => [])
  else []
/-- the catalog that lets any type in -/
def catO (o : POp) : PCat := ⟨[o.typ], [o.typ], [], [], 0⟩
def spotsG (G : PGraph) : List POp → List PSpot
  | [] => []
  | o :: t => (if mayG (catO o) o G = 0 then noteG G o else []) ++ spotsG (stepG (catO o) o G) t
def runG (G : PGraph) : List POp → PGraph
  | [] => G
  | o :: t => runG (stepG (catO o) o G) t
theorem spotsG_append (G : PGraph) (a b : List POp) : spotsG G (a ++ b) = spotsG G a ++ spotsG (runG G a) b := by
  induction a generalizing G with
  | nil => rfl
  | cons o t ih =>
    show (if _ then _ else _) ++ spotsG _ (t ++ b) = ((if _ then _ else _) ++ _) ++ _
    rw [ih, List.append_assoc]
    rfl
theorem runG_snoc (G : PGraph) (a : List POp) (o : POp) : runG G (a ++ [o]) = stepG (catO o) o (runG G a) := by
  induction a generalizing G with
  | nil => rfl
  | cons x t ih => exact ih _
/-- a spot tells of a rule -/
def touchR (S : List PSpot) (r : PRule) : Bool :=
  if r.kind = 1 then decide (PSpot.mk 1 r.typ r.name ∈ S) else if r.kind = 2 then decide (PSpot.mk 1 r.typ r.name ∈ S) || decide (PSpot.mk 1 r.typ ByteArray.empty ∈ S)
  else if r.kind = 3 ∨ r.kind = 4 then decide (PSpot.mk 2 r.typ ByteArray.empty ∈ S) else false
theorem touchR_append (S T : List PSpot) (r : PRule) : touchR (S ++ T) r = (touchR S r || touchR T r) := by
  unfold touchR
  rw [Bool.eq_iff_iff]
  split
  · simp
  · split
    · simp only [List.mem_append, Bool.or_eq_true, decide_eq_true_eq]
      constructor
      · rintro ((h | h) | (h | h))
        · exact .inl (.inl h)
        · exact .inr (.inl h)
        · exact .inl (.inr h)
        · exact .inr (.inr h)
      · rintro ((h | h) | (h | h))
        · exact .inl (.inl h)
        · exact .inr (.inl h)
        · exact .inl (.inr h)
        · exact .inr (.inr h)
    · split
      · simp
      · simp

/-- a property's value stays where another one is set -/
theorem getP_find (ps : List PProp) (n : ByteArray) : getP ps n = (ps.filter fun p => decide (p.name = n)).head?.map (·.v) := by
  unfold getP
  rw [List.head?_filter]
theorem fil_other {ps : List PProp} {name n : ByteArray} (h : n ≠ name) : ((fil ps name).filter fun p => decide (p.name = n)) = ps.filter fun p => decide (p.name = n) := by
  unfold fil
  rw [List.filter_filter]
  refine List.filter_congr fun p _ => ?_
  by_cases hp : p.name = n
  · subst hp
    simp [h]
  · simp [hp]
theorem ins_other {ps : List PProp} {x : PProp} {n : ByteArray} (h : n ≠ x.name) : ((ins ps x).filter fun p => decide (p.name = n)) = ps.filter fun p => decide (p.name = n) := by
  unfold ins
  rw [List.filter_append, List.filter_cons_of_neg (by simpa using Ne.symm h), ← List.filter_append, List.takeWhile_append_dropWhile]
theorem getP_setP {ps : List PProp} {name n : ByteArray} (v : PVal) (h : n ≠ name) : getP (setP ps name v) n = getP ps n := by
  rw [getP_find, getP_find]
  unfold setP
  split
  · rw [fil_other h]
  · rw [ins_other (x := ⟨name, v⟩) h, fil_other h]

theorem typeN_filter {nodes : List PNode} {p : PNode → Bool} {id : Int} (h : ∀ x ∈ nodes, x.id = id → p x = true) : typeN (nodes.filter p) id = typeN nodes id := by
  unfold typeN
  rw [← List.head?_filter, ← List.head?_filter, List.filter_filter]
  congr 2
  refine List.filter_congr fun x hx => ?_
  by_cases hi : x.id = id
  · simp [hi, h x hx hi]
  · simp [hi]
theorem typeN_map {nodes : List PNode} {f : PNode → PNode} (h : ∀ x, (f x).id = x.id ∧ (f x).typ = x.typ) (id : Int) : typeN (nodes.map f) id = typeN nodes id := by
  unfold typeN
  rw [List.find?_map]
  have : ((fun x : PNode => decide (x.id = id)) ∘ f) = fun x => decide (x.id = id) := by
    funext x
    simp [(h x).1]
  rw [this]
  cases nodes.find? fun x => decide (x.id = id) with
  | none => rfl
  | some x => simp [(h x).2]
theorem typeN_snoc {nodes : List PNode} {x : PNode} {id : Int} (h : (typeN nodes id).isSome = true) : typeN (nodes ++ [x]) id = typeN nodes id := by
  unfold typeN at h ⊢
  rw [List.find?_append]
  cases hf : nodes.find? fun x => decide (x.id = id) with
  | none => rw [hf] at h; cases h
  | some y => rfl
theorem isT_some {nodes : List PNode} {id : Int} {t : ByteArray} (h : isT nodes id t = true) : (typeN nodes id).isSome = true := by
  unfold isT at h
  rw [of_decide_eq_true h]
  rfl
theorem find_some_of {α : Type} {l : List α} {p : α → Bool} {x : α} (hx : x ∈ l) (hp : p x = true) : ∃ y, l.find? p = some y ∧ y ∈ l ∧ p y = true := by
  cases hf : l.find? p with
  | none => rw [List.find?_eq_none] at hf; exact absurd hp (hf x hx)
  | some y => exact ⟨y, rfl, List.mem_of_find?_eq_some hf, List.find?_some hf⟩
theorem fmap_congr {α β : Type} {f g : α → Option β} : ∀ {l : List α}, (∀ x ∈ l, f x = g x) → l.filterMap f = l.filterMap g
  | [], _ => rfl
  | a :: t, h => by
    rw [List.filterMap_cons, List.filterMap_cons, h a (.head _), fmap_congr fun x hx => h x (.tail _ hx)]
theorem uniq_id {l : List PNode} (hs : (l.map (·.id)).Pairwise (· < ·)) {x y : PNode} (hx : x ∈ l) (hy : y ∈ l) (h : x.id = y.id) : x = y := by
  induction l with
  | nil => cases hx
  | cons a t ih =>
    rw [List.map_cons, List.pairwise_cons] at hs
    rcases List.mem_cons.1 hx with rfl | hx2 <;> rcases List.mem_cons.1 hy with rfl | hy2
    · rfl
    · have := hs.1 _ (List.mem_map_of_mem hy2); omega
    · have := hs.1 _ (List.mem_map_of_mem hx2); omega
    · exact ih hs.2 hx2 hy2
theorem uniq_idE {l : List PEdge} (hs : (l.map (·.id)).Pairwise (· < ·)) {x y : PEdge} (hx : x ∈ l) (hy : y ∈ l) (h : x.id = y.id) : x = y := by
  induction l with
  | nil => cases hx
  | cons a t ih =>
    rw [List.map_cons, List.pairwise_cons] at hs
    rcases List.mem_cons.1 hx with rfl | hx2 <;> rcases List.mem_cons.1 hy with rfl | hy2
    · rfl
    · have := hs.1 _ (List.mem_map_of_mem hy2); omega
    · have := hs.1 _ (List.mem_map_of_mem hx2); omega
    · exact ih hs.2 hx2 hy2

/-- a rule is kept by what is less -/
theorem uniqR_sub {l l' : List PNode} (h : l.Sublist l') (r : PRule) (hu : uniqR l' r = true) : uniqR l r = true := by
  unfold uniqR at hu ⊢
  exact decide_eq_true ((of_decide_eq_true hu).sublist (h.filterMap _))
theorem mostR_sub {l l' : List PEdge} (h : l.Sublist l') (r : PRule) (hu : mostR l' r = true) : mostR l r = true := by
  unfold mostR at hu ⊢
  rw [List.all_eq_true] at hu ⊢
  intro e he
  have h1 := hu e (h.subset he)
  have h2 := outR_sub h r e.from_
  simp only [Bool.or_eq_true, decide_eq_true_eq] at h1 ⊢
  rcases h1 with h1 | h1
  · exact .inl h1
  · exact .inr (by omega)
theorem any_sub {α : Type} {l l' : List α} (h : l.Sublist l') {p : α → Bool} (hu : l'.any p = false) : l.any p = false := by
  rw [List.any_eq_false] at hu ⊢
  exact fun x hx => hu x (h.subset hx)
theorem outR_map {l : List PEdge} {f : PEdge → PEdge} (h : ∀ x, (f x).typ = x.typ ∧ (f x).from_ = x.from_) (r : PRule) (x : Int) : outR (l.map f) r x = outR l r x := by
  unfold outR
  rw [List.filter_map, List.length_map]
  congr 2
  funext e
  simp [(h e).1, (h e).2]
theorem outR_snoc {l : List PEdge} {e : PEdge} {r : PRule} (h : e.typ ≠ r.typ) (x : Int) : outR (l ++ [e]) r x = outR l r x := by
  unfold outR
  rw [List.filter_append, List.filter_cons_of_neg (by simp [h])]
  simp

theorem holdR_kinds {nodes : List PNode} {edges : List PEdge} {r : PRule} (hf : formR r = true) : holdR nodes edges r = true ↔
    (r.kind = 1 → uniqR nodes r = true) ∧ (r.kind = 2 → nodes.any (lacksR r) = false) ∧ (r.kind = 3 → edges.any (wrongR nodes r) = false) ∧ (r.kind = 4 → mostR edges r = true) := by
  unfold holdR
  rcases formR_kind hf with h | h | h | h <;> simp [h]

/-- A RULE THAT NO SPOT CONCERNS STAYS KEPT -/
theorem hold_step {G : PGraph} {o : POp} {c : PCat} {r : PRule} (hG : GInv G) (hf : formR r = true) (_ : mayG c o G = 0) (ht : touchR (noteG G o) r = false) (hh : holdR G.nodes G.edges r = true) : holdR (doG o G).nodes (doG o G).edges r = true := by
  rw [holdR_kinds hf] at hh ⊢
  obtain ⟨h1, h2, h3, h4⟩ := hh
  by_cases k1 : o.kind = 1
  · have e : doG o G = addNodeG o G := by unfold doG; rw [if_pos k1]
    have en : noteG G o = [⟨1, o.typ, ByteArray.empty⟩] := by unfold noteG; rw [if_pos k1]
    rw [en] at ht
    rw [e]
    refine ⟨fun hk => ?_, fun hk => ?_, fun hk => ?_, fun hk => h4 hk⟩
    · have := h1 hk
      unfold uniqR at this ⊢
      show decide (((G.nodes ++ [PNode.mk G.next o.typ []]).filterMap (valR r)).Nodup) = true
      rw [List.filterMap_append]
      have hv : valR r ⟨G.next, o.typ, []⟩ = none := by unfold valR getP; split <;> rfl
      rw [List.filterMap_cons_none hv]
      simpa using this
    · show (G.nodes ++ [PNode.mk G.next o.typ []]).any (lacksR r) = false
      rw [List.any_append, h2 hk]
      unfold touchR at ht
      rw [if_neg (by omega), if_pos hk] at ht
      simp only [List.mem_singleton, PSpot.mk.injEq, true_and, Bool.or_eq_false_iff, decide_eq_false_iff_not, and_true] at ht
      simp [lacksR, Ne.symm ht.2]
    · have h5 := h3 hk
      rw [List.any_eq_false] at h5 ⊢
      intro x hx hw
      refine h5 x hx ?_
      unfold wrongR at hw ⊢
      simp only [Bool.and_eq_true, Bool.not_eq_true', decide_eq_true_eq] at hw ⊢
      refine ⟨hw.1, ?_⟩
      cases ha : isT G.nodes x.from_ r.from_ && isT G.nodes x.to_ r.to_
      · rfl
      · exfalso
        rw [Bool.and_eq_true] at ha
        have hw2 := hw.2
        unfold isT addNodeG at hw2
        simp only at hw2
        rw [typeN_snoc (isT_some ha.1), typeN_snoc (isT_some ha.2)] at hw2
        unfold isT at ha
        rw [ha.1, ha.2] at hw2
        cases hw2
  · by_cases k2 : o.kind = 2
    · have e : doG o G = dropNodeG o G := by unfold doG; rw [if_neg k1, if_pos k2]
      rw [e]
      unfold dropNodeG
      refine ⟨fun hk => uniqR_sub List.filter_sublist r (h1 hk), fun hk => any_sub List.filter_sublist (h2 hk), fun hk => ?_, fun hk => mostR_sub List.filter_sublist r (h4 hk)⟩
      have h5 := h3 hk
      rw [List.any_eq_false] at h5 ⊢
      intro x hx hw
      obtain ⟨hx1, hx2⟩ := List.mem_filter.1 hx
      refine h5 x hx1 ?_
      unfold atE at hx2
      simp only [Bool.not_eq_true', decide_eq_false_iff_not, not_or] at hx2
      unfold wrongR isT at hw ⊢
      simp only at hw
      rw [typeN_filter (fun y _ hy => by simp; omega), typeN_filter (fun y _ hy => by simp; omega)] at hw
      exact hw
    · by_cases k3 : o.kind = 3
      · have e : doG o G = addEdgeG o G := by unfold doG; rw [if_neg k1, if_neg k2, if_pos k3]
        have en : noteG G o = [⟨2, o.typ, ByteArray.empty⟩] := by unfold noteG; rw [if_neg k1, if_pos k3]
        rw [en] at ht
        rw [e]
        unfold addEdgeG
        refine ⟨h1, h2, fun hk => ?_, fun hk => ?_⟩
        · unfold touchR at ht
          rw [if_neg (by omega), if_neg (by omega), if_pos (by omega)] at ht
          simp only [List.mem_singleton, PSpot.mk.injEq, true_and, decide_eq_false_iff_not, and_true] at ht
          rw [List.any_append, h3 hk]
          simp [wrongR, Ne.symm ht]
        · unfold touchR at ht
          rw [if_neg (by omega), if_neg (by omega), if_pos (by omega)] at ht
          simp only [List.mem_singleton, PSpot.mk.injEq, true_and, decide_eq_false_iff_not, and_true] at ht
          have h5 := h4 hk
          unfold mostR at h5 ⊢
          rw [List.all_eq_true] at h5 ⊢
          intro x hx
          rcases List.mem_append.1 hx with hx | hx
          · have := h5 x hx
            rw [outR_snoc (Ne.symm ht)]
            exact this
          · rw [List.mem_singleton] at hx
            subst hx
            simp [Ne.symm ht]
      · by_cases k4 : o.kind = 4
        · have e : doG o G = dropEdgeG o G := by unfold doG; rw [if_neg k1, if_neg k2, if_neg k3, if_pos k4]
          rw [e]
          unfold dropEdgeG
          exact ⟨h1, h2, fun hk => any_sub List.filter_sublist (h3 hk), fun hk => mostR_sub List.filter_sublist r (h4 hk)⟩
        · by_cases k5 : o.kind = 5
          · have e : doG o G = setPropG o G := by unfold doG; rw [if_neg k1, if_neg k2, if_neg k3, if_neg k4, if_pos k5]
            rw [e]
            unfold setPropG
            by_cases hn : hasN G o.id = true
            · rw [if_pos hn]
              have en : ∃ n, n ∈ G.nodes ∧ n.id = o.id ∧ PSpot.mk 1 n.typ o.name ∈ noteG G o := by
                unfold hasN at hn
                obtain ⟨n0, hn0, hd⟩ := List.any_eq_true.1 hn
                obtain ⟨n, hfn, hmn, hpn⟩ := find_some_of (p := fun x : PNode => decide (x.id = o.id)) hn0 hd
                refine ⟨n, hmn, by simpa using hpn, ?_⟩
                unfold noteG
                rw [if_neg k1, if_neg k3, if_neg k2, if_neg k4, if_pos k5, hfn]
                simp
              obtain ⟨n, hmn, hid, hsp⟩ := en
              have hval : ∀ x ∈ G.nodes, (r.kind = 1 ∨ r.kind = 2) → x.id = o.id → x.typ = r.typ → r.name ≠ o.name := by
                intro x hx hk hxi hxt hre
                have hxn : x = n := uniq_id hG.nodes hx hmn (by rw [hxi, hid])
                subst hxn
                rw [← hre, hxt] at hsp
                unfold touchR at ht
                rcases hk with hk | hk
                · rw [if_pos hk] at ht
                  simp [hsp] at ht
                · rw [if_neg (by omega), if_pos hk] at ht
                  simp [hsp] at ht
              refine ⟨fun hk => ?_, fun hk => ?_, fun hk => ?_, h4⟩
              · have h5 := h1 hk
                unfold uniqR at h5 ⊢
                rw [List.filterMap_map]
                have : (G.nodes.filterMap (valR r ∘ fun x => if x.id = o.id then ⟨x.id, x.typ, setP x.props o.name o.v⟩ else x)) = G.nodes.filterMap (valR r) := by
                  refine fmap_congr fun x hx => ?_
                  simp only [Function.comp]
                  by_cases hxi : x.id = o.id
                  · rw [if_pos hxi]
                    unfold valR
                    simp only
                    by_cases hxt : x.typ = r.typ
                    · rw [if_pos hxt, if_pos hxt, getP_setP _ (hval x hx (.inl hk) hxi hxt)]
                    · rw [if_neg hxt, if_neg hxt]
                  · rw [if_neg hxi]
                rw [this]
                exact h5
              · have h5 := h2 hk
                rw [List.any_eq_false] at h5 ⊢
                intro y hy
                obtain ⟨x, hx, rfl⟩ := List.mem_map.1 hy
                have h6 := h5 x hx
                by_cases hxi : x.id = o.id
                · rw [if_pos hxi]
                  unfold lacksR at h6 ⊢
                  simp only
                  by_cases hxt : x.typ = r.typ
                  · rw [getP_setP _ (hval x hx (.inr hk) hxi hxt)]
                    exact h6
                  · simp [hxt]
                · rw [if_neg hxi]
                  exact h6
              · have h5 := h3 hk
                rw [List.any_eq_false] at h5 ⊢
                intro x hx
                have h6 := h5 x hx
                unfold wrongR isT at h6 ⊢
                simp only
                rw [typeN_map (fun y => by by_cases hy : y.id = o.id <;> simp [hy]), typeN_map (fun y => by by_cases hy : y.id = o.id <;> simp [hy])]
                exact h6
            · rw [if_neg hn]
              refine ⟨h1, h2, fun hk => ?_, fun hk => ?_⟩
              · have h5 := h3 hk
                rw [List.any_eq_false] at h5 ⊢
                intro y hy
                obtain ⟨x, hx, rfl⟩ := List.mem_map.1 hy
                have h6 := h5 x hx
                by_cases hxi : x.id = o.id
                · rw [if_pos hxi]; exact h6
                · rw [if_neg hxi]; exact h6
              · have h5 := h4 hk
                unfold mostR at h5 ⊢
                rw [List.all_eq_true] at h5 ⊢
                intro y hy
                obtain ⟨x, hx, rfl⟩ := List.mem_map.1 hy
                have h6 := h5 x hx
                rw [outR_map (fun y => by by_cases hy : y.id = o.id <;> simp [hy])]
                by_cases hxi : x.id = o.id
                · rw [if_pos hxi]; exact h6
                · rw [if_neg hxi]; exact h6
          · have e : doG o G = G := by unfold doG; rw [if_neg k1, if_neg k2, if_neg k3, if_neg k4, if_neg k5]
            rw [e]
            exact ⟨h1, h2, h3, h4⟩
theorem hold_run {G : PGraph} {r : PRule} (hG : GInv G) (hf : formR r = true) (l : List POp) (ht : touchR (spotsG G l) r = false) (hh : holdR G.nodes G.edges r = true) : holdR (runG G l).nodes (runG G l).edges r = true := by
  induction l generalizing G with
  | nil => exact hh
  | cons o t ih =>
    unfold spotsG at ht
    rw [touchR_append, Bool.or_eq_false_iff] at ht
    refine ih hG.stepG ht.2 ?_
    unfold stepG
    by_cases hm : mayG (catO o) o G = 0
    · rw [if_pos hm] at ht ⊢
      exact hold_step hG hf hm ht.1 hh
    · rw [if_neg hm]
      exact hh
end Go.Hg

namespace Go.Hg
open Go.RowKit Go.Proofs

noncomputable def goodNs (next : Int) : Int → List PNode → Bool
  | _, [] => true
  | last, x :: t => !decide (x.id ≤ last) && (!decide (next ≤ x.id) && (decide (NameOk x.typ) && (propsB x.props && goodNs next x.id t)))
noncomputable def goodEs (G : PGraph) : Int → List PEdge → Bool
  | _, [] => true
  | last, x :: t => !decide (x.id ≤ last) && (!decide (G.next ≤ x.id) && (!hasN G x.id && (hasN G x.from_ && (hasN G x.to_ && (decide (NameOk x.typ) && (propsB x.props && goodEs G x.id t))))))
def sizeOkG (G : PGraph) : Bool := !decide (G.next < 1) && (!decide (4611686018427387904 < G.next) && !decide (1024 < G.nodes.length + G.edges.length))
noncomputable def goodG (G : PGraph) : Bool := sizeOkG G && (goodNs G.next 0 G.nodes && goodEs G 0 G.edges)

theorem goodNs_all {next : Int} : ∀ {l : List PNode} {last : Int}, goodNs next last l = true → (l.map (·.id)).Pairwise (· < ·) ∧ ∀ x ∈ l, last < x.id ∧ x.id < next ∧ NameOk x.typ ∧ PropsOk x.props
  | [], _, _ => ⟨by simp, by simp⟩
  | x :: t, last, h => by
    unfold goodNs at h
    simp only [Bool.and_eq_true, Bool.not_eq_true', decide_eq_false_iff_not, decide_eq_true_eq, propsB_iff] at h
    obtain ⟨h1, h2, h3, h4, h5⟩ := h
    obtain ⟨ih1, ih2⟩ := goodNs_all h5
    refine ⟨?_, ?_⟩
    · rw [List.map_cons, List.pairwise_cons]
      exact ⟨fun y hy => by obtain ⟨z, hz, rfl⟩ := List.mem_map.1 hy; exact (ih2 z hz).1, ih1⟩
    · intro y hy
      rcases List.mem_cons.1 hy with rfl | hy
      · exact ⟨by omega, by omega, h3, h4⟩
      · have := ih2 y hy
        exact ⟨by omega, this.2⟩
theorem goodEs_all {G : PGraph} : ∀ {l : List PEdge} {last : Int}, goodEs G last l = true → (l.map (·.id)).Pairwise (· < ·) ∧ ∀ x ∈ l, last < x.id ∧ x.id < G.next ∧ hasN G x.id = false ∧ hasN G x.from_ = true ∧ hasN G x.to_ = true ∧ NameOk x.typ ∧ PropsOk x.props
  | [], _, _ => ⟨by simp, by simp⟩
  | x :: t, last, h => by
    unfold goodEs at h
    simp only [Bool.and_eq_true, Bool.not_eq_true', decide_eq_false_iff_not, decide_eq_true_eq, propsB_iff] at h
    obtain ⟨h1, h2, h3, h4, h5, h6, h7, h8⟩ := h
    obtain ⟨ih1, ih2⟩ := goodEs_all h8
    refine ⟨?_, ?_⟩
    · rw [List.map_cons, List.pairwise_cons]
      exact ⟨fun y hy => by obtain ⟨z, hz, rfl⟩ := List.mem_map.1 hy; exact (ih2 z hz).1, ih1⟩
    · intro y hy
      rcases List.mem_cons.1 hy with rfl | hy
      · exact ⟨by omega, by omega, h3, h4, h5, h6, h7⟩
      · have := ih2 y hy
        exact ⟨by omega, this.2⟩
theorem goodG_inv {G : PGraph} (h : goodG G = true) : GInv G := by
  unfold goodG sizeOkG at h
  simp only [Bool.and_eq_true, Bool.not_eq_true', decide_eq_false_iff_not] at h
  obtain ⟨⟨h1, h2, h3⟩, h4, h5⟩ := h
  obtain ⟨n1, n2⟩ := goodNs_all h4
  obtain ⟨e1, e2⟩ := goodEs_all h5
  refine ⟨by omega, by omega, by omega, n1, e1, fun x hx => ?_, fun x hx => ?_⟩
  · have := n2 x hx
    exact ⟨by omega, this.2.1, this.2.2.2.1⟩
  · have := e2 x hx
    exact ⟨by omega, this.2.1, this.2.2.2.2.2.2.1⟩

end Go.Hg

namespace Go.Hg

theorem bytesLess_trans : ∀ {a b c : List UInt8}, Op.bytesLess a b = true → Op.bytesLess b c = true → Op.bytesLess a c = true
  | [], b, c, h1, h2 => by
    cases c with
    | nil => cases b <;> simp [Op.bytesLess] at h1 h2
    | cons => rfl
  | x :: a, [], c, h1, _ => by simp [Op.bytesLess] at h1
  | x :: a, y :: b, [], _, h2 => by simp [Op.bytesLess] at h2
  | x :: a, y :: b, z :: c, h1, h2 => by
    have ih := @bytesLess_trans a b c
    simp only [Op.bytesLess, Bool.or_eq_true, Bool.and_eq_true, decide_eq_true_eq, beq_iff_eq] at h1 h2 ⊢
    rcases h1 with h1 | ⟨rfl, h1⟩
    · rcases h2 with h2 | ⟨rfl, h2⟩
      · left; rw [UInt8.lt_iff_toNat_lt] at *; omega
      · exact .inl h1
    · rcases h2 with h2 | ⟨rfl, h2⟩
      · exact .inl h2
      · exact .inr ⟨rfl, ih h1 h2⟩
theorem ltS_trans {a b c : ByteArray} (h1 : ltS a b = true) (h2 : ltS b c = true) : ltS a c = true := bytesLess_trans h1 h2

/-- a property set in plain words -/
def PropsP (l : List PProp) : Prop := (∀ p ∈ l, NameOk p.name ∧ GoodV p.v) ∧ l.Pairwise (fun p q => ltS p.name q.name = true)
theorem pw_adj {l : List PProp} (h : ∀ i p q, l[i]? = some p → l[i + 1]? = some q → ltS p.name q.name = true) : l.Pairwise (fun p q => ltS p.name q.name = true) := by
  rw [List.pairwise_iff_getElem]
  intro i j hi hj hij
  have key : ∀ d, (hd : i + d + 1 < l.length) → ltS l[i].name (l[i + d + 1]).name = true := by
    intro d
    induction d with
    | zero => intro hd; exact h i _ _ (List.getElem?_eq_getElem (by omega)) (List.getElem?_eq_getElem hd)
    | succ d ih =>
      intro hd
      exact ltS_trans (ih (by omega)) (h (i + d + 1) _ _ (List.getElem?_eq_getElem (by omega)) (List.getElem?_eq_getElem hd))
  have := key (j - i - 1) (by omega)
  simpa [show i + (j - i - 1) + 1 = j by omega] using this
theorem propsOk_iff {l : List PProp} : PropsOk l ↔ l.length ≤ 8 ∧ PropsP l := by
  constructor
  · rintro ⟨h8, h⟩
    refine ⟨h8, fun p hp => ?_, pw_adj fun i p q hp hq => ?_⟩
    · obtain ⟨i, hi⟩ := List.getElem?_of_mem hp
      have := h i (List.getElem?_eq_some_iff.1 hi).1 p hi
      exact ⟨this.1, this.2.1⟩
    · exact (h (i + 1) (List.getElem?_eq_some_iff.1 hq).1 q hq).2.2 (by omega) p hp
  · rintro ⟨h8, h1, h2⟩
    refine ⟨h8, fun i hi p hp => ⟨(h1 p (List.mem_of_getElem? hp)).1, (h1 p (List.mem_of_getElem? hp)).2, fun h0 q hq => ?_⟩⟩
    rw [List.pairwise_iff_getElem] at h2
    obtain ⟨a, rfl⟩ := List.getElem?_eq_some_iff.1 hp
    obtain ⟨b, rfl⟩ := List.getElem?_eq_some_iff.1 hq
    exact h2 (i - 1) i b a (by omega)
theorem PropsP.fil {l : List PProp} (h : PropsP l) (name : ByteArray) : PropsP (fil l name) :=
  ⟨fun p hp => h.1 p (List.mem_filter.1 hp).1, h.2.sublist List.filter_sublist⟩
theorem fil_ne {l : List PProp} {name : ByteArray} : ∀ p ∈ fil l name, p.name ≠ name := fun p hp => by
  have := (List.mem_filter.1 hp).2
  simpa using this
theorem PropsP.ins {l : List PProp} (h : PropsP l) {x : PProp} (hne : ∀ p ∈ l, p.name ≠ x.name) (hx : NameOk x.name ∧ GoodV x.v) : PropsP (ins l x) := by
  have hsplit : l = (l.takeWhile fun p => ltS p.name x.name) ++ (l.dropWhile fun p => ltS p.name x.name) := (List.takeWhile_append_dropWhile).symm
  have hlo : ∀ p ∈ l.takeWhile (fun p => ltS p.name x.name), ltS p.name x.name = true := fun p hp => List.all_eq_true.1 (List.all_takeWhile (p := fun p : PProp => ltS p.name x.name) (l := l)) p hp
  have hmem1 : ∀ p ∈ l.takeWhile (fun p => ltS p.name x.name), p ∈ l := fun p hp => (List.takeWhile_sublist _).subset hp
  have hmem2 : ∀ p ∈ l.dropWhile (fun p => ltS p.name x.name), p ∈ l := fun p hp => (List.dropWhile_sublist _).subset hp
  have hpw := h.2
  rw [hsplit, List.pairwise_append] at hpw
  obtain ⟨p1, p2, p3⟩ := hpw
  have hhi : ∀ p ∈ l.dropWhile (fun p => ltS p.name x.name), ltS x.name p.name = true := by
    cases hd : l.dropWhile (fun p => ltS p.name x.name) with
    | nil => simp
    | cons a t =>
      have ha : ltS a.name x.name = false := by
        have := List.head?_dropWhile_not (fun p => ltS p.name x.name) l
        rw [hd] at this
        simpa using this
      have hax : ltS x.name a.name = true := by
        have h1 := ltS_tri a.name x.name
        have h2 : decide (a.name = x.name) = false := decide_eq_false (hne a (hmem2 a (by rw [hd]; simp)))
        rw [ha, h2] at h1
        simpa using h1.symm
      rw [hd, List.pairwise_cons] at p2
      intro p hp
      rcases List.mem_cons.1 hp with rfl | hp
      · exact hax
      · exact ltS_trans hax (p2.1 p hp)
  unfold Hg.ins
  refine ⟨fun p hp => ?_, ?_⟩
  · rcases List.mem_append.1 hp with hp | hp
    · exact h.1 p (hmem1 p hp)
    · rcases List.mem_cons.1 hp with rfl | hp
      · exact hx
      · exact h.1 p (hmem2 p hp)
  · rw [List.pairwise_append, List.pairwise_cons]
    refine ⟨p1, ⟨hhi, p2⟩, fun p hp q hq => ?_⟩
    rcases List.mem_cons.1 hq with rfl | hq
    · exact hlo p hp
    · exact p3 p hp q hq
theorem PropsP.setP {l : List PProp} (h : PropsP l) {name : ByteArray} {v : PVal} (hn : NameOk name) (hv : GoodV v ∨ v.kind = 0) : PropsP (setP l name v) := by
  unfold Hg.setP
  split
  · exact h.fil name
  · refine (h.fil name).ins (x := ⟨name, v⟩) (fun p hp => fil_ne p hp) ⟨hn, ?_⟩
    rcases hv with hv | hv
    · exact hv
    · exact absurd hv ‹_›

/-- a good graph in plain words, beside its structure -/
structure GoodX (G : PGraph) : Prop where
  nodes : ∀ x ∈ G.nodes, NameOk x.typ ∧ PropsOk x.props
  edges : ∀ x ∈ G.edges, hasN G x.id = false ∧ hasN G x.from_ = true ∧ hasN G x.to_ = true ∧ NameOk x.typ ∧ PropsOk x.props
theorem goodNs_of {next : Int} : ∀ {l : List PNode} {last : Int}, (l.map (·.id)).Pairwise (· < ·) → (∀ x ∈ l, last < x.id ∧ x.id < next ∧ NameOk x.typ ∧ PropsOk x.props) → goodNs next last l = true
  | [], _, _, _ => rfl
  | x :: t, last, hp, h => by
    rw [List.map_cons, List.pairwise_cons] at hp
    have hx := h x (by simp)
    unfold goodNs
    rw [decide_eq_false (show ¬ x.id ≤ last by omega), decide_eq_false (show ¬ next ≤ x.id by omega), decide_eq_true hx.2.2.1, propsB_true hx.2.2.2,
      goodNs_of hp.2 (fun y hy => ⟨hp.1 y.id (List.mem_map_of_mem hy), (h y (by simp [hy])).2⟩)]
    rfl
theorem goodEs_of {G : PGraph} : ∀ {l : List PEdge} {last : Int}, (l.map (·.id)).Pairwise (· < ·) → (∀ x ∈ l, last < x.id ∧ x.id < G.next ∧ hasN G x.id = false ∧ hasN G x.from_ = true ∧ hasN G x.to_ = true ∧ NameOk x.typ ∧ PropsOk x.props) → goodEs G last l = true
  | [], _, _, _ => rfl
  | x :: t, last, hp, h => by
    rw [List.map_cons, List.pairwise_cons] at hp
    have hx := h x (by simp)
    unfold goodEs
    rw [decide_eq_false (show ¬ x.id ≤ last by omega), decide_eq_false (show ¬ G.next ≤ x.id by omega), hx.2.2.1, hx.2.2.2.1, hx.2.2.2.2.1, decide_eq_true hx.2.2.2.2.2.1, propsB_true hx.2.2.2.2.2.2,
      goodEs_of hp.2 (fun y hy => ⟨hp.1 y.id (List.mem_map_of_mem hy), (h y (by simp [hy])).2⟩)]
    rfl
theorem goodG_iff {G : PGraph} : goodG G = true ↔ GInv G ∧ GoodX G := by
  constructor
  · intro h
    refine ⟨goodG_inv h, ?_⟩
    unfold goodG at h
    simp only [Bool.and_eq_true] at h
    exact ⟨fun x hx => ((goodNs_all h.2.1).2 x hx).2.2, fun x hx => ((goodEs_all h.2.2).2 x hx).2.2⟩
  · rintro ⟨hi, hx⟩
    have h1 := hi.next0
    have h2 := hi.next1
    have h3 := hi.items
    unfold goodG sizeOkG
    rw [decide_eq_false (show ¬ G.next < 1 by omega), decide_eq_false (show ¬ 4611686018427387904 < G.next by omega), decide_eq_false (show ¬ 1024 < G.nodes.length + G.edges.length by omega),
      goodNs_of hi.nodes (fun x hx' => ⟨by have := (hi.nodesB x hx').1; omega, (hi.nodesB x hx').2.1, hx.nodes x hx'⟩),
      goodEs_of hi.edges (fun x hx' => ⟨by have := (hi.edgesB x hx').1; omega, (hi.edgesB x hx').2.1, hx.edges x hx'⟩)]
    rfl
def CatNames (c : PCat) : Prop := (∀ s ∈ c.nodes, NameOk s) ∧ ∀ s ∈ c.edges, NameOk s
theorem propsOk_nil : PropsOk [] := propsOk_iff.2 ⟨by simp, by simp, by simp⟩
theorem memS_mem {s : ByteArray} {l : List ByteArray} (h : memS s l = true) : s ∈ l := by
  obtain ⟨x, hx, hxs⟩ := List.any_eq_true.1 h
  have : x = s := by simpa using hxs
  rwa [this] at hx
theorem hasN_false {G : PGraph} {id : Int} (h : ∀ x ∈ G.nodes, x.id ≠ id) : hasN G id = false := List.any_eq_false.2 (fun x hx => by simpa using h x hx)
theorem hasN_true {G : PGraph} {id : Int} : hasN G id = true ↔ ∃ x ∈ G.nodes, x.id = id := by
  unfold hasN
  rw [List.any_eq_true]
  simp
theorem goodX_do {c : PCat} {o : POp} {G : PGraph} (hc : CatNames c) (hi : GInv G) (h : GoodX G) (hm : mayG c o G = 0) : GoodX (doG o G) := by
  unfold mayG at hm
  unfold Hg.doG
  by_cases h1 : o.kind = 1
  · rw [if_pos h1] at hm ⊢
    split at hm
    · simp at hm
    · rename_i ht
      have ht' : memS o.typ c.nodes = true := by simpa using ht
      have hhas : ∀ id, hasN (addNodeG o G) id = (hasN G id || decide (G.next = id)) := fun id => by simp [hasN, addNodeG]
      refine ⟨fun x hx => ?_, fun x hx => ?_⟩
      · rcases List.mem_append.1 hx with hx | hx
        · exact h.nodes x hx
        · simp at hx; subst hx; exact ⟨hc.1 _ (memS_mem ht'), propsOk_nil⟩
      · have he := h.edges x hx
        have hb := hi.edgesB x hx
        rw [hhas, hhas, hhas, he.1, he.2.1, he.2.2.1]
        exact ⟨by simp; omega, rfl, rfl, he.2.2.2⟩
  rw [if_neg h1] at hm ⊢
  by_cases h2 : o.kind = 2
  · rw [if_pos h2]
    refine ⟨fun x hx => h.nodes x (List.mem_filter.1 hx).1, fun x hx => ?_⟩
    obtain ⟨hx1, hx2⟩ := List.mem_filter.1 hx
    have he := h.edges x hx1
    have hat : x.from_ ≠ o.id ∧ x.to_ ≠ o.id := by
      unfold atE at hx2
      simpa using hx2
    have hkeep : ∀ id, id ≠ o.id → hasN G id = true → hasN (dropNodeG o G) id = true := fun id hid hh => by
      obtain ⟨y, hy, hyi⟩ := hasN_true.1 hh
      exact hasN_true.2 ⟨y, List.mem_filter.2 ⟨hy, by simp; omega⟩, hyi⟩
    refine ⟨hasN_false (fun y hy => ?_), hkeep _ hat.1 he.2.1, hkeep _ hat.2 he.2.2.1, he.2.2.2⟩
    have hy1 := (List.mem_filter.1 hy).1
    intro e
    have := hasN_true.2 ⟨y, hy1, e⟩
    rw [he.1] at this
    cases this
  rw [if_neg h2] at hm ⊢
  by_cases h3 : o.kind = 3
  · rw [if_pos h3] at hm ⊢
    split at hm
    · simp at hm
    · rename_i ht
      have ht' : memS o.typ c.edges = true := by simpa using ht
      split at hm
      · simp at hm
      · rename_i hft
        have hf : hasN G o.from_ = true ∧ hasN G o.to_ = true := by
          simp only [not_or] at hft
          exact ⟨by simpa using hft.1, by simpa using hft.2⟩
        refine ⟨h.nodes, fun x hx => ?_⟩
        show hasN G x.id = false ∧ hasN G x.from_ = true ∧ hasN G x.to_ = true ∧ _
        rcases List.mem_append.1 hx with hx | hx
        · exact h.edges x hx
        · simp at hx; subst hx
          exact ⟨hasN_false (fun y hy => by have := (hi.nodesB y hy).2.1; simp; omega), hf.1, hf.2, hc.2 _ (memS_mem ht'), propsOk_nil⟩
  rw [if_neg h3] at hm ⊢
  by_cases h4 : o.kind = 4
  · rw [if_pos h4]
    exact ⟨h.nodes, fun x hx => h.edges x (List.mem_filter.1 hx).1⟩
  rw [if_neg h4] at hm ⊢
  by_cases h5 : o.kind = 5
  · rw [if_pos h5] at hm ⊢
    split at hm
    · simp at hm
    · rename_i hnv
      simp only [not_or, not_and, Classical.not_not] at hnv
      have hv : GoodV o.v ∨ o.v.kind = 0 := by
        by_cases hg : GoodV o.v
        · exact .inl hg
        · exact .inr (hnv.2 hg).1
      split at hm
      · simp at hm
      · rename_i ps hps
        split at hm
        · simp at hm
        · rename_i h8
          have hset : PropsOk ps → PropsOk (setP ps o.name o.v) := fun hp => propsOk_iff.2 ⟨by omega, (propsOk_iff.1 hp).2.setP hnv.1 hv⟩
          unfold findP at hps
          unfold setPropG
          split
          · rename_i hn
            obtain ⟨y, hy, hyi⟩ := hasN_true.1 hn
            obtain ⟨i, hyi'⟩ := List.getElem?_of_mem hy
            rw [find_idx (fun x : PNode => x.id) hi.nodes hyi' hyi] at hps
            simp only [Option.some.injEq] at hps
            have hids : ∀ id, hasN (⟨G.nodes.map fun x => if x.id = o.id then ⟨x.id, x.typ, setP x.props o.name o.v⟩ else x, G.edges, G.next⟩ : PGraph) id = hasN G id := fun id => by
              unfold hasN
              show ((G.nodes.map fun x => if x.id = o.id then (⟨x.id, x.typ, setP x.props o.name o.v⟩ : PNode) else x).any _) = _
              rw [List.any_map]
              congr 1
              funext x
              simp only [Function.comp]
              split <;> rfl
            refine ⟨fun x hx => ?_, fun x hx => ?_⟩
            · obtain ⟨z, hz, rfl⟩ := List.mem_map.1 hx
              have hzn := h.nodes z hz
              split
              · rename_i hzi
                obtain ⟨j, hj⟩ := List.getElem?_of_mem hz
                have e1 := find_idx (fun x : PNode => x.id) hi.nodes hj hzi
                rw [find_idx (fun x : PNode => x.id) hi.nodes hyi' hyi] at e1
                simp only [Option.some.injEq] at e1
                subst e1
                exact ⟨hzn.1, by rw [hps]; exact hset (by rw [← hps]; exact hzn.2)⟩
              · exact hzn
            · rw [hids, hids, hids]; exact h.edges x hx
          · rename_i hn
            have hn' : hasN G o.id = false := by simpa using hn
            rw [find_none (fun x : PNode => x.id) hn'] at hps
            cases hf : G.edges.find? fun x => decide (x.id = o.id) with
            | none => rw [hf] at hps; simp at hps
            | some y =>
              rw [hf] at hps
              simp only [Option.some.injEq] at hps
              refine ⟨h.nodes, fun x hx => ?_⟩
              show hasN G x.id = false ∧ hasN G x.from_ = true ∧ hasN G x.to_ = true ∧ _
              obtain ⟨z, hz, rfl⟩ := List.mem_map.1 hx
              have hzn := h.edges z hz
              split
              · rename_i hzi
                obtain ⟨j, hj⟩ := List.getElem?_of_mem hz
                have e1 := find_idx (fun x : PEdge => x.id) hi.edges hj hzi
                rw [hf] at e1
                simp only [Option.some.injEq] at e1
                subst e1
                exact ⟨hzn.1, hzn.2.1, hzn.2.2.1, hzn.2.2.2.1, by rw [hps]; exact hset (by rw [← hps]; exact hzn.2.2.2.2)⟩
              · exact hzn
  rw [if_neg h5] at hm
  simp at hm
theorem goodG_step {c : PCat} {o : POp} {G : PGraph} (hc : CatNames c) (h : goodG G = true) : goodG (stepG c o G) = true := by
  obtain ⟨hi, hx⟩ := goodG_iff.1 h
  refine goodG_iff.2 ⟨hi.stepG, ?_⟩
  unfold stepG
  split
  · exact goodX_do hc hi hx ‹_›
  · exact hx
theorem goodG_empty : goodG PGraph.empty = true := goodG_iff.2 ⟨GInv.empty, by simp [PGraph.empty], by simp [PGraph.empty]⟩
theorem typesC_names : CatNames typesC := ⟨by decide, by decide⟩
end Go.Hg

namespace Go.Hg

def ltSp (a b : PSpot) : Bool := decide (a.kind < b.kind) || (decide (a.kind = b.kind) && (ltS a.typ b.typ || (decide (a.typ = b.typ) && ltS a.name b.name)))
theorem ltS_irrefl (a : ByteArray) : ltS a a = false := by
  have h := ltS_tri a a
  simp at h
  exact h
theorem ltS_total {a b : ByteArray} (h1 : ltS a b = false) (h2 : ltS b a = false) : a = b := by
  have h := ltS_tri a b
  rw [h1, h2] at h
  simpa using h
theorem ltS_asymm {a b : ByteArray} (h : ltS a b = true) : ltS b a = false := by
  cases h2 : ltS b a with
  | false => rfl
  | true => have := ltS_trans h h2; rw [ltS_irrefl] at this; cases this
theorem ltSp_irrefl (a : PSpot) : ltSp a a = false := by simp [ltSp, ltS_irrefl]
theorem ltSp_iff (a b : PSpot) : ltSp a b = true ↔ a.kind < b.kind ∨ (a.kind = b.kind ∧ (ltS a.typ b.typ = true ∨ (a.typ = b.typ ∧ ltS a.name b.name = true))) := by simp [ltSp]
theorem ltSp_trans {a b c : PSpot} (h1 : ltSp a b = true) (h2 : ltSp b c = true) : ltSp a c = true := by
  rw [ltSp_iff] at h1 h2 ⊢
  rcases h1 with h1 | ⟨e1, h1⟩ <;> rcases h2 with h2 | ⟨e2, h2⟩
  · exact .inl (by omega)
  · exact .inl (by omega)
  · exact .inl (by omega)
  · refine .inr ⟨by omega, ?_⟩
    rcases h1 with h1 | ⟨f1, h1⟩ <;> rcases h2 with h2 | ⟨f2, h2⟩
    · exact .inl (ltS_trans h1 h2)
    · exact .inl (f2 ▸ h1)
    · exact .inl (f1 ▸ h2)
    · exact .inr ⟨f1.trans f2, ltS_trans h1 h2⟩
theorem ltSp_total {a b : PSpot} (h1 : ltSp a b = false) (h2 : ltSp b a = false) : a = b := by
  have g1 : ¬ ltSp a b = true := by rw [h1]; simp
  have g2 : ¬ ltSp b a = true := by rw [h2]; simp
  rw [ltSp_iff] at g1 g2
  have hk : a.kind = b.kind := by
    have : ¬ a.kind < b.kind := fun h => g1 (.inl h)
    have : ¬ b.kind < a.kind := fun h => g2 (.inl h)
    omega
  have k1 : ¬ (ltS a.typ b.typ = true ∨ (a.typ = b.typ ∧ ltS a.name b.name = true)) := fun h => g1 (.inr ⟨hk, h⟩)
  have k2 : ¬ (ltS b.typ a.typ = true ∨ (b.typ = a.typ ∧ ltS b.name a.name = true)) := fun h => g2 (.inr ⟨hk.symm, h⟩)
  have ht : a.typ = b.typ := ltS_total (by simpa using fun h => k1 (.inl h)) (by simpa using fun h => k2 (.inl h))
  have hn : a.name = b.name := ltS_total (by simpa using fun h => k1 (.inr ⟨ht, h⟩)) (by simpa using fun h => k2 (.inr ⟨ht.symm, h⟩))
  cases a; cases b
  simp only at hk ht hn
  rw [hk, ht, hn]
theorem ltSp_asymm {a b : PSpot} (h : ltSp a b = true) : ltSp b a = false := by
  cases h2 : ltSp b a with
  | false => rfl
  | true => have := ltSp_trans h h2; rw [ltSp_irrefl] at this; cases this

/-- the spots of S in order, each once -/
def SpSet (l : List PSpot) (S : List PSpot) : Prop := l.Pairwise (fun a b => ltSp a b = true) ∧ ∀ x, x ∈ l ↔ x ∈ S
theorem spSame : ∀ {l l' : List PSpot}, l.Pairwise (fun a b => ltSp a b = true) → l'.Pairwise (fun a b => ltSp a b = true) → (∀ x, x ∈ l ↔ x ∈ l') → l = l'
  | [], [], _, _, _ => rfl
  | [], b :: t', _, _, h => absurd ((h b).2 (.head _)) (by simp)
  | a :: t, [], _, _, h => absurd ((h a).1 (.head _)) (by simp)
  | a :: t, b :: t', h1, h2, h => by
    rw [List.pairwise_cons] at h1 h2
    have hab : a = b := by
      have ha := (h a).1 (.head _)
      have hb := (h b).2 (.head _)
      rcases List.mem_cons.1 ha with e | ha
      · exact e
      · rcases List.mem_cons.1 hb with e | hb
        · exact e.symm
        · have g1 := h1.1 _ hb
          have g2 := h2.1 _ ha
          rw [ltSp_asymm g1] at g2
          cases g2
    subst hab
    refine congrArg (a :: ·) (spSame h1.2 h2.2 fun x => ?_)
    constructor
    · intro hx
      rcases List.mem_cons.1 ((h x).1 (.tail _ hx)) with rfl | hx'
      · have := h1.1 _ hx; rw [ltSp_irrefl] at this; cases this
      · exact hx'
    · intro hx
      rcases List.mem_cons.1 ((h x).2 (.tail _ hx)) with rfl | hx'
      · have := h2.1 _ hx; rw [ltSp_irrefl] at this; cases this
      · exact hx'
theorem SpSet.uniq {l l' S : List PSpot} (h : SpSet l S) (h' : SpSet l' S) : l = l' := spSame h.1 h'.1 fun x => by rw [h.2, h'.2]
theorem SpSet.nil : SpSet [] [] := ⟨.nil, fun _ => Iff.rfl⟩
theorem SpSet.congr {l S T : List PSpot} (h : SpSet l S) (hs : ∀ x, x ∈ S ↔ x ∈ T) : SpSet l T := ⟨h.1, fun x => (h.2 x).trans (hs x)⟩
theorem takeWhile_mem {α : Type} {p : α → Bool} : ∀ {l : List α} {x : α}, x ∈ l.takeWhile p → p x = true
  | [], _, h => by cases h
  | a :: t, x, h => by
    rw [List.takeWhile_cons] at h
    split at h
    · rename_i ha
      rcases List.mem_cons.1 h with rfl | h
      · exact ha
      · exact takeWhile_mem h
    · cases h
/-- one put in its place -/
def putSp (l : List PSpot) (s : PSpot) : List PSpot := if s ∈ l then l else (l.takeWhile fun x => ltSp x s) ++ s :: (l.dropWhile fun x => ltSp x s)
theorem SpSet.put {l S : List PSpot} (h : SpSet l S) (s : PSpot) : SpSet (putSp l s) (S ++ [s]) := by
  unfold putSp
  by_cases hs : s ∈ l
  · rw [if_pos hs]
    exact ⟨h.1, fun x => by
      rw [h.2, List.mem_append, List.mem_singleton]
      constructor
      · exact .inl
      · rintro (h1 | rfl)
        · exact h1
        · exact (h.2 x).1 hs⟩
  · rw [if_neg hs]
    have hT : ∀ x ∈ l.takeWhile (fun x => ltSp x s), ltSp x s = true := fun x hx => takeWhile_mem (p := fun x => ltSp x s) hx
    have hmem : ∀ x, x ∈ l ↔ x ∈ l.takeWhile (fun x => ltSp x s) ∨ x ∈ l.dropWhile (fun x => ltSp x s) := fun x => by
      conv => lhs; rw [← List.takeWhile_append_dropWhile (p := fun x => ltSp x s) (l := l)]
      exact List.mem_append
    have hD : ∀ x ∈ l.dropWhile (fun x => ltSp x s), ltSp s x = true := by
      intro x hx
      have hp : (l.dropWhile fun x => ltSp x s).Pairwise (fun a b => ltSp a b = true) := h.1.sublist (List.dropWhile_sublist _)
      cases hd : l.dropWhile (fun x => ltSp x s) with
      | nil => rw [hd] at hx; cases hx
      | cons a t =>
        have ha : ltSp a s = false := by
          have := List.head?_dropWhile_not (fun x => ltSp x s) l
          rw [hd] at this
          simpa using this
        have hne : s ≠ a := by
          rintro rfl
          exact hs ((hmem s).2 (.inr (by rw [hd]; exact .head _)))
        have hsa : ltSp s a = true := by
          cases hc : ltSp s a with
          | true => rfl
          | false => exact absurd (ltSp_total hc ha) hne
        rw [hd] at hx hp
        rw [List.pairwise_cons] at hp
        rcases List.mem_cons.1 hx with rfl | hx
        · exact hsa
        · exact ltSp_trans hsa (hp.1 x hx)
    refine ⟨?_, fun x => ?_⟩
    · rw [List.pairwise_append, List.pairwise_cons]
      refine ⟨h.1.sublist (List.takeWhile_sublist _), ⟨hD, h.1.sublist (List.dropWhile_sublist _)⟩, ?_⟩
      intro a ha b hb
      rcases List.mem_cons.1 hb with rfl | hb
      · exact hT a ha
      · exact ltSp_trans (hT a ha) (hD b hb)
    · rw [List.mem_append, List.mem_cons, List.mem_append, List.mem_singleton, ← h.2 x, hmem x]
      constructor
      · rintro (h1 | h1 | h1)
        · exact .inl (.inl h1)
        · exact .inr h1
        · exact .inl (.inr h1)
      · rintro ((h1 | h1) | h1)
        · exact .inl h1
        · exact .inr (.inr h1)
        · exact .inr (.inl h1)
theorem SpSet.touch {l S : List PSpot} (h : SpSet l S) (r : PRule) : touchR l r = touchR S r := by
  unfold touchR
  simp only [h.2]
end Go.Hg

namespace Go.Hg
open Go.RowKit Go.Proofs

def ltV (a b : PVal) : Bool := decide (a.kind < b.kind) || (decide (a.kind = b.kind) && (decide (a.n < b.n) || (decide (a.n = b.n) && ltS a.s b.s)))
def cmpV (a b : PVal) : Int := if ltV a b = true then -1 else if a = b then 0 else 1
theorem ltV_irrefl (a : PVal) : ltV a a = false := by simp [ltV, ltS_irrefl]
theorem cmpV_zero (a b : PVal) : decide (cmpV a b = 0) = decide (a = b) := by
  unfold cmpV
  by_cases h : a = b
  · subst h; rw [ltV_irrefl]; simp
  · by_cases h2 : ltV a b = true <;> simp [h, h2]
theorem int_beq (a b : Int) : (a == b) = decide (a = b) := by by_cases h : a = b <;> simp [h]
theorem pval_eq (a b : PVal) : a = b ↔ a.kind = b.kind ∧ a.n = b.n ∧ a.s = b.s := by
  constructor
  · rintro rfl; exact ⟨rfl, rfl, rfl⟩
  · intro h; cases a; cases b; simp_all

set_option maxRecDepth 100000 in
set_option maxHeartbeats 2000000 in
theorem refCompare (a b : PVal) (w : World) :
    Calls Tryz.prog 108 #[a.args, b.args] w fun e w' => e = .returned (.int .i64 (cmpV a b)) ∧ Grow w w' := by
  have HW := Lib.hid (show ∀ o1 o2, Grow w ((w.alloc o1).alloc o2) from fun o1 o2 => ((Grow.rfl' w).allocd o1).allocd o2)
  have HE := Lib.hid (show a = b ↔ _ from pval_eq a b)
  obtain ⟨k1, hk1⟩ : ∃ x, decide (a.kind < b.kind) = x := ⟨_, rfl⟩
  obtain ⟨k2, hk2⟩ : ∃ x, (a.kind == b.kind) = x := ⟨_, rfl⟩
  obtain ⟨n1, hn1⟩ : ∃ x, decide (a.n < b.n) = x := ⟨_, rfl⟩
  obtain ⟨n2, hn2⟩ : ∃ x, (a.n == b.n) = x := ⟨_, rfl⟩
  obtain ⟨s1, hs1⟩ : ∃ x, Op.bytesLess a.s.toList b.s.toList = x := ⟨_, rfl⟩
  obtain ⟨s2, hs2⟩ : ∃ x, decide (a.s = b.s) = x := ⟨_, rfl⟩
  have HC := Lib.hid (show cmpV a b = if (k1 || (k2 && (n1 || (n2 && s1)))) = true then -1 else if (k2 && (n2 && s2)) = true then 0 else 1 by
    unfold cmpV ltV ltS
    rw [hk1, ← hk2, hn1, ← hn2, hs1]
    simp only [int_beq]
    congr 1
    by_cases h : a = b
    · have h2 := HE.out.1 h
      rw [if_pos h, if_pos (by rw [← hs2]; simp [h2])]
    · rw [if_neg h, if_neg (fun hh => h (HE.out.2 (by rw [← hs2] at hh; simpa using hh)))])
  cases k1
  · cases k2
    · go_enter Tryz.func108, Tryz.ntmps108
      go_wp2
      go_ret
      exact ⟨by rw [HC.out]; rfl, HW.out _ _⟩
    · cases n1
      · cases n2
        · go_enter Tryz.func108, Tryz.ntmps108
          go_wp2
          go_ret
          exact ⟨by rw [HC.out]; rfl, HW.out _ _⟩
        · cases s1
          · cases s2
            · go_enter Tryz.func108, Tryz.ntmps108
              go_wp2
              go_ret
              exact ⟨by rw [HC.out]; rfl, HW.out _ _⟩
            · go_enter Tryz.func108, Tryz.ntmps108
              go_wp2
              go_ret
              exact ⟨by rw [HC.out]; rfl, HW.out _ _⟩
          · go_enter Tryz.func108, Tryz.ntmps108
            go_wp2
            go_ret
            exact ⟨by rw [HC.out]; rfl, HW.out _ _⟩
      · go_enter Tryz.func108, Tryz.ntmps108
        go_wp2
        go_ret
        exact ⟨by rw [HC.out]; rfl, HW.out _ _⟩
  · go_enter Tryz.func108, Tryz.ntmps108
    go_wp2
    go_ret
    exact ⟨by rw [HC.out]; rfl, HW.out _ _⟩
end Go.Hg

namespace Go.Hg
open Go.RowKit Go.Proofs

/-- what the document's Broken tells (of edges that are too many, in no order) -/
def RBrk (N : List PNode) (E : List PEdge) (r : PRule) (L : List Int) : Prop :=
  (formR r = false → L = []) ∧ (formR r = true → if r.kind = 4 then L.Nodup ∧ ∀ x, x ∈ L ↔ r.n < (outR E r x : Int) else BrkR N E r L)
def RBrkPost (N : List PNode) (E : List PEdge) (r : PRule) (w : World) (e : Ending) (w' : World) : Prop := ∃ v L, e = .returned v ∧ RBrk N E r L ∧ IdsW w.heap.size w' v L ∧ Grow w w'
theorem RBrkPost.of {N : List PNode} {E : List PEdge} {r : PRule} {w w1 w' : World} {v : Value} {L : List Int} (hb : BrokenR N E r L) (hk : r.kind ≠ 4) (h : IdsW w1.heap.size w' v L) (g : Grow w w1) (g' : Grow w1 w') : RBrkPost N E r w (.returned v) w' :=
  ⟨v, L, rfl, ⟨hb.1, fun hf => by rw [if_neg hk]; exact hb.2 hf⟩, h.base g.size, g.step g'⟩

theorem filt_snoc {α : Type} {l : List α} {p : α → Bool} (f : α → Int) {j : Nat} {x : α} (hT : l.take (j + 1) = l.take j ++ [x]) {fl : List Int} (hfl : ((l.take j).filter p).map f = fl) {b : Bool} (hb : p x = b) :
    ((l.take (j + 1)).filter p).map f = if b = true then fl ++ [f x] else fl := by
  rw [hT, List.filter_append, ← hfl, List.map_append]
  cases b
  · rw [if_neg (by simp)]; simp [hb]
  · rw [if_pos rfl]; simp [hb]
theorem refIsB {S : Nat → Prop} {v : Value} {nodes : List PNode} {id : Int} {typ : ByteArray} {w : World} {b : Bool} (h : NodesR S w v nodes) (hb : isT nodes id typ = b) :
    Calls Tryz.prog 109 #[v, .int .i64 id, .string typ] w fun e w' => e = .returned (.bool b) ∧ Grow w w' := by
  subst hb
  exact (refIs S v nodes id typ w h).mono fun e w' ⟨he, hw⟩ => ⟨he, by subst hw; exact Grow.rfl' _⟩

set_option maxRecDepth 100000 in
set_option maxHeartbeats 1000000 in
theorem refBrokenNo (nv ev : Value) (N : List PNode) (E : List PEdge) (r : PRule) (w : World) (hf : formR r = false) :
    Calls Tryz.prog 58 #[nv, ev, r.args] w (RBrkPost N E r w) := by
  have HF := Lib.hid hf
  have HW := Lib.hid (show ∀ o1, Grow w (w.alloc o1) from fun o1 => (Grow.rfl' w).allocd o1)
  clear hf
  go_enter Tryz.func58, Tryz.ntmps58
  go_wp2_with fail
  refine (refForm r _).mono ?_
  rintro e w2 ⟨rfl, g2⟩
  have HG2 := Lib.hid ((HW.out _).step g2)
  rw [HF.out]
  clear g2
  go_wp2
  go_ret
  exact ⟨_, [], rfl, ⟨fun _ => rfl, fun h => absurd h (by rw [HF.out]; simp)⟩, IdsW.nil _ _, HG2.out⟩

set_option maxRecDepth 100000 in
set_option maxHeartbeats 4000000 in
theorem refBrokenEnds (S : Nat → Prop) (nv ev : Value) (N : List PNode) (E : List PEdge) (r : PRule) (w : World) (hn : NodesR S w nv N) (he : EdgesR S w ev E) (hb : E.length ≤ 1099511627776) (hf : formR r = true) (hk : r.kind = 3) :
    Calls Tryz.prog 58 #[nv, ev, r.args] w (RBrkPost N E r w) := by
  have HF := Lib.hid hf; have HK := Lib.hid hk; have HBD := Lib.hid hb; have HN := Lib.hid hn
  have HW := Lib.hid (show ∀ o1, Grow w (w.alloc o1) from fun o1 => (Grow.rfl' w).allocd o1)
  obtain ⟨_, _, rfl, _⟩ := SlR.open hn
  obtain ⟨ae, ce, rfl, hel, hec, hE⟩ := SlR.open he
  unfold maxLen at hec
  have HE := Lib.hid hE
  clear hf hk hb hn he hE
  go_enter Tryz.func58, Tryz.ntmps58
  go_wp2_with fail
  refine (refForm r _).mono ?_
  rintro e w2 ⟨rfl, g2⟩
  have HG2 := Lib.hid ((HW.out _).step g2)
  have HRB := Lib.hid (ruleBoxNew w r w2 g2)
  obtain ⟨hrl, c1, c2, c3, c4, c5, c6, c7, c0⟩ := HRB.out.cells
  rw [HF.out]
  rw [HK.out] at c1
  have HI0 := Lib.hid (IdsW.nil w2.heap.size w2)
  clear g2
  go_wp2
  clear c1 c2 c3 c4 c5 c6 c7 c0
  go_loopg [7, 13] E.length (fun g lv i wr => ∃ j : Nat, j ≤ E.length ∧ g = E.length - j ∧ i = .int .i64 j ∧ IdsW w2.heap.size wr lv (((E.take j).filter (wrongR N r)).map (·.id)) ∧ Grow w2 wr)
  case atStart => exact ⟨0, by omega, by omega, rfl, HI0.out, Grow.rfl' w2⟩
  case round =>
    obtain ⟨j, hj, rfl, rfl, hi, hz⟩ := hrel
    obtain ⟨oa, co, rfl, _, _⟩ := hi.isSlice
    have HI := Lib.hid hi; have HZ := Lib.hid hz
    clear hi
    by_cases hjl : j < E.length
    · obtain ⟨ba, oa', ra, rfl, hSa, hba, hRa, hca⟩ := HE.out j E[j] (List.getElem?_eq_getElem hjl)
      have HX := Lib.hid (show ∀ w', Grow w w' → ba < w'.heap.size ∧ w'.cell? ⟨ba, oa' + j * 5, none⟩ = some (.int .i64 E[j].id) ∧ w'.cell? ⟨ba, oa' + j * 5 + 1, none⟩ = some (.string E[j].typ) ∧ w'.cell? ⟨ba, oa' + j * 5 + 2, none⟩ = some (.int .i64 E[j].from_) ∧ w'.cell? ⟨ba, oa' + j * 5 + 3, none⟩ = some (.int .i64 E[j].to_) from fun w' g => by
        obtain ⟨pva, h1, h2, h3, h4, h5, _, _⟩ := hRa.at hba g hca
        exact ⟨h1, h2, h3, h4, h5⟩)
      clear hca hRa hSa hba hz
      have HT := Lib.hid (show E.take (j + 1) = E.take j ++ [E[j]] from List.take_succ_eq_append_getElem hjl)
      have HLE := Lib.hid (show (((E.take j).filter (wrongR N r)).map (·.id)).length ≤ E.length by
        rw [List.length_map]
        exact Nat.le_trans (List.length_filter_le _ _) (by rw [List.length_take]; omega))
      generalize E[j] = x at *
      obtain ⟨bt, hbt⟩ : ∃ b, decide (x.typ = r.typ) = b := ⟨_, rfl⟩
      obtain ⟨bf, hbf⟩ : ∃ b, isT N x.from_ r.from_ = b := ⟨_, rfl⟩
      obtain ⟨bo, hbo⟩ : ∃ b, isT N x.to_ r.to_ = b := ⟨_, rfl⟩
      have HV := Lib.hid (show wrongR N r x = (bt && !(bf && bo)) by unfold wrongR; rw [hbt, hbf, hbo])
      have HBF := Lib.hid hbf; have HBO := Lib.hid hbo
      clear hbf hbo
      generalize hfl : ((E.take j).filter (wrongR N r)).map (·.id) = fl at *
      have HFF := Lib.hid hfl
      clear hfl
      have HWR := Lib.hid (HG2.out.step HZ.out)
      have HNR := Lib.hid (show ∀ g : Gr wr, NodesR S g.x _ N from fun g => HN.out.grow (HWR.out.step g.h))
      obtain ⟨hal, a0, a1, a2, a3⟩ := HX.out wr HWR.out
      obtain ⟨hrl', c1, c2, c3, c4, c5, c6, c7, c0⟩ := (HRB.out.grow HZ.out).cells
      clear c1 c3 c6 c7 c0
      have HD := Lib.hid (filt_snoc (·.id) HT.out HFF.out HV.out)
      clear HV
      have HYES := Lib.hid (show ∀ (w4 : World), Grow wr w4 → ∀ o1, Grow w2 (w4.alloc o1) ∧ IdsW w2.heap.size (w4.alloc o1) (.slice oa fl.length co) fl from fun w4 h o1 => ⟨(HZ.out.step h).allocd o1, (HI.out.grow h).grow ((Grow.rfl' w4).allocd o1)⟩)
      have HNO := Lib.hid (show ∀ (w4 : World), Grow wr w4 → Grow w2 w4 ∧ IdsW w2.heap.size w4 (.slice oa fl.length co) fl from fun w4 h => ⟨HZ.out.step h, HI.out.grow h⟩)
      cases bt
      · go_wp2_with fail
        refine wp_region_grow (by kernel_rfl) (by kernel_rfl) ?_
        repeat (go_big_quiet_step (fail))
        refine wpQuiet_nil ?_
        intro w4 hw4
        go_wp2_with fail
        go_roundg (E.length - (j + 1))
        case measure => omega
        case rel => exact ⟨j + 1, by omega, rfl, by go_num, by rw [HD.out, if_neg (by simp)]; exact (HNO.out _ hw4).2, (HNO.out _ hw4).1⟩
      · cases bf
        · go_wp2_with fail
          refine wp_region_grow (by kernel_rfl) (by kernel_rfl) ?_
          repeat (go_big_quiet_step (exact calls_gr (refIsB (HNR.out _) HBF.out)))
          refine wpQuiet_nil ?_
          intro w4 hw4
          have HW4 := Lib.hid hw4
          have hx := HX.out _ (HWR.out.step hw4)
          obtain ⟨hal4, b0, -, -, -⟩ := hx
          have hzs := (HNO.out _ hw4).1.size
          clear a0 a1 a2 a3 hal hw4 c2 c4 c5
          go_wp2_with (at_builtin; go_must (refine wpList_append_I rfl (.tmp 149) (.tmp 155) 32 rfl Tryz.underlying32 w2.heap.size _ fl rfl (HYES.out _ HW4.out _).2 x.id _ rfl (rd1 _ _ _ (by simp)) (by simp; omega) (by have := HLE.out; have := HBD.out; omega) ?_))
          intro v5 w6 k1 k2 k3
          have H5 := Lib.hid k1; have HG5 := Lib.hid ((HYES.out _ HW4.out _).1.since k2 (Nat.le_refl _))
          clear k1 k2 k3
          go_wp2
          go_roundg (E.length - (j + 1))
          case measure => omega
          case rel => exact ⟨j + 1, by omega, rfl, by go_num, by rw [HD.out, if_pos (by simp)]; exact H5.out, HG5.out⟩
        · cases bo
          · go_wp2_with fail
            refine wp_region_grow (by kernel_rfl) (by kernel_rfl) ?_
            repeat (go_big_quiet_step (first | exact calls_gr (refIsB (HNR.out _) HBF.out) | exact calls_gr (refIsB (HNR.out _) HBO.out)))
            refine wpQuiet_nil ?_
            intro w4 hw4
            have HW4 := Lib.hid hw4
            have hx := HX.out _ (HWR.out.step hw4)
            obtain ⟨hal4, b0, -, -, -⟩ := hx
            have hzs := (HNO.out _ hw4).1.size
            clear a0 a1 a2 a3 hal hw4 c2 c4 c5
            go_wp2_with (at_builtin; go_must (refine wpList_append_I rfl (.tmp 149) (.tmp 155) 32 rfl Tryz.underlying32 w2.heap.size _ fl rfl (HYES.out _ HW4.out _).2 x.id _ rfl (rd1 _ _ _ (by simp)) (by simp; omega) (by have := HLE.out; have := HBD.out; omega) ?_))
            intro v5 w6 k1 k2 k3
            have H5 := Lib.hid k1; have HG5 := Lib.hid ((HYES.out _ HW4.out _).1.since k2 (Nat.le_refl _))
            clear k1 k2 k3
            go_wp2
            go_roundg (E.length - (j + 1))
            case measure => omega
            case rel => exact ⟨j + 1, by omega, rfl, by go_num, by rw [HD.out, if_pos (by simp)]; exact H5.out, HG5.out⟩
          · go_wp2_with fail
            refine wp_region_grow (by kernel_rfl) (by kernel_rfl) ?_
            repeat (go_big_quiet_step (first | exact calls_gr (refIsB (HNR.out _) HBF.out) | exact calls_gr (refIsB (HNR.out _) HBO.out)))
            refine wpQuiet_nil ?_
            intro w4 hw4
            go_wp2_with fail
            go_roundg (E.length - (j + 1))
            case measure => omega
            case rel => exact ⟨j + 1, by omega, rfl, by go_num, by rw [HD.out, if_neg (by simp)]; exact (HNO.out _ hw4).2, (HNO.out _ hw4).1⟩
    · have hkk : E.take j = E := List.take_of_length_le (by omega)
      rw [hkk] at HI
      simp only [hkk]
      have HR := Lib.hid (RBrkPost.of (N := N) (E := E) (r := r) ⟨fun h => absurd h (by rw [HF.out]; simp), fun _ => by unfold BrkR; rw [if_neg (by have := HK.out; omega), if_neg (by have := HK.out; omega), if_pos HK.out]⟩ (by have := HK.out; omega) HI.out HG2.out HZ.out)
      clear hkk
      go_wp2
      go_ret
      exact HR.out
end Go.Hg
