/- law21.CheckBreaks: returns true. No condition. -/
import Derived.Test.YtanijffgogpmdaaGreatLaw21A
namespace Go.Hg
open Go.RowKit Go.Proofs

abbrev RuleC (w : World) (b : Nat) (r : PRule) : Prop := w.cell? ⟨b, 0, none⟩ = some (.int .i64 r.id) ∧ w.cell? ⟨b, 1, none⟩ = some (.int .i64 r.kind) ∧ w.cell? ⟨b, 2, none⟩ = some (.string r.typ) ∧ w.cell? ⟨b, 3, none⟩ = some (.string r.name) ∧ w.cell? ⟨b, 4, none⟩ = some (.string r.from_) ∧ w.cell? ⟨b, 5, none⟩ = some (.string r.to_) ∧ w.cell? ⟨b, 6, none⟩ = some (.int .i64 r.n) ∧ w.cell? ⟨b, 7, none⟩ = some (.int .i64 r.state)
theorem RuleBox.toC {w : World} {b : Nat} {r : PRule} (h : RuleBox w b r) : RuleC w b r := by
  obtain ⟨_, c1, c2, c3, c4, c5, c6, c7, c0⟩ := h.cells
  exact ⟨c0, c1, c2, c3, c4, c5, c6, c7⟩
theorem brokenNil (r : PRule) : BrokenR [] [] r [] := ⟨fun _ => rfl, fun hf => by
  unfold BrkR
  by_cases k1 : r.kind = 1
  · rw [if_pos k1]; rfl
  · by_cases k2 : r.kind = 2
    · rw [if_neg k1, if_pos k2]; rfl
    · by_cases k3 : r.kind = 3
      · rw [if_neg k1, if_neg k2, if_pos k3]; rfl
      · rw [if_neg k1, if_neg k2, if_neg k3]
        have := formR_most hf k1 k2 k3
        exact RSet.nil fun y => by simp [outR]; omega⟩

set_option maxRecDepth 100000 in
set_option maxHeartbeats 8000000 in
theorem law21Breaks (S : Nat → Prop) (v : Value) (l : List POp) (r : PRule) (w : World) (hl : OpsR S w v l) :
    Calls Tryz.prog 3 #[v, r.args] w fun e w' => e = .returned (.bool true) ∧ Grow w w' := by
  have HL := Lib.hid hl
  obtain ⟨_, _, rfl, _⟩ := SlR.open hl
  have HW := Lib.hid (show ∀ o1, Grow w (w.alloc o1) from fun o1 => (Grow.rfl' w).allocd o1)
  have HRN := Lib.hid (fun w' => ruleBoxNew w r w')
  clear hl
  go_enter Tryz.func3, Tryz.ntmps3
  go_wp2_with fail
  refine (lawMadeP S _ l _ (HL.out.growS (HW.out _))).mono ?_
  intro e w2 h2
  rcases h2 with ⟨rfl, g2⟩ | ⟨B1, B2, S1, S2, G, rfl, hgd, hi, hok1, hok2, g2⟩
  · have HG2 := Lib.hid ((HW.out _).step g2)
    clear g2
    go_wp2_with fail
    refine (law21Wakes w2).mono ?_
    rintro e w3 ⟨rfl, g3⟩
    have HG3 := Lib.hid (HG2.out.step g3)
    clear g3
    go_wp2
    go_ret
    exact ⟨rfl, HG3.out⟩
  · have HG2 := Lib.hid ((HW.out _).step g2)
    have HR2 := Lib.hid (HRN.out w2 g2)
    have HGA := Lib.hid (gAt_of hok1.rd hi); have HGN := Lib.hid (gNode_of hok1.rd hi); have HOK := Lib.hid hok2; have HI := Lib.hid hi; have H64 := Lib.hid (ends64f hgd)
    have HB1 := Lib.hid (show G.nodes.length ≤ 4096 by have := hi.items; omega)
    have HB2 := Lib.hid (show G.edges.length ≤ 4096 by have := hi.items; omega)
    clear g2 hgd hi hok1 hok2
    obtain ⟨hrl, c1, c2, c3, c4, c5, c6, c7, c0⟩ := HR2.out.cells
    go_wp2_with fail
    refine (keepLargeRule r w2).mono ?_
    rintro e w3 ⟨b, rfl, g3⟩
    have HG3 := Lib.hid (HG2.out.step g3); have HG23 := Lib.hid g3
    clear g3 hrl c1 c2 c3 c4 c5 c6 c7 c0
    cases b
    rotate_left 1
    · go_wp2_with fail
      refine (law21Wakes w3).mono ?_
      rintro e w4 ⟨rfl, g4⟩
      have HG4 := Lib.hid (HG3.out.step g4)
      clear g4
      go_wp2
      go_ret
      exact ⟨rfl, HG4.out⟩
    have HS := Lib.hid (show ∀ w', Grow w3 w' → RuleC w' w.heap.size r from fun w' g => (HR2.out.grow (HG23.out.step g)).toC)
    have HA := Lib.hid (show ∀ w', Grow w3 w' → GAt (.pointer (some ⟨B1, 0, none⟩)) G.nodes G.edges w' ∧ GNode (.pointer (some ⟨B1, 0, none⟩)) G.nodes w' ∧ GraphOk 55 S2 w' B2 G from fun w' g => ⟨HGA.out.grow (HG23.out.step g), HGN.out.grow (HG23.out.step g), HOK.out.grow (HG23.out.step g)⟩)
    have HD := Lib.hid (show Grow w3 w3.drew from (Grow.rfl' w3).drewd)
    go_wp2_with fail
    go_region_held3 (fun w' => RuleC w' w.heap.size r) (first | exact HS.out _ HD.out | exact HS.out _ HG9.out | exact HS.out _ HG8.out | exact HS.out _ HG7.out | exact HS.out _ HGC.out | exact HS.out _ HG5.out | exact HS.out _ HG6.out) (first | (go_at_call 17; ((with_reducible refine (ref21Broken S2 B2 G r _ (HA.out _ HG5.out).2.2 HI.out).mono ?_); rintro e wc ⟨v6, L6, rfl, hb6, hv6, g6⟩; obtain rfl := hb6.uniq HL5.out; have HP := Lib.hid (And.intro (HV5.out.growS g6) hv6); have HGC := Lib.hid (HG5.out.step g6); obtain ⟨_, _, rfl, _⟩ := SlR.open hv6; clear hb6 hv6 g6)) | (go_at_call 16; ((with_reducible refine (checkBroken (.pointer (some ⟨B1, 0, none⟩)) G.nodes G.edges r _ (HA.out _ HG6.out).1 (HA.out _ HG6.out).2.1 HB1.out HB2.out H64.out).mono ?_); rintro e wc ⟨v5, L5, rfl, hb5, hv5, g5⟩; obtain rfl := hb5.uniq HL6.out; have HP := Lib.hid (And.intro hv5 (HV6.out.growS g5)); have HGC := Lib.hid (HG6.out.step g5); obtain ⟨_, _, rfl, _⟩ := SlR.open hv5; clear hb5 hv5 g5)) | (go_at_call 16; ((with_reducible refine (checkBroken (.pointer none) [] [] r _ (gAt_nil _) (gNode_nil _) (by simp) (by simp) (by simp)).mono ?_); rintro e w8 ⟨v8, L8, rfl, hb8, hv8, g8⟩; obtain rfl := hb8.uniq (brokenNil r); obtain ⟨_, _, rfl, _⟩ := SlR.open hv8; have HG8 := Lib.hid (HG7.out.step g8); clear hb8 hv8 g8)) | (go_at_call 16; ((with_reducible refine (checkBroken (.pointer (some ⟨B1, 0, none⟩)) G.nodes G.edges r _ (HA.out _ HD.out).1 (HA.out _ HD.out).2.1 HB1.out HB2.out H64.out).mono ?_); rintro e w5 ⟨v5, L5, rfl, hb5, hv5, g5⟩; have HL5 := Lib.hid hb5; have HV5 := Lib.hid hv5; have HG5 := Lib.hid (HD.out.step g5); obtain ⟨_, _, rfl, _⟩ := SlR.open hv5; clear hb5 hv5 g5)) | (go_at_call 17; ((with_reducible refine (ref21Broken S2 B2 G r _ (HA.out _ HD.out).2.2 HI.out).mono ?_); rintro e w6 ⟨v6, L6, rfl, hb6, hv6, g6⟩; have HL6 := Lib.hid hb6; have HV6 := Lib.hid hv6; have HG6 := Lib.hid (HD.out.step g6); obtain ⟨_, _, rfl, _⟩ := SlR.open hv6; clear hb6 hv6 g6)) | (go_at_call 15; refine (keepLongsEq _ _ _ _ _ _ HP.out.1 HP.out.2).mono ?_; rintro e w7 ⟨rfl, g7⟩; have HG7 := Lib.hid (HGC.out.step g7); clear g7) | (go_at_call 14; refine (law21Wakes _).mono ?_; rintro e w9 ⟨rfl, g9⟩; have HG9 := Lib.hid (HG8.out.step g9); clear g9))
    all_goals go_wp2
    all_goals go_ret
    all_goals exact ⟨rfl, HG3.out.step HG9.out⟩
end Go.Hg
