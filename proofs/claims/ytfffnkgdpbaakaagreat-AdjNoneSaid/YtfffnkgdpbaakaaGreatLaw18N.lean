/- hedgerowlaw18.AdjNone: true. No condition. Printed by gen18laws.py. -/
import Derived.Test.YtfffnkgdpbaakaaGreatAdjH
namespace Go.Hg
open Go.RowKit Go.Proofs


set_option maxRecDepth 100000 in
set_option maxHeartbeats 16000000 in
theorem law18None (id : Int) (w : World) : Calls Tryz.prog 6 #[.int .i64 id] w fun e w' => e = .returned (.bool true) ∧ Grow w w' := by
  go_enter Tryz.func6, Tryz.ntmps6
  go_wp2_with fail
  refine (adjDegreeNil id ByteArray.empty _).mono ?_
  rintro e w2 ⟨rfl, hg2⟩
  have HG2 := Lib.hid hg2
  clear hg2
  go_wp2_with fail
  refine (adjNear _ [] id ByteArray.empty _ (edgesAt_nil _) (by simp) (by simp)).mono ?_
  rintro e w3 ⟨v3, L3, rfl, hL, hI, hg⟩
  obtain rfl : L3 = [] := RSet.same hL.1 .nil (fun y => by
    rw [hL.2]
    constructor
    · intro h
      obtain ⟨e, he, -⟩ := h.ends
      cases he
    · intro h; cases h)
  obtain ⟨sa, sc, rfl, -, -, -⟩ := idsCellL hI
  have HG3 := Lib.hid (HG2.out.step hg)
  clear hL hI hg
  go_wp2_with fail
  refine (adjReach _ [] id ByteArray.empty 3 _ (edgesAt_nil _) (by simp) (by simp) (by decide)).mono ?_
  rintro e w4 ⟨v4, L4, rfl, hL, hI, hg⟩
  obtain rfl : L4 = [] := RSet.same hL.1 .nil (fun y => by
    rw [hL.2]
    constructor
    · intro h
      obtain ⟨e, he, -⟩ := h.ends
      cases he
    · intro h; cases h)
  obtain ⟨sa, sc, rfl, -, -, -⟩ := idsCellL hI
  have HG4 := Lib.hid (HG3.out.step hg)
  clear hL hI hg
  go_wp2_with fail
  refine (adjPath _ [] id _ ByteArray.empty _ (edgesAt_nil _) (by simp)).mono ?_
  rintro e w5 ⟨v5, L5, rfl, hL, hI, hg⟩
  obtain rfl : L5 = [] := by
    rcases hL with ⟨-, h⟩ | ⟨-, -, h⟩ | ⟨hne, d, hd, -⟩
    · exact h
    · exact h
    · obtain ⟨e, he, -⟩ := (hd.1.ends hne).1
      cases he
  obtain ⟨sa, sc, rfl, -, -, -⟩ := idsCellL hI
  have HG5 := Lib.hid (HG4.out.step hg)
  clear hL hI hg
  go_wp2_with fail
  refine (law18Wakes _).mono ?_
  rintro e wk ⟨rfl, hgk⟩
  have HGK := Lib.hid ((HG5.out.step hgk))
  clear hgk
  go_wp2
  go_ret
  exact ⟨rfl, HGK.out⟩
end Go.Hg
