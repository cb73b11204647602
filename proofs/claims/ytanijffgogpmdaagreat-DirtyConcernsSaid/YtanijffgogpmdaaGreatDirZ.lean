/- ref20.put: a spot is put into spots in order. Conditions: those that each theorem names. -/
import Derived.WalkKit
import Derived.WalkSpells
import Derived.WalkLawsBesides
import Derived.Lib.Hide
import Derived.BigQuiet
import Derived.Deep.LoopGhost
import Derived.Test.YtanijffgogpmdaaGreatRows
import Derived.Lib.SliceRun
import Derived.WideMake
import Derived.Deep.RegionLaw
import Derived.Lib.Overlaps
import Derived.Deep.RegionHeld3
import Derived.Laws.ResultCell
import Derived.Laws.EntriesVeiled
import Derived.Maps.OwnOps
import Derived.Maps.OwnSet
import Derived.Carry
import Derived.Lib.SlKeysI
import Derived.Maps.RangeWalk
import Derived.Lib.SlMapFilter
import Derived.Deep.DeepCutAuto
import Derived.Test.YtanijffgogpmdaaGreatDirN
import Derived.Test.YtanijffgogpmdaaGreatDirO
import Derived.Test.YtanijffgogpmdaaGreatDirP
import Derived.Test.YtanijffgogpmdaaGreatDirS
import Derived.Test.YtanijffgogpmdaaGreatDirT
import Derived.Test.YtanijffgogpmdaaGreatDirY
namespace Go.Hg
open Go.RowKit Go.Proofs

theorem rdB {W : World} {s : PSpot} {nb : Nat} (h : W.heap[nb]? = some (.cells #[.int .i64 s.kind, .string s.typ, .string s.name] 140 (0, 0))) : Rd W 3 (.slice (some ⟨nb, 0, none⟩) 1 1) 1 s.cells := by
  refine ⟨rfl, _, _, rfl, .inr ⟨_, rfl, fun j u hu => ?_⟩⟩
  have hadd : (⟨nb, 0, none⟩ : Addr).add j = ⟨nb, j, none⟩ := by unfold Addr.add; split <;> simp_all
  rw [hadd, blk_cell h, ← Array.getElem?_toList]
  exact hu
set_option maxRecDepth 100000 in
set_option maxHeartbeats 4000000 in
theorem ref20Put (S : Nat → Prop) (lv : Value) (l : List PSpot) (s : PSpot) (w : World) (hl : SpotsR S w lv l) (hp : l.Pairwise fun a b => ltSp a b = true) (hb : l.length ≤ 65536) (h0 : l = [] → lv = .slice none 0 0) :
    Calls Tryz.prog 95 #[lv, s.args] w fun e w' => ∃ v, e = .returned v ∧ SpotsR (fun b => S b ∨ w.heap.size ≤ b) w' v (putSp l s) ∧ Grow w w' := by
  have HSL0 := Lib.hid hl
  obtain ⟨aa, ca, rfl, hal, hac, hA⟩ := SlR.open hl
  unfold maxLen at hac
  have HSL := HSL0
  have HA := Lib.hid hA; have HP := Lib.hid hp
  clear hl hA HSL0 hp
  obtain ⟨W1, hW1⟩ : ∃ W1, w.alloc (.cells #[.int .i64 s.kind, .string s.typ, .string s.name] 140) = W1 := ⟨_, rfl⟩
  have HG1 := Lib.hid (show Grow w W1 by rw [← hW1]; exact (Grow.rfl' w).allocd _)
  have HBX := Lib.hid (show ∀ w', Grow W1 w' → RefC w' w.heap.size s from fun w' g => by rw [← hW1] at g; exact refcAt (heap_alloc_new w _) g)
  go_enter Tryz.func95, Tryz.ntmps95
  go_wp2
  clear hW1
  go_loopg [5] l.length (fun g iv wr => ∃ k : Nat, k ≤ l.length ∧ g = l.length - k ∧ iv = .int .i64 k ∧ (∀ y ∈ l.take k, ltSp y s = true) ∧ Grow W1 wr)
  case atStart => exact ⟨0, by omega, by omega, rfl, by simp, Grow.rfl' _⟩
  case round =>
    obtain ⟨k, hk, rfl, rfl, hall, hg⟩ := hrel
    have HALL := Lib.hid hall; have HG := Lib.hid hg
    clear hall hg
    by_cases hkl : k < l.length
    · obtain ⟨ba, oa, ra, rfl, -, hba, hRa, hca⟩ := HA.out k l[k] (List.getElem?_eq_getElem hkl)
      have HX := Lib.hid (show ∀ w', Grow W1 w' → RefK w' ba (oa + k * 3) l[k] from fun w' g => spotAt hRa hba (HG1.out.step g) hca)
      have HT := Lib.hid (show l.take (k + 1) = l.take k ++ [l[k]] from List.take_succ_eq_append_getElem hkl)
      have HPN := Lib.hid (show ltSp l[k] s = false → ltSp s l[k] = true → putSp l s = l.take k ++ [s] ++ l.drop k from fun h1 h2 => put_new HP.out HALL.out (.inr ⟨hkl, h1, h2⟩))
      have HPH := Lib.hid (show ltSp l[k] s = false → ltSp s l[k] = false → putSp l s = l from fun h1 h2 => put_here hkl h1 h2)
      clear hca hRa hba
      generalize l[k] = x at *
      obtain ⟨b1, hb1⟩ : ∃ b, ltSp x s = b := ⟨_, rfl⟩
      obtain ⟨b2, hb2⟩ : ∃ b, ltSp s x = b := ⟨_, rfl⟩
      rw [hb1, hb2] at HPN HPH
      have HB1 := Lib.hid hb1; have HB2 := Lib.hid hb2
      have HD := Lib.hid (show Grow W1 wr.drew from HG.out.drewd)
      clear hb1 hb2
      go_wp2_with fail
      go_region_held3 (fun w' => RefK w' ba (oa + k * 3) x ∧ RefC w' w.heap.size s) (first | exact ⟨HX.out _ HD.out, HBX.out _ HD.out⟩ | exact ⟨HX.out _ HG3.out, HBX.out _ HG3.out⟩) (first | (go_at_call 144; (refine (ref20Ahead x s _).mono ?_); rintro e w3 ⟨rfl, g3⟩; rw [HB1.out]; have HG3 := Lib.hid (HD.out.step g3); clear g3))
      cases b1
      rotate_left 1
      · go_wp2
        go_roundg (l.length - (k + 1))
        case measure => omega
        case rel => exact ⟨k + 1, by omega, rfl, by go_num, by rw [HT.out]; intro y hy; rcases List.mem_append.1 hy with h | h; exact HALL.out y h; simp at h; subst h; exact HB1.out, HG3.out⟩
      · have HD3 := Lib.hid (show Grow W1 w3.drew from HG3.out.drewd)
        go_wp2_with fail
        go_region_held3 (fun w' => RefK w' ba (oa + k * 3) x ∧ RefC w' w.heap.size s) (first | exact ⟨HX.out _ HD3.out, HBX.out _ HD3.out⟩ | exact ⟨HX.out _ HG4.out, HBX.out _ HG4.out⟩) (first | (go_at_call 144; (refine (ref20Ahead s x _).mono ?_); rintro e w4 ⟨rfl, g4⟩; rw [HB2.out]; have HG4 := Lib.hid (HD3.out.step g4); clear g4))
        cases b2
        · have HL := Lib.hid (HPH.out (by first | exact rfl | trivial) (by first | exact rfl | trivial))
          go_wp2
          go_ret
          exact ⟨_, rfl, by rw [HL.out]; exact (HSL.out.grow (HG1.out.step HG4.out)).sub (fun q hq => .inl hq) (fun _ _ _ h => h), HG1.out.step HG4.out⟩
        · have HPUT := Lib.hid (HPN.out (by first | exact rfl | trivial) (by first | exact rfl | trivial))
          clear HG HD HD3 HG3
          have HG := HG4
          clear HG4
          obtain ⟨wr, hwr⟩ : ∃ wr, wr = w4 := ⟨_, rfl⟩
          subst hwr
          have hk0 : (0 : Int) ≤ (k : Int) := by omega
          have hk1 : (k : Int) ≤ (l.length : Int) := by omega
          have hk2 : (k : Int) ≤ (ca : Int) := by omega
          have hk3 : (k : Int) < (ca : Int) := by omega
          have HTK := Lib.hid (show ∀ w', Grow wr w' → SpotsR S w' _ (l.take k) from fun w' g => (HSL.out.grow (HG1.out.step (HG.out.step g))).takeS k (by omega))
          have HDK := Lib.hid (show ∀ w', Grow wr w' → SpotsR S w' _ (l.drop k) from fun w' g => (HSL.out.grow (HG1.out.step (HG.out.step g))).dropS k (by omega))
          have HLT := Lib.hid (show l.length ≤ 65536 ∧ (l.take k).length = k ∧ (l.drop k).length = l.length - k ∧ k ≤ l.length by simp; omega)
          have HSZ := Lib.hid HG.out.size
          have HS6 := Lib.hid (show ∀ w', Grow wr w' → RefC w' w.heap.size s from fun w' g => HBX.out w' (HG.out.step g))
          have HW6 := Lib.hid (show w.heap.size < wr.heap.size from (HBX.out wr HG.out).1)
          go_wp2_with fail
          refine wp_region_noPanic ?_
          refine wp_region_held_drew (S := fun w' => RefC w' w.heap.size s) (by kernel_rfl) ?_ (fun hHeld => ?_)
          · exact HS6.out _ (by repeat first | exact Grow.rfl' _ | exact HGb.out | exact HGa.out | apply Grow.drewd | apply Grow.allocd)
          refine' wpAnyH_take (i := 1) (oi := ?o1) (v := _) (by simp only [List.getElem?_toArray, List.getElem?_cons_succ, List.getElem?_cons_zero]; rfl) (by kernel_rfl) (by kernel_rfl) (by kernel_rfl) (fun _ _ _ h => h) (Or.inl ⟨by rfl, ?y1⟩) (by assumption) ?r1
          case y1 =>
            intro wS hSw
            try dsimp only at hSw
            go_simp
            all_goals with_reducible rfl
          simp only [Act.put, List.setIfInBounds_toArray, List.set_cons_zero, List.set_cons_succ]
          refine' wpAnyH_take (i := 2) (oi := ?o2) (v := _) (by simp only [List.getElem?_toArray, List.getElem?_cons_succ, List.getElem?_cons_zero]; rfl) (by kernel_rfl) (by kernel_rfl) (by kernel_rfl) (fun _ _ _ h => h) (Or.inl ⟨by rfl, ?y2⟩) (by assumption) ?r2
          case y2 =>
            intro wS hSw
            try dsimp only at hSw
            go_simp
            all_goals with_reducible rfl
          simp only [Act.put, List.setIfInBounds_toArray, List.set_cons_zero, List.set_cons_succ]
          refine' wpAnyH_take (i := 3) (oi := ?o3) (v := _) (by simp only [List.getElem?_toArray, List.getElem?_cons_succ, List.getElem?_cons_zero]; rfl) (by kernel_rfl) (by kernel_rfl) (by kernel_rfl) (fun _ _ _ h => h) (Or.inl ⟨by rfl, ?y3⟩) (by assumption) ?r3
          case y3 =>
            intro wS hSw
            try dsimp only at hSw
            go_simp
            all_goals with_reducible rfl
          simp only [Act.put, List.setIfInBounds_toArray, List.set_cons_zero, List.set_cons_succ]
          refine' wpAnyH_take (i := 5) (oi := ?o4) (v := _) (by simp only [List.getElem?_toArray, List.getElem?_cons_succ, List.getElem?_cons_zero]; rfl) (by kernel_rfl) (by kernel_rfl) (by kernel_rfl) (fun _ _ _ h => h) (Or.inl ⟨by rfl, ?y4⟩) (by assumption) ?r4
          case y4 =>
            intro wS hSw
            try dsimp only at hSw
            go_simp
            all_goals with_reducible rfl
          simp only [Act.put, List.setIfInBounds_toArray, List.set_cons_zero, List.set_cons_succ]
          refine' wpAnyH_take (i := 8) (oi := ?o5) (v := _) (by simp only [List.getElem?_toArray, List.getElem?_cons_succ, List.getElem?_cons_zero]; rfl) (by kernel_rfl) (by kernel_rfl) (by kernel_rfl) (fun _ _ _ h => h) (Or.inl ⟨by rfl, ?y5⟩) (by assumption) ?r5
          case y5 =>
            intro wS hSw
            try dsimp only at hSw
            go_simp
            all_goals with_reducible rfl
          simp only [Act.put, List.setIfInBounds_toArray, List.set_cons_zero, List.set_cons_succ]
          refine' wpAnyH_take (i := 9) (oi := ?o6) (v := _) (by simp only [List.getElem?_toArray, List.getElem?_cons_succ, List.getElem?_cons_zero]; rfl) (by kernel_rfl) (by kernel_rfl) (by kernel_rfl) (fun _ _ _ h => h) (Or.inl ⟨by rfl, ?y6⟩) (by assumption) ?r6
          case y6 =>
            intro wS hSw
            try dsimp only at hSw
            go_simp
            all_goals with_reducible rfl
          simp only [Act.put, List.setIfInBounds_toArray, List.set_cons_zero, List.set_cons_succ]
          refine' wpAnyH_take (i := 10) (oi := ?o7) (v := _) (by simp only [List.getElem?_toArray, List.getElem?_cons_succ, List.getElem?_cons_zero]; rfl) (by kernel_rfl) (by kernel_rfl) (by kernel_rfl) (fun _ _ _ h => h) (Or.inl ⟨by rfl, ?y7⟩) (by assumption) ?r7
          case y7 =>
            intro wS hSw
            try dsimp only at hSw
            go_simp
            all_goals with_reducible rfl
          simp only [Act.put, List.setIfInBounds_toArray, List.set_cons_zero, List.set_cons_succ]
          refine wpAnyH_ready (rs := [0, 6]) (by kernel_rfl) (by simp) ?_
          refine' AllReadyH.cons (o := ?o23) (by simp only [List.getElem?_toArray, List.getElem?_cons_zero]; rfl) (fun K hK => ?s23) ?m23
          rotate_left
          · refine' AllReadyH.cons (o := ?o24) (by simp only [List.getElem?_toArray, List.getElem?_cons_succ, List.getElem?_cons_zero]; rfl) (fun K hK => ?s24) ?m24
            case m24 => exact AllReadyH.nil
            go_simp
            refine hK.out _ _ ?_ (fun hHeld => ?_)
            · exact HS6.out _ (by repeat first | exact Grow.rfl' _ | exact HGb.out | exact HGa.out | apply Grow.drewd | apply Grow.allocd)
            clear hK K
            try simp only [Act.put, List.setIfInBounds_toArray, List.set_cons_zero, List.set_cons_succ]
            refine wpAnyH_ready (rs := [0]) (by kernel_rfl) (by simp) ?_
            refine' AllReadyH.cons (o := ?o18) (by simp only [List.getElem?_toArray, List.getElem?_cons_zero]; rfl) (fun K hK => ?s18) ?m18
            case m18 => exact AllReadyH.nil
            go_simp
            refine hK.out _ _ ?_ (fun hHeld => ?_)
            · exact HS6.out _ (by repeat first | exact Grow.rfl' _ | exact HGb.out | exact HGa.out | apply Grow.drewd | apply Grow.allocd)
            clear hK K
            try simp only [Act.put, List.setIfInBounds_toArray, List.set_cons_zero, List.set_cons_succ]
            refine wpAnyH_ready (rs := [4]) (by kernel_rfl) (by simp) ?_
            refine' AllReadyH.cons (o := ?o19) (by simp only [List.getElem?_toArray, List.getElem?_cons_succ, List.getElem?_cons_zero]; rfl) (fun K hK => ?s19) ?m19
            case m19 => exact AllReadyH.nil
            refine step_append_L rfl (.tmp 34) (.tmp 37) 67 rfl rowRefSpot Tryz.underlying67 wr.heap.size _ (by first | rfl | simp [Act.eval]) _ (by first | rfl | simp [Act.eval]) (l.take k) (HTK.out _ (by repeat first | exact Grow.rfl' _ | exact HGb.out | exact HGa.out | apply Grow.drewd | apply Grow.allocd)) rspotOk (by first | (simp; done) | (simp; omega)) (by have := HLT.out; first | (simp; done) | (simp; unfold maxLen; omega) | (simp [maxLen]; done) | (simp [maxLen]; omega)) (by have := HLT.out; first | (simp; done) | (simp; omega)) ?_
            intro v5 w5 k1 k2
            have H5 := Lib.hid k1; have HK5 := Lib.hid k2; have HGa := Lib.hid (show Grow wr w5 from Grow.step (by repeat first | exact Grow.rfl' _ | exact HGb.out | exact HGa.out | apply Grow.drewd | apply Grow.allocd) k2)
            clear k1 k2
            refine hK.out _ _ ?_ (fun hHeld => ?_)
            · exact HS6.out _ (by repeat first | exact Grow.rfl' _ | exact HGb.out | exact HGa.out | apply Grow.drewd | apply Grow.allocd)
            clear hK K
            try simp only [Act.put, List.setIfInBounds_toArray, List.set_cons_zero, List.set_cons_succ]
            refine wpAnyH_ready (rs := [7]) (by kernel_rfl) (by simp) ?_
            refine' AllReadyH.cons (o := ?o20) (by simp only [List.getElem?_toArray, List.getElem?_cons_succ, List.getElem?_cons_zero]; rfl) (fun K hK => ?s20) ?m20
            case m20 => exact AllReadyH.nil
            refine step_append_R rfl (.tmp 38) (.tmp 40) 67 rfl rowRefSpot Tryz.underlying67 wr.heap.size _ (l.take k) (by first | rfl | simp [Act.eval]) H5.out (s) s.cells rfl rfl (spotCells1 s) _ (by first | rfl | simp [Act.eval]) (rdB ((HK5.out.heapEq (by first | (simp; done) | (simp; omega))).trans (boxAt0 _ _ _))) (by have := HGa.out.size; simp; omega) (by have := HLT.out; first | (simp; done) | (simp; unfold maxLen; omega) | (simp [maxLen]; done) | (simp [maxLen]; omega)) (by have := HLT.out; first | (simp; done) | (simp; omega)) ?_
            intro v6 w6 k1 k2 k3
            have H6 := Lib.hid k1; have HGb := Lib.hid (show Grow wr w6 from Grow.since (by repeat first | exact Grow.rfl' _ | exact HGb.out | exact HGa.out | apply Grow.drewd | apply Grow.allocd) k2 (Nat.le_refl _))
            clear k1 k2 k3
            refine hK.out _ _ ?_ (fun hHeld => ?_)
            · exact HS6.out _ (by repeat first | exact Grow.rfl' _ | exact HGb.out | exact HGa.out | apply Grow.drewd | apply Grow.allocd)
            clear hK K
            try simp only [Act.put, List.setIfInBounds_toArray, List.set_cons_zero, List.set_cons_succ]
            refine wpAnyH_ready (rs := [11]) (by kernel_rfl) (by simp) ?_
            refine' AllReadyH.cons (o := ?o21) (by simp only [List.getElem?_toArray, List.getElem?_cons_succ, List.getElem?_cons_zero]; rfl) (fun K hK => ?s21) ?m21
            case m21 => exact AllReadyH.nil
            refine step_append_M rfl (.tmp 41) (.tmp 44) 67 rfl rowRefSpot Tryz.underlying67 wr.heap.size _ (l.take k ++ [s]) (by first | rfl | simp [Act.eval]) H6.out _ (by first | rfl | (simp [Act.eval]; done) | (simp [Act.eval]; intros; omega)) (l.drop k) (HDK.out _ HGb.out) rspotOk HGb.out.size (by have := HLT.out; first | (simp; done) | (simp; unfold maxLen; omega) | (simp [maxLen]; done) | (simp [maxLen]; omega)) (by have := HLT.out; first | (simp; done) | (simp; omega)) ?_
            intro v7 w7 k1 k2 k3
            have H7 := Lib.hid k1; have HG7 := Lib.hid (show Grow wr w7 from Grow.since HGb.out k2 (Nat.le_refl _))
            clear k1 k2 k3
            refine hK.out _ _ ?_ (fun hHeld => ?_)
            · exact HS6.out _ HG7.out
            clear hK K
            try simp only [Act.put, List.setIfInBounds_toArray, List.set_cons_zero, List.set_cons_succ]
            refine' wpAnyH_take (i := 12) (oi := ?o22) (v := _) (by simp only [List.getElem?_toArray, List.getElem?_cons_succ, List.getElem?_cons_zero]; rfl) (by kernel_rfl) (by kernel_rfl) (by kernel_rfl) (fun _ _ _ h => h) (Or.inl ⟨by rfl, ?y22⟩) (by assumption) ?r22
            case y22 =>
              intro wS hSw
              try dsimp only at hSw
              go_simp
              all_goals with_reducible rfl
            simp only [Act.put, List.setIfInBounds_toArray, List.set_cons_zero, List.set_cons_succ]
            refine wpAnyH_done (by kernel_rfl) ?_ _
            refine NoPanic.normal ?_
            go_wp2
            go_ret
            exact ⟨_, rfl, by rw [HPUT.out]; exact H7.out.toR.sub (fun q hq => .inr (by have := HSZ.out; have := HG1.out.size; omega)) (fun _ _ _ h => h), HG1.out.step (HG.out.step HG7.out)⟩
          go_simp
          refine hK.out _ _ ?_ (fun hHeld => ?_)
          · exact HS6.out _ (by repeat first | exact Grow.rfl' _ | exact HGb.out | exact HGa.out | apply Grow.drewd | apply Grow.allocd)
          clear hK K
          try simp only [Act.put, List.setIfInBounds_toArray, List.set_cons_zero, List.set_cons_succ]
          refine wpAnyH_ready (rs := [4, 6]) (by kernel_rfl) (by simp) ?_
          refine' AllReadyH.cons (o := ?o16) (by simp only [List.getElem?_toArray, List.getElem?_cons_succ, List.getElem?_cons_zero]; rfl) (fun K hK => ?s16) ?m16
          rotate_left
          · refine' AllReadyH.cons (o := ?o17) (by simp only [List.getElem?_toArray, List.getElem?_cons_succ, List.getElem?_cons_zero]; rfl) (fun K hK => ?s17) ?m17
            case m17 => exact AllReadyH.nil
            go_simp
            refine hK.out _ _ ?_ (fun hHeld => ?_)
            · exact HS6.out _ (by repeat first | exact Grow.rfl' _ | exact HGb.out | exact HGa.out | apply Grow.drewd | apply Grow.allocd)
            clear hK K
            try simp only [Act.put, List.setIfInBounds_toArray, List.set_cons_zero, List.set_cons_succ]
            refine wpAnyH_ready (rs := [4]) (by kernel_rfl) (by simp) ?_
            refine' AllReadyH.cons (o := ?o12) (by simp only [List.getElem?_toArray, List.getElem?_cons_succ, List.getElem?_cons_zero]; rfl) (fun K hK => ?s12) ?m12
            case m12 => exact AllReadyH.nil
            refine step_append_L rfl (.tmp 34) (.tmp 37) 67 rfl rowRefSpot Tryz.underlying67 wr.heap.size _ (by first | rfl | simp [Act.eval]) _ (by first | rfl | simp [Act.eval]) (l.take k) (HTK.out _ (by repeat first | exact Grow.rfl' _ | exact HGb.out | exact HGa.out | apply Grow.drewd | apply Grow.allocd)) rspotOk (by first | (simp; done) | (simp; omega)) (by have := HLT.out; first | (simp; done) | (simp; unfold maxLen; omega) | (simp [maxLen]; done) | (simp [maxLen]; omega)) (by have := HLT.out; first | (simp; done) | (simp; omega)) ?_
            intro v5 w5 k1 k2
            have H5 := Lib.hid k1; have HK5 := Lib.hid k2; have HGa := Lib.hid (show Grow wr w5 from Grow.step (by repeat first | exact Grow.rfl' _ | exact HGb.out | exact HGa.out | apply Grow.drewd | apply Grow.allocd) k2)
            clear k1 k2
            refine hK.out _ _ ?_ (fun hHeld => ?_)
            · exact HS6.out _ (by repeat first | exact Grow.rfl' _ | exact HGb.out | exact HGa.out | apply Grow.drewd | apply Grow.allocd)
            clear hK K
            try simp only [Act.put, List.setIfInBounds_toArray, List.set_cons_zero, List.set_cons_succ]
            refine wpAnyH_ready (rs := [7]) (by kernel_rfl) (by simp) ?_
            refine' AllReadyH.cons (o := ?o13) (by simp only [List.getElem?_toArray, List.getElem?_cons_succ, List.getElem?_cons_zero]; rfl) (fun K hK => ?s13) ?m13
            case m13 => exact AllReadyH.nil
            refine step_append_R rfl (.tmp 38) (.tmp 40) 67 rfl rowRefSpot Tryz.underlying67 wr.heap.size _ (l.take k) (by first | rfl | simp [Act.eval]) H5.out (s) s.cells rfl rfl (spotCells1 s) _ (by first | rfl | simp [Act.eval]) (rdB ((HK5.out.heapEq (by first | (simp; done) | (simp; omega))).trans (boxAt1 _ _ _))) (by have := HGa.out.size; simp; omega) (by have := HLT.out; first | (simp; done) | (simp; unfold maxLen; omega) | (simp [maxLen]; done) | (simp [maxLen]; omega)) (by have := HLT.out; first | (simp; done) | (simp; omega)) ?_
            intro v6 w6 k1 k2 k3
            have H6 := Lib.hid k1; have HGb := Lib.hid (show Grow wr w6 from Grow.since (by repeat first | exact Grow.rfl' _ | exact HGb.out | exact HGa.out | apply Grow.drewd | apply Grow.allocd) k2 (Nat.le_refl _))
            clear k1 k2 k3
            refine hK.out _ _ ?_ (fun hHeld => ?_)
            · exact HS6.out _ (by repeat first | exact Grow.rfl' _ | exact HGb.out | exact HGa.out | apply Grow.drewd | apply Grow.allocd)
            clear hK K
            try simp only [Act.put, List.setIfInBounds_toArray, List.set_cons_zero, List.set_cons_succ]
            refine wpAnyH_ready (rs := [11]) (by kernel_rfl) (by simp) ?_
            refine' AllReadyH.cons (o := ?o14) (by simp only [List.getElem?_toArray, List.getElem?_cons_succ, List.getElem?_cons_zero]; rfl) (fun K hK => ?s14) ?m14
            case m14 => exact AllReadyH.nil
            refine step_append_M rfl (.tmp 41) (.tmp 44) 67 rfl rowRefSpot Tryz.underlying67 wr.heap.size _ (l.take k ++ [s]) (by first | rfl | simp [Act.eval]) H6.out _ (by first | rfl | (simp [Act.eval]; done) | (simp [Act.eval]; intros; omega)) (l.drop k) (HDK.out _ HGb.out) rspotOk HGb.out.size (by have := HLT.out; first | (simp; done) | (simp; unfold maxLen; omega) | (simp [maxLen]; done) | (simp [maxLen]; omega)) (by have := HLT.out; first | (simp; done) | (simp; omega)) ?_
            intro v7 w7 k1 k2 k3
            have H7 := Lib.hid k1; have HG7 := Lib.hid (show Grow wr w7 from Grow.since HGb.out k2 (Nat.le_refl _))
            clear k1 k2 k3
            refine hK.out _ _ ?_ (fun hHeld => ?_)
            · exact HS6.out _ HG7.out
            clear hK K
            try simp only [Act.put, List.setIfInBounds_toArray, List.set_cons_zero, List.set_cons_succ]
            refine' wpAnyH_take (i := 12) (oi := ?o15) (v := _) (by simp only [List.getElem?_toArray, List.getElem?_cons_succ, List.getElem?_cons_zero]; rfl) (by kernel_rfl) (by kernel_rfl) (by kernel_rfl) (fun _ _ _ h => h) (Or.inl ⟨by rfl, ?y15⟩) (by assumption) ?r15
            case y15 =>
              intro wS hSw
              try dsimp only at hSw
              go_simp
              all_goals with_reducible rfl
            simp only [Act.put, List.setIfInBounds_toArray, List.set_cons_zero, List.set_cons_succ]
            refine wpAnyH_done (by kernel_rfl) ?_ _
            refine NoPanic.normal ?_
            go_wp2
            go_ret
            exact ⟨_, rfl, by rw [HPUT.out]; exact H7.out.toR.sub (fun q hq => .inr (by have := HSZ.out; have := HG1.out.size; omega)) (fun _ _ _ h => h), HG1.out.step (HG.out.step HG7.out)⟩
          refine step_append_L rfl (.tmp 34) (.tmp 37) 67 rfl rowRefSpot Tryz.underlying67 wr.heap.size _ (by first | rfl | simp [Act.eval]) _ (by first | rfl | simp [Act.eval]) (l.take k) (HTK.out _ (by repeat first | exact Grow.rfl' _ | exact HGb.out | exact HGa.out | apply Grow.drewd | apply Grow.allocd)) rspotOk (by first | (simp; done) | (simp; omega)) (by have := HLT.out; first | (simp; done) | (simp; unfold maxLen; omega) | (simp [maxLen]; done) | (simp [maxLen]; omega)) (by have := HLT.out; first | (simp; done) | (simp; omega)) ?_
          intro v5 w5 k1 k2
          have H5 := Lib.hid k1; have HK5 := Lib.hid k2; have HGa := Lib.hid (show Grow wr w5 from Grow.step (by repeat first | exact Grow.rfl' _ | exact HGb.out | exact HGa.out | apply Grow.drewd | apply Grow.allocd) k2)
          clear k1 k2
          refine hK.out _ _ ?_ (fun hHeld => ?_)
          · exact HS6.out _ (by repeat first | exact Grow.rfl' _ | exact HGb.out | exact HGa.out | apply Grow.drewd | apply Grow.allocd)
          clear hK K
          try simp only [Act.put, List.setIfInBounds_toArray, List.set_cons_zero, List.set_cons_succ]
          refine wpAnyH_ready (rs := [6]) (by kernel_rfl) (by simp) ?_
          refine' AllReadyH.cons (o := ?o8) (by simp only [List.getElem?_toArray, List.getElem?_cons_succ, List.getElem?_cons_zero]; rfl) (fun K hK => ?s8) ?m8
          case m8 => exact AllReadyH.nil
          go_simp
          refine hK.out _ _ ?_ (fun hHeld => ?_)
          · exact HS6.out _ (by repeat first | exact Grow.rfl' _ | exact HGb.out | exact HGa.out | apply Grow.drewd | apply Grow.allocd)
          clear hK K
          try simp only [Act.put, List.setIfInBounds_toArray, List.set_cons_zero, List.set_cons_succ]
          refine wpAnyH_ready (rs := [7]) (by kernel_rfl) (by simp) ?_
          refine' AllReadyH.cons (o := ?o9) (by simp only [List.getElem?_toArray, List.getElem?_cons_succ, List.getElem?_cons_zero]; rfl) (fun K hK => ?s9) ?m9
          case m9 => exact AllReadyH.nil
          refine step_append_R rfl (.tmp 38) (.tmp 40) 67 rfl rowRefSpot Tryz.underlying67 wr.heap.size _ (l.take k) (by first | rfl | simp [Act.eval]) (H5.out.grow ((Grow.rfl' _).allocd _)) (s) s.cells rfl rfl (spotCells1 s) _ (by first | rfl | simp [Act.eval]) (rdK _ _ _ 3 rfl rfl) (by have := HGa.out.size; simp; omega) (by have := HLT.out; first | (simp; done) | (simp; unfold maxLen; omega) | (simp [maxLen]; done) | (simp [maxLen]; omega)) (by have := HLT.out; first | (simp; done) | (simp; omega)) ?_
          intro v6 w6 k1 k2 k3
          have H6 := Lib.hid k1; have HGb := Lib.hid (show Grow wr w6 from Grow.since (by repeat first | exact Grow.rfl' _ | exact HGb.out | exact HGa.out | apply Grow.drewd | apply Grow.allocd) k2 (Nat.le_refl _))
          clear k1 k2 k3
          refine hK.out _ _ ?_ (fun hHeld => ?_)
          · exact HS6.out _ (by repeat first | exact Grow.rfl' _ | exact HGb.out | exact HGa.out | apply Grow.drewd | apply Grow.allocd)
          clear hK K
          try simp only [Act.put, List.setIfInBounds_toArray, List.set_cons_zero, List.set_cons_succ]
          refine wpAnyH_ready (rs := [11]) (by kernel_rfl) (by simp) ?_
          refine' AllReadyH.cons (o := ?o10) (by simp only [List.getElem?_toArray, List.getElem?_cons_succ, List.getElem?_cons_zero]; rfl) (fun K hK => ?s10) ?m10
          case m10 => exact AllReadyH.nil
          refine step_append_M rfl (.tmp 41) (.tmp 44) 67 rfl rowRefSpot Tryz.underlying67 wr.heap.size _ (l.take k ++ [s]) (by first | rfl | simp [Act.eval]) H6.out _ (by first | rfl | (simp [Act.eval]; done) | (simp [Act.eval]; intros; omega)) (l.drop k) (HDK.out _ HGb.out) rspotOk HGb.out.size (by have := HLT.out; first | (simp; done) | (simp; unfold maxLen; omega) | (simp [maxLen]; done) | (simp [maxLen]; omega)) (by have := HLT.out; first | (simp; done) | (simp; omega)) ?_
          intro v7 w7 k1 k2 k3
          have H7 := Lib.hid k1; have HG7 := Lib.hid (show Grow wr w7 from Grow.since HGb.out k2 (Nat.le_refl _))
          clear k1 k2 k3
          refine hK.out _ _ ?_ (fun hHeld => ?_)
          · exact HS6.out _ HG7.out
          clear hK K
          try simp only [Act.put, List.setIfInBounds_toArray, List.set_cons_zero, List.set_cons_succ]
          refine' wpAnyH_take (i := 12) (oi := ?o11) (v := _) (by simp only [List.getElem?_toArray, List.getElem?_cons_succ, List.getElem?_cons_zero]; rfl) (by kernel_rfl) (by kernel_rfl) (by kernel_rfl) (fun _ _ _ h => h) (Or.inl ⟨by rfl, ?y11⟩) (by assumption) ?r11
          case y11 =>
            intro wS hSw
            try dsimp only at hSw
            go_simp
            all_goals with_reducible rfl
          simp only [Act.put, List.setIfInBounds_toArray, List.set_cons_zero, List.set_cons_succ]
          refine wpAnyH_done (by kernel_rfl) ?_ _
          refine NoPanic.normal ?_
          go_wp2
          go_ret
          exact ⟨_, rfl, by rw [HPUT.out]; exact H7.out.toR.sub (fun q hq => .inr (by have := HSZ.out; have := HG1.out.size; omega)) (fun _ _ _ h => h), HG1.out.step (HG.out.step HG7.out)⟩
    · obtain rfl : k = l.length := by omega
      rw [List.take_length] at HALL
      have HPUT := Lib.hid (show putSp l s = l ++ [s] ++ [] by
        have h := put_new (k := l.length) HP.out (by rw [List.take_length]; exact HALL.out) (.inl rfl)
        rw [List.take_length, List.drop_length] at h
        exact h)
      by_cases hl0 : l = []
      · subst hl0
        have he := h0 rfl
        simp only [Value.slice.injEq] at he
        obtain ⟨rfl, -, rfl⟩ := he
        have HTK := Lib.hid (show ∀ w', Grow wr w' → SpotsR S w' (.slice none 0 0) [] from fun w' _ => (OwnL.nil w' 140 3 RSpot).toSl (by simp))
        have HDK := HTK
        have HLT := Lib.hid (show 0 ≤ 65536 by omega)
        have HSZ := Lib.hid HG.out.size
        have HS6 := Lib.hid (show ∀ w', Grow wr w' → RefC w' w.heap.size s from fun w' g => HBX.out w' (HG.out.step g))
        have HW6 := Lib.hid (show w.heap.size < wr.heap.size from (HBX.out wr HG.out).1)
        go_wp2_with fail
        go_region
        go_wp2_with fail
        go_region
        go_wp2_with fail
        refine wp_region_noPanic ?_
        refine wp_region_held_drew (S := fun w' => RefC w' w.heap.size s) (by kernel_rfl) ?_ (fun hHeld => ?_)
        · exact HS6.out _ (by repeat first | exact Grow.rfl' _ | exact HGb.out | exact HGa.out | apply Grow.drewd | apply Grow.allocd)
        refine' wpAnyH_take (i := 1) (oi := ?o25) (v := _) (by simp only [List.getElem?_toArray, List.getElem?_cons_succ, List.getElem?_cons_zero]; rfl) (by kernel_rfl) (by kernel_rfl) (by kernel_rfl) (fun _ _ _ h => h) (Or.inl ⟨by rfl, ?y25⟩) (by assumption) ?r25
        case y25 =>
          intro wS hSw
          try dsimp only at hSw
          go_simp
          all_goals with_reducible rfl
        simp only [Act.put, List.setIfInBounds_toArray, List.set_cons_zero, List.set_cons_succ]
        refine' wpAnyH_take (i := 2) (oi := ?o26) (v := _) (by simp only [List.getElem?_toArray, List.getElem?_cons_succ, List.getElem?_cons_zero]; rfl) (by kernel_rfl) (by kernel_rfl) (by kernel_rfl) (fun _ _ _ h => h) (Or.inl ⟨by rfl, ?y26⟩) (by assumption) ?r26
        case y26 =>
          intro wS hSw
          try dsimp only at hSw
          go_simp
          all_goals with_reducible rfl
        simp only [Act.put, List.setIfInBounds_toArray, List.set_cons_zero, List.set_cons_succ]
        refine' wpAnyH_take (i := 3) (oi := ?o27) (v := _) (by simp only [List.getElem?_toArray, List.getElem?_cons_succ, List.getElem?_cons_zero]; rfl) (by kernel_rfl) (by kernel_rfl) (by kernel_rfl) (fun _ _ _ h => h) (Or.inl ⟨by rfl, ?y27⟩) (by assumption) ?r27
        case y27 =>
          intro wS hSw
          try dsimp only at hSw
          go_simp
          all_goals with_reducible rfl
        simp only [Act.put, List.setIfInBounds_toArray, List.set_cons_zero, List.set_cons_succ]
        refine' wpAnyH_take (i := 5) (oi := ?o28) (v := _) (by simp only [List.getElem?_toArray, List.getElem?_cons_succ, List.getElem?_cons_zero]; rfl) (by kernel_rfl) (by kernel_rfl) (by kernel_rfl) (fun _ _ _ h => h) (Or.inl ⟨by rfl, ?y28⟩) (by assumption) ?r28
        case y28 =>
          intro wS hSw
          try dsimp only at hSw
          go_simp
          all_goals with_reducible rfl
        simp only [Act.put, List.setIfInBounds_toArray, List.set_cons_zero, List.set_cons_succ]
        refine' wpAnyH_take (i := 8) (oi := ?o29) (v := _) (by simp only [List.getElem?_toArray, List.getElem?_cons_succ, List.getElem?_cons_zero]; rfl) (by kernel_rfl) (by kernel_rfl) (by kernel_rfl) (fun _ _ _ h => h) (Or.inl ⟨by rfl, ?y29⟩) (by assumption) ?r29
        case y29 =>
          intro wS hSw
          try dsimp only at hSw
          go_simp
          all_goals with_reducible rfl
        simp only [Act.put, List.setIfInBounds_toArray, List.set_cons_zero, List.set_cons_succ]
        refine' wpAnyH_take (i := 9) (oi := ?o30) (v := _) (by simp only [List.getElem?_toArray, List.getElem?_cons_succ, List.getElem?_cons_zero]; rfl) (by kernel_rfl) (by kernel_rfl) (by kernel_rfl) (fun _ _ _ h => h) (Or.inl ⟨by rfl, ?y30⟩) (by assumption) ?r30
        case y30 =>
          intro wS hSw
          try dsimp only at hSw
          go_simp
          all_goals with_reducible rfl
        simp only [Act.put, List.setIfInBounds_toArray, List.set_cons_zero, List.set_cons_succ]
        refine' wpAnyH_take (i := 10) (oi := ?o31) (v := _) (by simp only [List.getElem?_toArray, List.getElem?_cons_succ, List.getElem?_cons_zero]; rfl) (by kernel_rfl) (by kernel_rfl) (by kernel_rfl) (fun _ _ _ h => h) (Or.inl ⟨by rfl, ?y31⟩) (by assumption) ?r31
        case y31 =>
          intro wS hSw
          try dsimp only at hSw
          go_simp
          all_goals with_reducible rfl
        simp only [Act.put, List.setIfInBounds_toArray, List.set_cons_zero, List.set_cons_succ]
        refine wpAnyH_ready (rs := [0, 6]) (by kernel_rfl) (by simp) ?_
        refine' AllReadyH.cons (o := ?o47) (by simp only [List.getElem?_toArray, List.getElem?_cons_zero]; rfl) (fun K hK => ?s47) ?m47
        rotate_left
        · refine' AllReadyH.cons (o := ?o48) (by simp only [List.getElem?_toArray, List.getElem?_cons_succ, List.getElem?_cons_zero]; rfl) (fun K hK => ?s48) ?m48
          case m48 => exact AllReadyH.nil
          go_simp
          refine hK.out _ _ ?_ (fun hHeld => ?_)
          · exact HS6.out _ (by repeat first | exact Grow.rfl' _ | exact HGb.out | exact HGa.out | apply Grow.drewd | apply Grow.allocd)
          clear hK K
          try simp only [Act.put, List.setIfInBounds_toArray, List.set_cons_zero, List.set_cons_succ]
          refine wpAnyH_ready (rs := [0]) (by kernel_rfl) (by simp) ?_
          refine' AllReadyH.cons (o := ?o42) (by simp only [List.getElem?_toArray, List.getElem?_cons_zero]; rfl) (fun K hK => ?s42) ?m42
          case m42 => exact AllReadyH.nil
          go_simp
          refine hK.out _ _ ?_ (fun hHeld => ?_)
          · exact HS6.out _ (by repeat first | exact Grow.rfl' _ | exact HGb.out | exact HGa.out | apply Grow.drewd | apply Grow.allocd)
          clear hK K
          try simp only [Act.put, List.setIfInBounds_toArray, List.set_cons_zero, List.set_cons_succ]
          refine wpAnyH_ready (rs := [4]) (by kernel_rfl) (by simp) ?_
          refine' AllReadyH.cons (o := ?o43) (by simp only [List.getElem?_toArray, List.getElem?_cons_succ, List.getElem?_cons_zero]; rfl) (fun K hK => ?s43) ?m43
          case m43 => exact AllReadyH.nil
          refine step_append_L rfl (.tmp 34) (.tmp 37) 67 rfl rowRefSpot Tryz.underlying67 wr.heap.size _ (by first | rfl | simp [Act.eval]) _ (by first | rfl | simp [Act.eval]) (([] : List PSpot)) (HTK.out _ (by repeat first | exact Grow.rfl' _ | exact HGb.out | exact HGa.out | apply Grow.drewd | apply Grow.allocd)) rspotOk (by first | (simp; done) | (simp; omega)) (by have := HLT.out; first | (simp; done) | (simp; unfold maxLen; omega) | (simp [maxLen]; done) | (simp [maxLen]; omega)) (by have := HLT.out; first | (simp; done) | (simp; omega)) ?_
          intro v5 w5 k1 k2
          have H5 := Lib.hid k1; have HK5 := Lib.hid k2; have HGa := Lib.hid (show Grow wr w5 from Grow.step (by repeat first | exact Grow.rfl' _ | exact HGb.out | exact HGa.out | apply Grow.drewd | apply Grow.allocd) k2)
          clear k1 k2
          refine hK.out _ _ ?_ (fun hHeld => ?_)
          · exact HS6.out _ (by repeat first | exact Grow.rfl' _ | exact HGb.out | exact HGa.out | apply Grow.drewd | apply Grow.allocd)
          clear hK K
          try simp only [Act.put, List.setIfInBounds_toArray, List.set_cons_zero, List.set_cons_succ]
          refine wpAnyH_ready (rs := [7]) (by kernel_rfl) (by simp) ?_
          refine' AllReadyH.cons (o := ?o44) (by simp only [List.getElem?_toArray, List.getElem?_cons_succ, List.getElem?_cons_zero]; rfl) (fun K hK => ?s44) ?m44
          case m44 => exact AllReadyH.nil
          refine step_append_R rfl (.tmp 38) (.tmp 40) 67 rfl rowRefSpot Tryz.underlying67 wr.heap.size _ (([] : List PSpot)) (by first | rfl | simp [Act.eval]) H5.out (s) s.cells rfl rfl (spotCells1 s) _ (by first | rfl | simp [Act.eval]) (rdB ((HK5.out.heapEq (by first | (simp; done) | (simp; omega))).trans (boxAt0 _ _ _))) (by have := HGa.out.size; simp; omega) (by have := HLT.out; first | (simp; done) | (simp; unfold maxLen; omega) | (simp [maxLen]; done) | (simp [maxLen]; omega)) (by have := HLT.out; first | (simp; done) | (simp; omega)) ?_
          intro v6 w6 k1 k2 k3
          have H6 := Lib.hid k1; have HGb := Lib.hid (show Grow wr w6 from Grow.since (by repeat first | exact Grow.rfl' _ | exact HGb.out | exact HGa.out | apply Grow.drewd | apply Grow.allocd) k2 (Nat.le_refl _))
          clear k1 k2 k3
          refine hK.out _ _ ?_ (fun hHeld => ?_)
          · exact HS6.out _ (by repeat first | exact Grow.rfl' _ | exact HGb.out | exact HGa.out | apply Grow.drewd | apply Grow.allocd)
          clear hK K
          try simp only [Act.put, List.setIfInBounds_toArray, List.set_cons_zero, List.set_cons_succ]
          refine wpAnyH_ready (rs := [11]) (by kernel_rfl) (by simp) ?_
          refine' AllReadyH.cons (o := ?o45) (by simp only [List.getElem?_toArray, List.getElem?_cons_succ, List.getElem?_cons_zero]; rfl) (fun K hK => ?s45) ?m45
          case m45 => exact AllReadyH.nil
          refine step_append_M rfl (.tmp 41) (.tmp 44) 67 rfl rowRefSpot Tryz.underlying67 wr.heap.size _ (([] : List PSpot) ++ [s]) (by first | rfl | simp [Act.eval]) H6.out _ (by first | rfl | (simp [Act.eval]; done) | (simp [Act.eval]; intros; omega)) (([] : List PSpot)) (HDK.out _ HGb.out) rspotOk HGb.out.size (by have := HLT.out; first | (simp; done) | (simp; unfold maxLen; omega) | (simp [maxLen]; done) | (simp [maxLen]; omega)) (by have := HLT.out; first | (simp; done) | (simp; omega)) ?_
          intro v7 w7 k1 k2 k3
          have H7 := Lib.hid k1; have HG7 := Lib.hid (show Grow wr w7 from Grow.since HGb.out k2 (Nat.le_refl _))
          clear k1 k2 k3
          refine hK.out _ _ ?_ (fun hHeld => ?_)
          · exact HS6.out _ HG7.out
          clear hK K
          try simp only [Act.put, List.setIfInBounds_toArray, List.set_cons_zero, List.set_cons_succ]
          refine' wpAnyH_take (i := 12) (oi := ?o46) (v := _) (by simp only [List.getElem?_toArray, List.getElem?_cons_succ, List.getElem?_cons_zero]; rfl) (by kernel_rfl) (by kernel_rfl) (by kernel_rfl) (fun _ _ _ h => h) (Or.inl ⟨by rfl, ?y46⟩) (by assumption) ?r46
          case y46 =>
            intro wS hSw
            try dsimp only at hSw
            go_simp
            all_goals with_reducible rfl
          simp only [Act.put, List.setIfInBounds_toArray, List.set_cons_zero, List.set_cons_succ]
          refine wpAnyH_done (by kernel_rfl) ?_ _
          refine NoPanic.normal ?_
          go_wp2
          go_ret
          exact ⟨_, rfl, by rw [HPUT.out]; exact H7.out.toR.sub (fun q hq => .inr (by have := HSZ.out; have := HG1.out.size; omega)) (fun _ _ _ h => h), HG1.out.step (HG.out.step HG7.out)⟩
        go_simp
        refine hK.out _ _ ?_ (fun hHeld => ?_)
        · exact HS6.out _ (by repeat first | exact Grow.rfl' _ | exact HGb.out | exact HGa.out | apply Grow.drewd | apply Grow.allocd)
        clear hK K
        try simp only [Act.put, List.setIfInBounds_toArray, List.set_cons_zero, List.set_cons_succ]
        refine wpAnyH_ready (rs := [4, 6]) (by kernel_rfl) (by simp) ?_
        refine' AllReadyH.cons (o := ?o40) (by simp only [List.getElem?_toArray, List.getElem?_cons_succ, List.getElem?_cons_zero]; rfl) (fun K hK => ?s40) ?m40
        rotate_left
        · refine' AllReadyH.cons (o := ?o41) (by simp only [List.getElem?_toArray, List.getElem?_cons_succ, List.getElem?_cons_zero]; rfl) (fun K hK => ?s41) ?m41
          case m41 => exact AllReadyH.nil
          go_simp
          refine hK.out _ _ ?_ (fun hHeld => ?_)
          · exact HS6.out _ (by repeat first | exact Grow.rfl' _ | exact HGb.out | exact HGa.out | apply Grow.drewd | apply Grow.allocd)
          clear hK K
          try simp only [Act.put, List.setIfInBounds_toArray, List.set_cons_zero, List.set_cons_succ]
          refine wpAnyH_ready (rs := [4]) (by kernel_rfl) (by simp) ?_
          refine' AllReadyH.cons (o := ?o36) (by simp only [List.getElem?_toArray, List.getElem?_cons_succ, List.getElem?_cons_zero]; rfl) (fun K hK => ?s36) ?m36
          case m36 => exact AllReadyH.nil
          refine step_append_L rfl (.tmp 34) (.tmp 37) 67 rfl rowRefSpot Tryz.underlying67 wr.heap.size _ (by first | rfl | simp [Act.eval]) _ (by first | rfl | simp [Act.eval]) (([] : List PSpot)) (HTK.out _ (by repeat first | exact Grow.rfl' _ | exact HGb.out | exact HGa.out | apply Grow.drewd | apply Grow.allocd)) rspotOk (by first | (simp; done) | (simp; omega)) (by have := HLT.out; first | (simp; done) | (simp; unfold maxLen; omega) | (simp [maxLen]; done) | (simp [maxLen]; omega)) (by have := HLT.out; first | (simp; done) | (simp; omega)) ?_
          intro v5 w5 k1 k2
          have H5 := Lib.hid k1; have HK5 := Lib.hid k2; have HGa := Lib.hid (show Grow wr w5 from Grow.step (by repeat first | exact Grow.rfl' _ | exact HGb.out | exact HGa.out | apply Grow.drewd | apply Grow.allocd) k2)
          clear k1 k2
          refine hK.out _ _ ?_ (fun hHeld => ?_)
          · exact HS6.out _ (by repeat first | exact Grow.rfl' _ | exact HGb.out | exact HGa.out | apply Grow.drewd | apply Grow.allocd)
          clear hK K
          try simp only [Act.put, List.setIfInBounds_toArray, List.set_cons_zero, List.set_cons_succ]
          refine wpAnyH_ready (rs := [7]) (by kernel_rfl) (by simp) ?_
          refine' AllReadyH.cons (o := ?o37) (by simp only [List.getElem?_toArray, List.getElem?_cons_succ, List.getElem?_cons_zero]; rfl) (fun K hK => ?s37) ?m37
          case m37 => exact AllReadyH.nil
          refine step_append_R rfl (.tmp 38) (.tmp 40) 67 rfl rowRefSpot Tryz.underlying67 wr.heap.size _ (([] : List PSpot)) (by first | rfl | simp [Act.eval]) H5.out (s) s.cells rfl rfl (spotCells1 s) _ (by first | rfl | simp [Act.eval]) (rdB ((HK5.out.heapEq (by first | (simp; done) | (simp; omega))).trans (boxAt1 _ _ _))) (by have := HGa.out.size; simp; omega) (by have := HLT.out; first | (simp; done) | (simp; unfold maxLen; omega) | (simp [maxLen]; done) | (simp [maxLen]; omega)) (by have := HLT.out; first | (simp; done) | (simp; omega)) ?_
          intro v6 w6 k1 k2 k3
          have H6 := Lib.hid k1; have HGb := Lib.hid (show Grow wr w6 from Grow.since (by repeat first | exact Grow.rfl' _ | exact HGb.out | exact HGa.out | apply Grow.drewd | apply Grow.allocd) k2 (Nat.le_refl _))
          clear k1 k2 k3
          refine hK.out _ _ ?_ (fun hHeld => ?_)
          · exact HS6.out _ (by repeat first | exact Grow.rfl' _ | exact HGb.out | exact HGa.out | apply Grow.drewd | apply Grow.allocd)
          clear hK K
          try simp only [Act.put, List.setIfInBounds_toArray, List.set_cons_zero, List.set_cons_succ]
          refine wpAnyH_ready (rs := [11]) (by kernel_rfl) (by simp) ?_
          refine' AllReadyH.cons (o := ?o38) (by simp only [List.getElem?_toArray, List.getElem?_cons_succ, List.getElem?_cons_zero]; rfl) (fun K hK => ?s38) ?m38
          case m38 => exact AllReadyH.nil
          refine step_append_M rfl (.tmp 41) (.tmp 44) 67 rfl rowRefSpot Tryz.underlying67 wr.heap.size _ (([] : List PSpot) ++ [s]) (by first | rfl | simp [Act.eval]) H6.out _ (by first | rfl | (simp [Act.eval]; done) | (simp [Act.eval]; intros; omega)) (([] : List PSpot)) (HDK.out _ HGb.out) rspotOk HGb.out.size (by have := HLT.out; first | (simp; done) | (simp; unfold maxLen; omega) | (simp [maxLen]; done) | (simp [maxLen]; omega)) (by have := HLT.out; first | (simp; done) | (simp; omega)) ?_
          intro v7 w7 k1 k2 k3
          have H7 := Lib.hid k1; have HG7 := Lib.hid (show Grow wr w7 from Grow.since HGb.out k2 (Nat.le_refl _))
          clear k1 k2 k3
          refine hK.out _ _ ?_ (fun hHeld => ?_)
          · exact HS6.out _ HG7.out
          clear hK K
          try simp only [Act.put, List.setIfInBounds_toArray, List.set_cons_zero, List.set_cons_succ]
          refine' wpAnyH_take (i := 12) (oi := ?o39) (v := _) (by simp only [List.getElem?_toArray, List.getElem?_cons_succ, List.getElem?_cons_zero]; rfl) (by kernel_rfl) (by kernel_rfl) (by kernel_rfl) (fun _ _ _ h => h) (Or.inl ⟨by rfl, ?y39⟩) (by assumption) ?r39
          case y39 =>
            intro wS hSw
            try dsimp only at hSw
            go_simp
            all_goals with_reducible rfl
          simp only [Act.put, List.setIfInBounds_toArray, List.set_cons_zero, List.set_cons_succ]
          refine wpAnyH_done (by kernel_rfl) ?_ _
          refine NoPanic.normal ?_
          go_wp2
          go_ret
          exact ⟨_, rfl, by rw [HPUT.out]; exact H7.out.toR.sub (fun q hq => .inr (by have := HSZ.out; have := HG1.out.size; omega)) (fun _ _ _ h => h), HG1.out.step (HG.out.step HG7.out)⟩
        refine step_append_L rfl (.tmp 34) (.tmp 37) 67 rfl rowRefSpot Tryz.underlying67 wr.heap.size _ (by first | rfl | simp [Act.eval]) _ (by first | rfl | simp [Act.eval]) (([] : List PSpot)) (HTK.out _ (by repeat first | exact Grow.rfl' _ | exact HGb.out | exact HGa.out | apply Grow.drewd | apply Grow.allocd)) rspotOk (by first | (simp; done) | (simp; omega)) (by have := HLT.out; first | (simp; done) | (simp; unfold maxLen; omega) | (simp [maxLen]; done) | (simp [maxLen]; omega)) (by have := HLT.out; first | (simp; done) | (simp; omega)) ?_
        intro v5 w5 k1 k2
        have H5 := Lib.hid k1; have HK5 := Lib.hid k2; have HGa := Lib.hid (show Grow wr w5 from Grow.step (by repeat first | exact Grow.rfl' _ | exact HGb.out | exact HGa.out | apply Grow.drewd | apply Grow.allocd) k2)
        clear k1 k2
        refine hK.out _ _ ?_ (fun hHeld => ?_)
        · exact HS6.out _ (by repeat first | exact Grow.rfl' _ | exact HGb.out | exact HGa.out | apply Grow.drewd | apply Grow.allocd)
        clear hK K
        try simp only [Act.put, List.setIfInBounds_toArray, List.set_cons_zero, List.set_cons_succ]
        refine wpAnyH_ready (rs := [6]) (by kernel_rfl) (by simp) ?_
        refine' AllReadyH.cons (o := ?o32) (by simp only [List.getElem?_toArray, List.getElem?_cons_succ, List.getElem?_cons_zero]; rfl) (fun K hK => ?s32) ?m32
        case m32 => exact AllReadyH.nil
        go_simp
        refine hK.out _ _ ?_ (fun hHeld => ?_)
        · exact HS6.out _ (by repeat first | exact Grow.rfl' _ | exact HGb.out | exact HGa.out | apply Grow.drewd | apply Grow.allocd)
        clear hK K
        try simp only [Act.put, List.setIfInBounds_toArray, List.set_cons_zero, List.set_cons_succ]
        refine wpAnyH_ready (rs := [7]) (by kernel_rfl) (by simp) ?_
        refine' AllReadyH.cons (o := ?o33) (by simp only [List.getElem?_toArray, List.getElem?_cons_succ, List.getElem?_cons_zero]; rfl) (fun K hK => ?s33) ?m33
        case m33 => exact AllReadyH.nil
        refine step_append_R rfl (.tmp 38) (.tmp 40) 67 rfl rowRefSpot Tryz.underlying67 wr.heap.size _ (([] : List PSpot)) (by first | rfl | simp [Act.eval]) (H5.out.grow ((Grow.rfl' _).allocd _)) (s) s.cells rfl rfl (spotCells1 s) _ (by first | rfl | simp [Act.eval]) (rdK _ _ _ 3 rfl rfl) (by have := HGa.out.size; simp; omega) (by have := HLT.out; first | (simp; done) | (simp; unfold maxLen; omega) | (simp [maxLen]; done) | (simp [maxLen]; omega)) (by have := HLT.out; first | (simp; done) | (simp; omega)) ?_
        intro v6 w6 k1 k2 k3
        have H6 := Lib.hid k1; have HGb := Lib.hid (show Grow wr w6 from Grow.since (by repeat first | exact Grow.rfl' _ | exact HGb.out | exact HGa.out | apply Grow.drewd | apply Grow.allocd) k2 (Nat.le_refl _))
        clear k1 k2 k3
        refine hK.out _ _ ?_ (fun hHeld => ?_)
        · exact HS6.out _ (by repeat first | exact Grow.rfl' _ | exact HGb.out | exact HGa.out | apply Grow.drewd | apply Grow.allocd)
        clear hK K
        try simp only [Act.put, List.setIfInBounds_toArray, List.set_cons_zero, List.set_cons_succ]
        refine wpAnyH_ready (rs := [11]) (by kernel_rfl) (by simp) ?_
        refine' AllReadyH.cons (o := ?o34) (by simp only [List.getElem?_toArray, List.getElem?_cons_succ, List.getElem?_cons_zero]; rfl) (fun K hK => ?s34) ?m34
        case m34 => exact AllReadyH.nil
        refine step_append_M rfl (.tmp 41) (.tmp 44) 67 rfl rowRefSpot Tryz.underlying67 wr.heap.size _ (([] : List PSpot) ++ [s]) (by first | rfl | simp [Act.eval]) H6.out _ (by first | rfl | (simp [Act.eval]; done) | (simp [Act.eval]; intros; omega)) (([] : List PSpot)) (HDK.out _ HGb.out) rspotOk HGb.out.size (by have := HLT.out; first | (simp; done) | (simp; unfold maxLen; omega) | (simp [maxLen]; done) | (simp [maxLen]; omega)) (by have := HLT.out; first | (simp; done) | (simp; omega)) ?_
        intro v7 w7 k1 k2 k3
        have H7 := Lib.hid k1; have HG7 := Lib.hid (show Grow wr w7 from Grow.since HGb.out k2 (Nat.le_refl _))
        clear k1 k2 k3
        refine hK.out _ _ ?_ (fun hHeld => ?_)
        · exact HS6.out _ HG7.out
        clear hK K
        try simp only [Act.put, List.setIfInBounds_toArray, List.set_cons_zero, List.set_cons_succ]
        refine' wpAnyH_take (i := 12) (oi := ?o35) (v := _) (by simp only [List.getElem?_toArray, List.getElem?_cons_succ, List.getElem?_cons_zero]; rfl) (by kernel_rfl) (by kernel_rfl) (by kernel_rfl) (fun _ _ _ h => h) (Or.inl ⟨by rfl, ?y35⟩) (by assumption) ?r35
        case y35 =>
          intro wS hSw
          try dsimp only at hSw
          go_simp
          all_goals with_reducible rfl
        simp only [Act.put, List.setIfInBounds_toArray, List.set_cons_zero, List.set_cons_succ]
        refine wpAnyH_done (by kernel_rfl) ?_ _
        refine NoPanic.normal ?_
        go_wp2
        go_ret
        exact ⟨_, rfl, by rw [HPUT.out]; exact H7.out.toR.sub (fun q hq => .inr (by have := HSZ.out; have := HG1.out.size; omega)) (fun _ _ _ h => h), HG1.out.step (HG.out.step HG7.out)⟩
      · have hpos : 0 < l.length := List.length_pos_iff.2 hl0
        obtain ⟨ba, oa, ra, rfl, -, -, -, -⟩ := HA.out 0 l[0] (List.getElem?_eq_getElem hpos)
        by_cases hkc : l.length = ca
        · subst hkc
          have hk0 : (0 : Int) ≤ (l.length : Int) := by omega
          have HTK := Lib.hid (show ∀ w', Grow wr w' → SpotsR S w' _ l from fun w' g => HSL.out.grow (HG1.out.step (HG.out.step g)))
          have HDK := Lib.hid (show ∀ w', Grow wr w' → SpotsR S w' (.slice (some ⟨ba, oa, none⟩) 0 0) [] from fun w' _ => ⟨_, _, [], rfl, by simp, by first | (simp; done) | (simp; unfold maxLen; omega), rfl, by simp, by simp⟩)
          have HLT := Lib.hid (show l.length ≤ 65536 by omega)
          have HSZ := Lib.hid HG.out.size
          have HS6 := Lib.hid (show ∀ w', Grow wr w' → RefC w' w.heap.size s from fun w' g => HBX.out w' (HG.out.step g))
          have HW6 := Lib.hid (show w.heap.size < wr.heap.size from (HBX.out wr HG.out).1)
          go_wp2_with fail
          go_region
          go_wp2_with fail
          go_region
          go_wp2_with fail
          refine wp_region_noPanic ?_
          refine wp_region_held_drew (S := fun w' => RefC w' w.heap.size s) (by kernel_rfl) ?_ (fun hHeld => ?_)
          · exact HS6.out _ (by repeat first | exact Grow.rfl' _ | exact HGb.out | exact HGa.out | apply Grow.drewd | apply Grow.allocd)
          refine' wpAnyH_take (i := 1) (oi := ?o49) (v := _) (by simp only [List.getElem?_toArray, List.getElem?_cons_succ, List.getElem?_cons_zero]; rfl) (by kernel_rfl) (by kernel_rfl) (by kernel_rfl) (fun _ _ _ h => h) (Or.inl ⟨by rfl, ?y49⟩) (by assumption) ?r49
          case y49 =>
            intro wS hSw
            try dsimp only at hSw
            go_simp
            all_goals with_reducible rfl
          simp only [Act.put, List.setIfInBounds_toArray, List.set_cons_zero, List.set_cons_succ]
          refine' wpAnyH_take (i := 2) (oi := ?o50) (v := _) (by simp only [List.getElem?_toArray, List.getElem?_cons_succ, List.getElem?_cons_zero]; rfl) (by kernel_rfl) (by kernel_rfl) (by kernel_rfl) (fun _ _ _ h => h) (Or.inl ⟨by rfl, ?y50⟩) (by assumption) ?r50
          case y50 =>
            intro wS hSw
            try dsimp only at hSw
            go_simp
            all_goals with_reducible rfl
          simp only [Act.put, List.setIfInBounds_toArray, List.set_cons_zero, List.set_cons_succ]
          refine' wpAnyH_take (i := 3) (oi := ?o51) (v := _) (by simp only [List.getElem?_toArray, List.getElem?_cons_succ, List.getElem?_cons_zero]; rfl) (by kernel_rfl) (by kernel_rfl) (by kernel_rfl) (fun _ _ _ h => h) (Or.inl ⟨by rfl, ?y51⟩) (by assumption) ?r51
          case y51 =>
            intro wS hSw
            try dsimp only at hSw
            go_simp
            all_goals with_reducible rfl
          simp only [Act.put, List.setIfInBounds_toArray, List.set_cons_zero, List.set_cons_succ]
          refine' wpAnyH_take (i := 5) (oi := ?o52) (v := _) (by simp only [List.getElem?_toArray, List.getElem?_cons_succ, List.getElem?_cons_zero]; rfl) (by kernel_rfl) (by kernel_rfl) (by kernel_rfl) (fun _ _ _ h => h) (Or.inl ⟨by rfl, ?y52⟩) (by assumption) ?r52
          case y52 =>
            intro wS hSw
            try dsimp only at hSw
            go_simp
            all_goals with_reducible rfl
          simp only [Act.put, List.setIfInBounds_toArray, List.set_cons_zero, List.set_cons_succ]
          refine' wpAnyH_take (i := 8) (oi := ?o53) (v := _) (by simp only [List.getElem?_toArray, List.getElem?_cons_succ, List.getElem?_cons_zero]; rfl) (by kernel_rfl) (by kernel_rfl) (by kernel_rfl) (fun _ _ _ h => h) (Or.inl ⟨by rfl, ?y53⟩) (by assumption) ?r53
          case y53 =>
            intro wS hSw
            try dsimp only at hSw
            go_simp
            all_goals with_reducible rfl
          simp only [Act.put, List.setIfInBounds_toArray, List.set_cons_zero, List.set_cons_succ]
          refine' wpAnyH_take (i := 9) (oi := ?o54) (v := _) (by simp only [List.getElem?_toArray, List.getElem?_cons_succ, List.getElem?_cons_zero]; rfl) (by kernel_rfl) (by kernel_rfl) (by kernel_rfl) (fun _ _ _ h => h) (Or.inl ⟨by rfl, ?y54⟩) (by assumption) ?r54
          case y54 =>
            intro wS hSw
            try dsimp only at hSw
            go_simp
            all_goals with_reducible rfl
          simp only [Act.put, List.setIfInBounds_toArray, List.set_cons_zero, List.set_cons_succ]
          refine' wpAnyH_take (i := 10) (oi := ?o55) (v := _) (by simp only [List.getElem?_toArray, List.getElem?_cons_succ, List.getElem?_cons_zero]; rfl) (by kernel_rfl) (by kernel_rfl) (by kernel_rfl) (fun _ _ _ h => h) (Or.inl ⟨by rfl, ?y55⟩) (by assumption) ?r55
          case y55 =>
            intro wS hSw
            try dsimp only at hSw
            go_simp
            all_goals with_reducible rfl
          simp only [Act.put, List.setIfInBounds_toArray, List.set_cons_zero, List.set_cons_succ]
          refine wpAnyH_ready (rs := [0, 6]) (by kernel_rfl) (by simp) ?_
          refine' AllReadyH.cons (o := ?o71) (by simp only [List.getElem?_toArray, List.getElem?_cons_zero]; rfl) (fun K hK => ?s71) ?m71
          rotate_left
          · refine' AllReadyH.cons (o := ?o72) (by simp only [List.getElem?_toArray, List.getElem?_cons_succ, List.getElem?_cons_zero]; rfl) (fun K hK => ?s72) ?m72
            case m72 => exact AllReadyH.nil
            go_simp
            refine hK.out _ _ ?_ (fun hHeld => ?_)
            · exact HS6.out _ (by repeat first | exact Grow.rfl' _ | exact HGb.out | exact HGa.out | apply Grow.drewd | apply Grow.allocd)
            clear hK K
            try simp only [Act.put, List.setIfInBounds_toArray, List.set_cons_zero, List.set_cons_succ]
            refine wpAnyH_ready (rs := [0]) (by kernel_rfl) (by simp) ?_
            refine' AllReadyH.cons (o := ?o66) (by simp only [List.getElem?_toArray, List.getElem?_cons_zero]; rfl) (fun K hK => ?s66) ?m66
            case m66 => exact AllReadyH.nil
            go_simp
            refine hK.out _ _ ?_ (fun hHeld => ?_)
            · exact HS6.out _ (by repeat first | exact Grow.rfl' _ | exact HGb.out | exact HGa.out | apply Grow.drewd | apply Grow.allocd)
            clear hK K
            try simp only [Act.put, List.setIfInBounds_toArray, List.set_cons_zero, List.set_cons_succ]
            refine wpAnyH_ready (rs := [4]) (by kernel_rfl) (by simp) ?_
            refine' AllReadyH.cons (o := ?o67) (by simp only [List.getElem?_toArray, List.getElem?_cons_succ, List.getElem?_cons_zero]; rfl) (fun K hK => ?s67) ?m67
            case m67 => exact AllReadyH.nil
            refine step_append_L rfl (.tmp 34) (.tmp 37) 67 rfl rowRefSpot Tryz.underlying67 wr.heap.size _ (by first | rfl | simp [Act.eval]) _ (by first | rfl | simp [Act.eval]) (l) (HTK.out _ (by repeat first | exact Grow.rfl' _ | exact HGb.out | exact HGa.out | apply Grow.drewd | apply Grow.allocd)) rspotOk (by first | (simp; done) | (simp; omega)) (by have := HLT.out; first | (simp; done) | (simp; unfold maxLen; omega) | (simp [maxLen]; done) | (simp [maxLen]; omega)) (by have := HLT.out; first | (simp; done) | (simp; omega)) ?_
            intro v5 w5 k1 k2
            have H5 := Lib.hid k1; have HK5 := Lib.hid k2; have HGa := Lib.hid (show Grow wr w5 from Grow.step (by repeat first | exact Grow.rfl' _ | exact HGb.out | exact HGa.out | apply Grow.drewd | apply Grow.allocd) k2)
            clear k1 k2
            refine hK.out _ _ ?_ (fun hHeld => ?_)
            · exact HS6.out _ (by repeat first | exact Grow.rfl' _ | exact HGb.out | exact HGa.out | apply Grow.drewd | apply Grow.allocd)
            clear hK K
            try simp only [Act.put, List.setIfInBounds_toArray, List.set_cons_zero, List.set_cons_succ]
            refine wpAnyH_ready (rs := [7]) (by kernel_rfl) (by simp) ?_
            refine' AllReadyH.cons (o := ?o68) (by simp only [List.getElem?_toArray, List.getElem?_cons_succ, List.getElem?_cons_zero]; rfl) (fun K hK => ?s68) ?m68
            case m68 => exact AllReadyH.nil
            refine step_append_R rfl (.tmp 38) (.tmp 40) 67 rfl rowRefSpot Tryz.underlying67 wr.heap.size _ (l) (by first | rfl | simp [Act.eval]) H5.out (s) s.cells rfl rfl (spotCells1 s) _ (by first | rfl | simp [Act.eval]) (rdB ((HK5.out.heapEq (by first | (simp; done) | (simp; omega))).trans (boxAt0 _ _ _))) (by have := HGa.out.size; simp; omega) (by have := HLT.out; first | (simp; done) | (simp; unfold maxLen; omega) | (simp [maxLen]; done) | (simp [maxLen]; omega)) (by have := HLT.out; first | (simp; done) | (simp; omega)) ?_
            intro v6 w6 k1 k2 k3
            have H6 := Lib.hid k1; have HGb := Lib.hid (show Grow wr w6 from Grow.since (by repeat first | exact Grow.rfl' _ | exact HGb.out | exact HGa.out | apply Grow.drewd | apply Grow.allocd) k2 (Nat.le_refl _))
            clear k1 k2 k3
            refine hK.out _ _ ?_ (fun hHeld => ?_)
            · exact HS6.out _ (by repeat first | exact Grow.rfl' _ | exact HGb.out | exact HGa.out | apply Grow.drewd | apply Grow.allocd)
            clear hK K
            try simp only [Act.put, List.setIfInBounds_toArray, List.set_cons_zero, List.set_cons_succ]
            refine wpAnyH_ready (rs := [11]) (by kernel_rfl) (by simp) ?_
            refine' AllReadyH.cons (o := ?o69) (by simp only [List.getElem?_toArray, List.getElem?_cons_succ, List.getElem?_cons_zero]; rfl) (fun K hK => ?s69) ?m69
            case m69 => exact AllReadyH.nil
            refine step_append_M rfl (.tmp 41) (.tmp 44) 67 rfl rowRefSpot Tryz.underlying67 wr.heap.size _ (l ++ [s]) (by first | rfl | simp [Act.eval]) H6.out _ (by first | rfl | (simp [Act.eval]; done) | (simp [Act.eval]; intros; omega)) (([] : List PSpot)) (HDK.out _ HGb.out) rspotOk HGb.out.size (by have := HLT.out; first | (simp; done) | (simp; unfold maxLen; omega) | (simp [maxLen]; done) | (simp [maxLen]; omega)) (by have := HLT.out; first | (simp; done) | (simp; omega)) ?_
            intro v7 w7 k1 k2 k3
            have H7 := Lib.hid k1; have HG7 := Lib.hid (show Grow wr w7 from Grow.since HGb.out k2 (Nat.le_refl _))
            clear k1 k2 k3
            refine hK.out _ _ ?_ (fun hHeld => ?_)
            · exact HS6.out _ HG7.out
            clear hK K
            try simp only [Act.put, List.setIfInBounds_toArray, List.set_cons_zero, List.set_cons_succ]
            refine' wpAnyH_take (i := 12) (oi := ?o70) (v := _) (by simp only [List.getElem?_toArray, List.getElem?_cons_succ, List.getElem?_cons_zero]; rfl) (by kernel_rfl) (by kernel_rfl) (by kernel_rfl) (fun _ _ _ h => h) (Or.inl ⟨by rfl, ?y70⟩) (by assumption) ?r70
            case y70 =>
              intro wS hSw
              try dsimp only at hSw
              go_simp
              all_goals with_reducible rfl
            simp only [Act.put, List.setIfInBounds_toArray, List.set_cons_zero, List.set_cons_succ]
            refine wpAnyH_done (by kernel_rfl) ?_ _
            refine NoPanic.normal ?_
            go_wp2
            go_ret
            exact ⟨_, rfl, by rw [HPUT.out]; exact H7.out.toR.sub (fun q hq => .inr (by have := HSZ.out; have := HG1.out.size; omega)) (fun _ _ _ h => h), HG1.out.step (HG.out.step HG7.out)⟩
          go_simp
          refine hK.out _ _ ?_ (fun hHeld => ?_)
          · exact HS6.out _ (by repeat first | exact Grow.rfl' _ | exact HGb.out | exact HGa.out | apply Grow.drewd | apply Grow.allocd)
          clear hK K
          try simp only [Act.put, List.setIfInBounds_toArray, List.set_cons_zero, List.set_cons_succ]
          refine wpAnyH_ready (rs := [4, 6]) (by kernel_rfl) (by simp) ?_
          refine' AllReadyH.cons (o := ?o64) (by simp only [List.getElem?_toArray, List.getElem?_cons_succ, List.getElem?_cons_zero]; rfl) (fun K hK => ?s64) ?m64
          rotate_left
          · refine' AllReadyH.cons (o := ?o65) (by simp only [List.getElem?_toArray, List.getElem?_cons_succ, List.getElem?_cons_zero]; rfl) (fun K hK => ?s65) ?m65
            case m65 => exact AllReadyH.nil
            go_simp
            refine hK.out _ _ ?_ (fun hHeld => ?_)
            · exact HS6.out _ (by repeat first | exact Grow.rfl' _ | exact HGb.out | exact HGa.out | apply Grow.drewd | apply Grow.allocd)
            clear hK K
            try simp only [Act.put, List.setIfInBounds_toArray, List.set_cons_zero, List.set_cons_succ]
            refine wpAnyH_ready (rs := [4]) (by kernel_rfl) (by simp) ?_
            refine' AllReadyH.cons (o := ?o60) (by simp only [List.getElem?_toArray, List.getElem?_cons_succ, List.getElem?_cons_zero]; rfl) (fun K hK => ?s60) ?m60
            case m60 => exact AllReadyH.nil
            refine step_append_L rfl (.tmp 34) (.tmp 37) 67 rfl rowRefSpot Tryz.underlying67 wr.heap.size _ (by first | rfl | simp [Act.eval]) _ (by first | rfl | simp [Act.eval]) (l) (HTK.out _ (by repeat first | exact Grow.rfl' _ | exact HGb.out | exact HGa.out | apply Grow.drewd | apply Grow.allocd)) rspotOk (by first | (simp; done) | (simp; omega)) (by have := HLT.out; first | (simp; done) | (simp; unfold maxLen; omega) | (simp [maxLen]; done) | (simp [maxLen]; omega)) (by have := HLT.out; first | (simp; done) | (simp; omega)) ?_
            intro v5 w5 k1 k2
            have H5 := Lib.hid k1; have HK5 := Lib.hid k2; have HGa := Lib.hid (show Grow wr w5 from Grow.step (by repeat first | exact Grow.rfl' _ | exact HGb.out | exact HGa.out | apply Grow.drewd | apply Grow.allocd) k2)
            clear k1 k2
            refine hK.out _ _ ?_ (fun hHeld => ?_)
            · exact HS6.out _ (by repeat first | exact Grow.rfl' _ | exact HGb.out | exact HGa.out | apply Grow.drewd | apply Grow.allocd)
            clear hK K
            try simp only [Act.put, List.setIfInBounds_toArray, List.set_cons_zero, List.set_cons_succ]
            refine wpAnyH_ready (rs := [7]) (by kernel_rfl) (by simp) ?_
            refine' AllReadyH.cons (o := ?o61) (by simp only [List.getElem?_toArray, List.getElem?_cons_succ, List.getElem?_cons_zero]; rfl) (fun K hK => ?s61) ?m61
            case m61 => exact AllReadyH.nil
            refine step_append_R rfl (.tmp 38) (.tmp 40) 67 rfl rowRefSpot Tryz.underlying67 wr.heap.size _ (l) (by first | rfl | simp [Act.eval]) H5.out (s) s.cells rfl rfl (spotCells1 s) _ (by first | rfl | simp [Act.eval]) (rdB ((HK5.out.heapEq (by first | (simp; done) | (simp; omega))).trans (boxAt1 _ _ _))) (by have := HGa.out.size; simp; omega) (by have := HLT.out; first | (simp; done) | (simp; unfold maxLen; omega) | (simp [maxLen]; done) | (simp [maxLen]; omega)) (by have := HLT.out; first | (simp; done) | (simp; omega)) ?_
            intro v6 w6 k1 k2 k3
            have H6 := Lib.hid k1; have HGb := Lib.hid (show Grow wr w6 from Grow.since (by repeat first | exact Grow.rfl' _ | exact HGb.out | exact HGa.out | apply Grow.drewd | apply Grow.allocd) k2 (Nat.le_refl _))
            clear k1 k2 k3
            refine hK.out _ _ ?_ (fun hHeld => ?_)
            · exact HS6.out _ (by repeat first | exact Grow.rfl' _ | exact HGb.out | exact HGa.out | apply Grow.drewd | apply Grow.allocd)
            clear hK K
            try simp only [Act.put, List.setIfInBounds_toArray, List.set_cons_zero, List.set_cons_succ]
            refine wpAnyH_ready (rs := [11]) (by kernel_rfl) (by simp) ?_
            refine' AllReadyH.cons (o := ?o62) (by simp only [List.getElem?_toArray, List.getElem?_cons_succ, List.getElem?_cons_zero]; rfl) (fun K hK => ?s62) ?m62
            case m62 => exact AllReadyH.nil
            refine step_append_M rfl (.tmp 41) (.tmp 44) 67 rfl rowRefSpot Tryz.underlying67 wr.heap.size _ (l ++ [s]) (by first | rfl | simp [Act.eval]) H6.out _ (by first | rfl | (simp [Act.eval]; done) | (simp [Act.eval]; intros; omega)) (([] : List PSpot)) (HDK.out _ HGb.out) rspotOk HGb.out.size (by have := HLT.out; first | (simp; done) | (simp; unfold maxLen; omega) | (simp [maxLen]; done) | (simp [maxLen]; omega)) (by have := HLT.out; first | (simp; done) | (simp; omega)) ?_
            intro v7 w7 k1 k2 k3
            have H7 := Lib.hid k1; have HG7 := Lib.hid (show Grow wr w7 from Grow.since HGb.out k2 (Nat.le_refl _))
            clear k1 k2 k3
            refine hK.out _ _ ?_ (fun hHeld => ?_)
            · exact HS6.out _ HG7.out
            clear hK K
            try simp only [Act.put, List.setIfInBounds_toArray, List.set_cons_zero, List.set_cons_succ]
            refine' wpAnyH_take (i := 12) (oi := ?o63) (v := _) (by simp only [List.getElem?_toArray, List.getElem?_cons_succ, List.getElem?_cons_zero]; rfl) (by kernel_rfl) (by kernel_rfl) (by kernel_rfl) (fun _ _ _ h => h) (Or.inl ⟨by rfl, ?y63⟩) (by assumption) ?r63
            case y63 =>
              intro wS hSw
              try dsimp only at hSw
              go_simp
              all_goals with_reducible rfl
            simp only [Act.put, List.setIfInBounds_toArray, List.set_cons_zero, List.set_cons_succ]
            refine wpAnyH_done (by kernel_rfl) ?_ _
            refine NoPanic.normal ?_
            go_wp2
            go_ret
            exact ⟨_, rfl, by rw [HPUT.out]; exact H7.out.toR.sub (fun q hq => .inr (by have := HSZ.out; have := HG1.out.size; omega)) (fun _ _ _ h => h), HG1.out.step (HG.out.step HG7.out)⟩
          refine step_append_L rfl (.tmp 34) (.tmp 37) 67 rfl rowRefSpot Tryz.underlying67 wr.heap.size _ (by first | rfl | simp [Act.eval]) _ (by first | rfl | simp [Act.eval]) (l) (HTK.out _ (by repeat first | exact Grow.rfl' _ | exact HGb.out | exact HGa.out | apply Grow.drewd | apply Grow.allocd)) rspotOk (by first | (simp; done) | (simp; omega)) (by have := HLT.out; first | (simp; done) | (simp; unfold maxLen; omega) | (simp [maxLen]; done) | (simp [maxLen]; omega)) (by have := HLT.out; first | (simp; done) | (simp; omega)) ?_
          intro v5 w5 k1 k2
          have H5 := Lib.hid k1; have HK5 := Lib.hid k2; have HGa := Lib.hid (show Grow wr w5 from Grow.step (by repeat first | exact Grow.rfl' _ | exact HGb.out | exact HGa.out | apply Grow.drewd | apply Grow.allocd) k2)
          clear k1 k2
          refine hK.out _ _ ?_ (fun hHeld => ?_)
          · exact HS6.out _ (by repeat first | exact Grow.rfl' _ | exact HGb.out | exact HGa.out | apply Grow.drewd | apply Grow.allocd)
          clear hK K
          try simp only [Act.put, List.setIfInBounds_toArray, List.set_cons_zero, List.set_cons_succ]
          refine wpAnyH_ready (rs := [6]) (by kernel_rfl) (by simp) ?_
          refine' AllReadyH.cons (o := ?o56) (by simp only [List.getElem?_toArray, List.getElem?_cons_succ, List.getElem?_cons_zero]; rfl) (fun K hK => ?s56) ?m56
          case m56 => exact AllReadyH.nil
          go_simp
          refine hK.out _ _ ?_ (fun hHeld => ?_)
          · exact HS6.out _ (by repeat first | exact Grow.rfl' _ | exact HGb.out | exact HGa.out | apply Grow.drewd | apply Grow.allocd)
          clear hK K
          try simp only [Act.put, List.setIfInBounds_toArray, List.set_cons_zero, List.set_cons_succ]
          refine wpAnyH_ready (rs := [7]) (by kernel_rfl) (by simp) ?_
          refine' AllReadyH.cons (o := ?o57) (by simp only [List.getElem?_toArray, List.getElem?_cons_succ, List.getElem?_cons_zero]; rfl) (fun K hK => ?s57) ?m57
          case m57 => exact AllReadyH.nil
          refine step_append_R rfl (.tmp 38) (.tmp 40) 67 rfl rowRefSpot Tryz.underlying67 wr.heap.size _ (l) (by first | rfl | simp [Act.eval]) (H5.out.grow ((Grow.rfl' _).allocd _)) (s) s.cells rfl rfl (spotCells1 s) _ (by first | rfl | simp [Act.eval]) (rdK _ _ _ 3 rfl rfl) (by have := HGa.out.size; simp; omega) (by have := HLT.out; first | (simp; done) | (simp; unfold maxLen; omega) | (simp [maxLen]; done) | (simp [maxLen]; omega)) (by have := HLT.out; first | (simp; done) | (simp; omega)) ?_
          intro v6 w6 k1 k2 k3
          have H6 := Lib.hid k1; have HGb := Lib.hid (show Grow wr w6 from Grow.since (by repeat first | exact Grow.rfl' _ | exact HGb.out | exact HGa.out | apply Grow.drewd | apply Grow.allocd) k2 (Nat.le_refl _))
          clear k1 k2 k3
          refine hK.out _ _ ?_ (fun hHeld => ?_)
          · exact HS6.out _ (by repeat first | exact Grow.rfl' _ | exact HGb.out | exact HGa.out | apply Grow.drewd | apply Grow.allocd)
          clear hK K
          try simp only [Act.put, List.setIfInBounds_toArray, List.set_cons_zero, List.set_cons_succ]
          refine wpAnyH_ready (rs := [11]) (by kernel_rfl) (by simp) ?_
          refine' AllReadyH.cons (o := ?o58) (by simp only [List.getElem?_toArray, List.getElem?_cons_succ, List.getElem?_cons_zero]; rfl) (fun K hK => ?s58) ?m58
          case m58 => exact AllReadyH.nil
          refine step_append_M rfl (.tmp 41) (.tmp 44) 67 rfl rowRefSpot Tryz.underlying67 wr.heap.size _ (l ++ [s]) (by first | rfl | simp [Act.eval]) H6.out _ (by first | rfl | (simp [Act.eval]; done) | (simp [Act.eval]; intros; omega)) (([] : List PSpot)) (HDK.out _ HGb.out) rspotOk HGb.out.size (by have := HLT.out; first | (simp; done) | (simp; unfold maxLen; omega) | (simp [maxLen]; done) | (simp [maxLen]; omega)) (by have := HLT.out; first | (simp; done) | (simp; omega)) ?_
          intro v7 w7 k1 k2 k3
          have H7 := Lib.hid k1; have HG7 := Lib.hid (show Grow wr w7 from Grow.since HGb.out k2 (Nat.le_refl _))
          clear k1 k2 k3
          refine hK.out _ _ ?_ (fun hHeld => ?_)
          · exact HS6.out _ HG7.out
          clear hK K
          try simp only [Act.put, List.setIfInBounds_toArray, List.set_cons_zero, List.set_cons_succ]
          refine' wpAnyH_take (i := 12) (oi := ?o59) (v := _) (by simp only [List.getElem?_toArray, List.getElem?_cons_succ, List.getElem?_cons_zero]; rfl) (by kernel_rfl) (by kernel_rfl) (by kernel_rfl) (fun _ _ _ h => h) (Or.inl ⟨by rfl, ?y59⟩) (by assumption) ?r59
          case y59 =>
            intro wS hSw
            try dsimp only at hSw
            go_simp
            all_goals with_reducible rfl
          simp only [Act.put, List.setIfInBounds_toArray, List.set_cons_zero, List.set_cons_succ]
          refine wpAnyH_done (by kernel_rfl) ?_ _
          refine NoPanic.normal ?_
          go_wp2
          go_ret
          exact ⟨_, rfl, by rw [HPUT.out]; exact H7.out.toR.sub (fun q hq => .inr (by have := HSZ.out; have := HG1.out.size; omega)) (fun _ _ _ h => h), HG1.out.step (HG.out.step HG7.out)⟩
        · have hlt : l.length < ca := by omega
          have hk0 : (0 : Int) ≤ (l.length : Int) := by omega
          have hk2 : (l.length : Int) ≤ (ca : Int) := by omega
          have hk3 : (l.length : Int) < (ca : Int) := by omega
          have HTK := Lib.hid (show ∀ w', Grow wr w' → SpotsR S w' _ l from fun w' g => HSL.out.grow (HG1.out.step (HG.out.step g)))
          have HDK := Lib.hid (show ∀ w', Grow wr w' → SpotsR S w' (.slice (some ⟨ba, oa + l.length * 3, none⟩) 0 (ca - l.length)) [] from fun w' _ => ⟨_, _, [], rfl, by simp, by first | (simp; done) | (simp; unfold maxLen; omega), rfl, by simp, by simp⟩)
          have HLT := Lib.hid (show l.length ≤ 65536 by omega)
          have HSZ := Lib.hid HG.out.size
          have HS6 := Lib.hid (show ∀ w', Grow wr w' → RefC w' w.heap.size s from fun w' g => HBX.out w' (HG.out.step g))
          have HW6 := Lib.hid (show w.heap.size < wr.heap.size from (HBX.out wr HG.out).1)
          go_wp2_with fail
          go_region
          go_wp2_with fail
          go_region
          go_wp2_with fail
          refine wp_region_noPanic ?_
          refine wp_region_held_drew (S := fun w' => RefC w' w.heap.size s) (by kernel_rfl) ?_ (fun hHeld => ?_)
          · exact HS6.out _ (by repeat first | exact Grow.rfl' _ | exact HGb.out | exact HGa.out | apply Grow.drewd | apply Grow.allocd)
          refine' wpAnyH_take (i := 1) (oi := ?o73) (v := _) (by simp only [List.getElem?_toArray, List.getElem?_cons_succ, List.getElem?_cons_zero]; rfl) (by kernel_rfl) (by kernel_rfl) (by kernel_rfl) (fun _ _ _ h => h) (Or.inl ⟨by rfl, ?y73⟩) (by assumption) ?r73
          case y73 =>
            intro wS hSw
            try dsimp only at hSw
            go_simp
            all_goals with_reducible rfl
          simp only [Act.put, List.setIfInBounds_toArray, List.set_cons_zero, List.set_cons_succ]
          refine' wpAnyH_take (i := 2) (oi := ?o74) (v := _) (by simp only [List.getElem?_toArray, List.getElem?_cons_succ, List.getElem?_cons_zero]; rfl) (by kernel_rfl) (by kernel_rfl) (by kernel_rfl) (fun _ _ _ h => h) (Or.inl ⟨by rfl, ?y74⟩) (by assumption) ?r74
          case y74 =>
            intro wS hSw
            try dsimp only at hSw
            go_simp
            all_goals with_reducible rfl
          simp only [Act.put, List.setIfInBounds_toArray, List.set_cons_zero, List.set_cons_succ]
          refine' wpAnyH_take (i := 3) (oi := ?o75) (v := _) (by simp only [List.getElem?_toArray, List.getElem?_cons_succ, List.getElem?_cons_zero]; rfl) (by kernel_rfl) (by kernel_rfl) (by kernel_rfl) (fun _ _ _ h => h) (Or.inl ⟨by rfl, ?y75⟩) (by assumption) ?r75
          case y75 =>
            intro wS hSw
            try dsimp only at hSw
            go_simp
            all_goals with_reducible rfl
          simp only [Act.put, List.setIfInBounds_toArray, List.set_cons_zero, List.set_cons_succ]
          refine' wpAnyH_take (i := 5) (oi := ?o76) (v := _) (by simp only [List.getElem?_toArray, List.getElem?_cons_succ, List.getElem?_cons_zero]; rfl) (by kernel_rfl) (by kernel_rfl) (by kernel_rfl) (fun _ _ _ h => h) (Or.inl ⟨by rfl, ?y76⟩) (by assumption) ?r76
          case y76 =>
            intro wS hSw
            try dsimp only at hSw
            go_simp
            all_goals with_reducible rfl
          simp only [Act.put, List.setIfInBounds_toArray, List.set_cons_zero, List.set_cons_succ]
          refine' wpAnyH_take (i := 8) (oi := ?o77) (v := _) (by simp only [List.getElem?_toArray, List.getElem?_cons_succ, List.getElem?_cons_zero]; rfl) (by kernel_rfl) (by kernel_rfl) (by kernel_rfl) (fun _ _ _ h => h) (Or.inl ⟨by rfl, ?y77⟩) (by assumption) ?r77
          case y77 =>
            intro wS hSw
            try dsimp only at hSw
            go_simp
            all_goals with_reducible rfl
          simp only [Act.put, List.setIfInBounds_toArray, List.set_cons_zero, List.set_cons_succ]
          refine' wpAnyH_take (i := 9) (oi := ?o78) (v := _) (by simp only [List.getElem?_toArray, List.getElem?_cons_succ, List.getElem?_cons_zero]; rfl) (by kernel_rfl) (by kernel_rfl) (by kernel_rfl) (fun _ _ _ h => h) (Or.inl ⟨by rfl, ?y78⟩) (by assumption) ?r78
          case y78 =>
            intro wS hSw
            try dsimp only at hSw
            go_simp
            all_goals with_reducible rfl
          simp only [Act.put, List.setIfInBounds_toArray, List.set_cons_zero, List.set_cons_succ]
          refine' wpAnyH_take (i := 10) (oi := ?o79) (v := _) (by simp only [List.getElem?_toArray, List.getElem?_cons_succ, List.getElem?_cons_zero]; rfl) (by kernel_rfl) (by kernel_rfl) (by kernel_rfl) (fun _ _ _ h => h) (Or.inl ⟨by rfl, ?y79⟩) (by assumption) ?r79
          case y79 =>
            intro wS hSw
            try dsimp only at hSw
            go_simp
            all_goals with_reducible rfl
          simp only [Act.put, List.setIfInBounds_toArray, List.set_cons_zero, List.set_cons_succ]
          refine wpAnyH_ready (rs := [0, 6]) (by kernel_rfl) (by simp) ?_
          refine' AllReadyH.cons (o := ?o95) (by simp only [List.getElem?_toArray, List.getElem?_cons_zero]; rfl) (fun K hK => ?s95) ?m95
          rotate_left
          · refine' AllReadyH.cons (o := ?o96) (by simp only [List.getElem?_toArray, List.getElem?_cons_succ, List.getElem?_cons_zero]; rfl) (fun K hK => ?s96) ?m96
            case m96 => exact AllReadyH.nil
            go_simp
            refine hK.out _ _ ?_ (fun hHeld => ?_)
            · exact HS6.out _ (by repeat first | exact Grow.rfl' _ | exact HGb.out | exact HGa.out | apply Grow.drewd | apply Grow.allocd)
            clear hK K
            try simp only [Act.put, List.setIfInBounds_toArray, List.set_cons_zero, List.set_cons_succ]
            refine wpAnyH_ready (rs := [0]) (by kernel_rfl) (by simp) ?_
            refine' AllReadyH.cons (o := ?o90) (by simp only [List.getElem?_toArray, List.getElem?_cons_zero]; rfl) (fun K hK => ?s90) ?m90
            case m90 => exact AllReadyH.nil
            go_simp
            refine hK.out _ _ ?_ (fun hHeld => ?_)
            · exact HS6.out _ (by repeat first | exact Grow.rfl' _ | exact HGb.out | exact HGa.out | apply Grow.drewd | apply Grow.allocd)
            clear hK K
            try simp only [Act.put, List.setIfInBounds_toArray, List.set_cons_zero, List.set_cons_succ]
            refine wpAnyH_ready (rs := [4]) (by kernel_rfl) (by simp) ?_
            refine' AllReadyH.cons (o := ?o91) (by simp only [List.getElem?_toArray, List.getElem?_cons_succ, List.getElem?_cons_zero]; rfl) (fun K hK => ?s91) ?m91
            case m91 => exact AllReadyH.nil
            refine step_append_L rfl (.tmp 34) (.tmp 37) 67 rfl rowRefSpot Tryz.underlying67 wr.heap.size _ (by first | rfl | simp [Act.eval]) _ (by first | rfl | simp [Act.eval]) (l) (HTK.out _ (by repeat first | exact Grow.rfl' _ | exact HGb.out | exact HGa.out | apply Grow.drewd | apply Grow.allocd)) rspotOk (by first | (simp; done) | (simp; omega)) (by have := HLT.out; first | (simp; done) | (simp; unfold maxLen; omega) | (simp [maxLen]; done) | (simp [maxLen]; omega)) (by have := HLT.out; first | (simp; done) | (simp; omega)) ?_
            intro v5 w5 k1 k2
            have H5 := Lib.hid k1; have HK5 := Lib.hid k2; have HGa := Lib.hid (show Grow wr w5 from Grow.step (by repeat first | exact Grow.rfl' _ | exact HGb.out | exact HGa.out | apply Grow.drewd | apply Grow.allocd) k2)
            clear k1 k2
            refine hK.out _ _ ?_ (fun hHeld => ?_)
            · exact HS6.out _ (by repeat first | exact Grow.rfl' _ | exact HGb.out | exact HGa.out | apply Grow.drewd | apply Grow.allocd)
            clear hK K
            try simp only [Act.put, List.setIfInBounds_toArray, List.set_cons_zero, List.set_cons_succ]
            refine wpAnyH_ready (rs := [7]) (by kernel_rfl) (by simp) ?_
            refine' AllReadyH.cons (o := ?o92) (by simp only [List.getElem?_toArray, List.getElem?_cons_succ, List.getElem?_cons_zero]; rfl) (fun K hK => ?s92) ?m92
            case m92 => exact AllReadyH.nil
            refine step_append_R rfl (.tmp 38) (.tmp 40) 67 rfl rowRefSpot Tryz.underlying67 wr.heap.size _ (l) (by first | rfl | simp [Act.eval]) H5.out (s) s.cells rfl rfl (spotCells1 s) _ (by first | rfl | simp [Act.eval]) (rdB ((HK5.out.heapEq (by first | (simp; done) | (simp; omega))).trans (boxAt0 _ _ _))) (by have := HGa.out.size; simp; omega) (by have := HLT.out; first | (simp; done) | (simp; unfold maxLen; omega) | (simp [maxLen]; done) | (simp [maxLen]; omega)) (by have := HLT.out; first | (simp; done) | (simp; omega)) ?_
            intro v6 w6 k1 k2 k3
            have H6 := Lib.hid k1; have HGb := Lib.hid (show Grow wr w6 from Grow.since (by repeat first | exact Grow.rfl' _ | exact HGb.out | exact HGa.out | apply Grow.drewd | apply Grow.allocd) k2 (Nat.le_refl _))
            clear k1 k2 k3
            refine hK.out _ _ ?_ (fun hHeld => ?_)
            · exact HS6.out _ (by repeat first | exact Grow.rfl' _ | exact HGb.out | exact HGa.out | apply Grow.drewd | apply Grow.allocd)
            clear hK K
            try simp only [Act.put, List.setIfInBounds_toArray, List.set_cons_zero, List.set_cons_succ]
            refine wpAnyH_ready (rs := [11]) (by kernel_rfl) (by simp) ?_
            refine' AllReadyH.cons (o := ?o93) (by simp only [List.getElem?_toArray, List.getElem?_cons_succ, List.getElem?_cons_zero]; rfl) (fun K hK => ?s93) ?m93
            case m93 => exact AllReadyH.nil
            refine step_append_M rfl (.tmp 41) (.tmp 44) 67 rfl rowRefSpot Tryz.underlying67 wr.heap.size _ (l ++ [s]) (by first | rfl | simp [Act.eval]) H6.out _ (by first | rfl | (simp [Act.eval]; done) | (simp [Act.eval]; intros; omega)) (([] : List PSpot)) (HDK.out _ HGb.out) rspotOk HGb.out.size (by have := HLT.out; first | (simp; done) | (simp; unfold maxLen; omega) | (simp [maxLen]; done) | (simp [maxLen]; omega)) (by have := HLT.out; first | (simp; done) | (simp; omega)) ?_
            intro v7 w7 k1 k2 k3
            have H7 := Lib.hid k1; have HG7 := Lib.hid (show Grow wr w7 from Grow.since HGb.out k2 (Nat.le_refl _))
            clear k1 k2 k3
            refine hK.out _ _ ?_ (fun hHeld => ?_)
            · exact HS6.out _ HG7.out
            clear hK K
            try simp only [Act.put, List.setIfInBounds_toArray, List.set_cons_zero, List.set_cons_succ]
            refine' wpAnyH_take (i := 12) (oi := ?o94) (v := _) (by simp only [List.getElem?_toArray, List.getElem?_cons_succ, List.getElem?_cons_zero]; rfl) (by kernel_rfl) (by kernel_rfl) (by kernel_rfl) (fun _ _ _ h => h) (Or.inl ⟨by rfl, ?y94⟩) (by assumption) ?r94
            case y94 =>
              intro wS hSw
              try dsimp only at hSw
              go_simp
              all_goals with_reducible rfl
            simp only [Act.put, List.setIfInBounds_toArray, List.set_cons_zero, List.set_cons_succ]
            refine wpAnyH_done (by kernel_rfl) ?_ _
            refine NoPanic.normal ?_
            go_wp2
            go_ret
            exact ⟨_, rfl, by rw [HPUT.out]; exact H7.out.toR.sub (fun q hq => .inr (by have := HSZ.out; have := HG1.out.size; omega)) (fun _ _ _ h => h), HG1.out.step (HG.out.step HG7.out)⟩
          go_simp
          refine hK.out _ _ ?_ (fun hHeld => ?_)
          · exact HS6.out _ (by repeat first | exact Grow.rfl' _ | exact HGb.out | exact HGa.out | apply Grow.drewd | apply Grow.allocd)
          clear hK K
          try simp only [Act.put, List.setIfInBounds_toArray, List.set_cons_zero, List.set_cons_succ]
          refine wpAnyH_ready (rs := [4, 6]) (by kernel_rfl) (by simp) ?_
          refine' AllReadyH.cons (o := ?o88) (by simp only [List.getElem?_toArray, List.getElem?_cons_succ, List.getElem?_cons_zero]; rfl) (fun K hK => ?s88) ?m88
          rotate_left
          · refine' AllReadyH.cons (o := ?o89) (by simp only [List.getElem?_toArray, List.getElem?_cons_succ, List.getElem?_cons_zero]; rfl) (fun K hK => ?s89) ?m89
            case m89 => exact AllReadyH.nil
            go_simp
            refine hK.out _ _ ?_ (fun hHeld => ?_)
            · exact HS6.out _ (by repeat first | exact Grow.rfl' _ | exact HGb.out | exact HGa.out | apply Grow.drewd | apply Grow.allocd)
            clear hK K
            try simp only [Act.put, List.setIfInBounds_toArray, List.set_cons_zero, List.set_cons_succ]
            refine wpAnyH_ready (rs := [4]) (by kernel_rfl) (by simp) ?_
            refine' AllReadyH.cons (o := ?o84) (by simp only [List.getElem?_toArray, List.getElem?_cons_succ, List.getElem?_cons_zero]; rfl) (fun K hK => ?s84) ?m84
            case m84 => exact AllReadyH.nil
            refine step_append_L rfl (.tmp 34) (.tmp 37) 67 rfl rowRefSpot Tryz.underlying67 wr.heap.size _ (by first | rfl | simp [Act.eval]) _ (by first | rfl | simp [Act.eval]) (l) (HTK.out _ (by repeat first | exact Grow.rfl' _ | exact HGb.out | exact HGa.out | apply Grow.drewd | apply Grow.allocd)) rspotOk (by first | (simp; done) | (simp; omega)) (by have := HLT.out; first | (simp; done) | (simp; unfold maxLen; omega) | (simp [maxLen]; done) | (simp [maxLen]; omega)) (by have := HLT.out; first | (simp; done) | (simp; omega)) ?_
            intro v5 w5 k1 k2
            have H5 := Lib.hid k1; have HK5 := Lib.hid k2; have HGa := Lib.hid (show Grow wr w5 from Grow.step (by repeat first | exact Grow.rfl' _ | exact HGb.out | exact HGa.out | apply Grow.drewd | apply Grow.allocd) k2)
            clear k1 k2
            refine hK.out _ _ ?_ (fun hHeld => ?_)
            · exact HS6.out _ (by repeat first | exact Grow.rfl' _ | exact HGb.out | exact HGa.out | apply Grow.drewd | apply Grow.allocd)
            clear hK K
            try simp only [Act.put, List.setIfInBounds_toArray, List.set_cons_zero, List.set_cons_succ]
            refine wpAnyH_ready (rs := [7]) (by kernel_rfl) (by simp) ?_
            refine' AllReadyH.cons (o := ?o85) (by simp only [List.getElem?_toArray, List.getElem?_cons_succ, List.getElem?_cons_zero]; rfl) (fun K hK => ?s85) ?m85
            case m85 => exact AllReadyH.nil
            refine step_append_R rfl (.tmp 38) (.tmp 40) 67 rfl rowRefSpot Tryz.underlying67 wr.heap.size _ (l) (by first | rfl | simp [Act.eval]) H5.out (s) s.cells rfl rfl (spotCells1 s) _ (by first | rfl | simp [Act.eval]) (rdB ((HK5.out.heapEq (by first | (simp; done) | (simp; omega))).trans (boxAt1 _ _ _))) (by have := HGa.out.size; simp; omega) (by have := HLT.out; first | (simp; done) | (simp; unfold maxLen; omega) | (simp [maxLen]; done) | (simp [maxLen]; omega)) (by have := HLT.out; first | (simp; done) | (simp; omega)) ?_
            intro v6 w6 k1 k2 k3
            have H6 := Lib.hid k1; have HGb := Lib.hid (show Grow wr w6 from Grow.since (by repeat first | exact Grow.rfl' _ | exact HGb.out | exact HGa.out | apply Grow.drewd | apply Grow.allocd) k2 (Nat.le_refl _))
            clear k1 k2 k3
            refine hK.out _ _ ?_ (fun hHeld => ?_)
            · exact HS6.out _ (by repeat first | exact Grow.rfl' _ | exact HGb.out | exact HGa.out | apply Grow.drewd | apply Grow.allocd)
            clear hK K
            try simp only [Act.put, List.setIfInBounds_toArray, List.set_cons_zero, List.set_cons_succ]
            refine wpAnyH_ready (rs := [11]) (by kernel_rfl) (by simp) ?_
            refine' AllReadyH.cons (o := ?o86) (by simp only [List.getElem?_toArray, List.getElem?_cons_succ, List.getElem?_cons_zero]; rfl) (fun K hK => ?s86) ?m86
            case m86 => exact AllReadyH.nil
            refine step_append_M rfl (.tmp 41) (.tmp 44) 67 rfl rowRefSpot Tryz.underlying67 wr.heap.size _ (l ++ [s]) (by first | rfl | simp [Act.eval]) H6.out _ (by first | rfl | (simp [Act.eval]; done) | (simp [Act.eval]; intros; omega)) (([] : List PSpot)) (HDK.out _ HGb.out) rspotOk HGb.out.size (by have := HLT.out; first | (simp; done) | (simp; unfold maxLen; omega) | (simp [maxLen]; done) | (simp [maxLen]; omega)) (by have := HLT.out; first | (simp; done) | (simp; omega)) ?_
            intro v7 w7 k1 k2 k3
            have H7 := Lib.hid k1; have HG7 := Lib.hid (show Grow wr w7 from Grow.since HGb.out k2 (Nat.le_refl _))
            clear k1 k2 k3
            refine hK.out _ _ ?_ (fun hHeld => ?_)
            · exact HS6.out _ HG7.out
            clear hK K
            try simp only [Act.put, List.setIfInBounds_toArray, List.set_cons_zero, List.set_cons_succ]
            refine' wpAnyH_take (i := 12) (oi := ?o87) (v := _) (by simp only [List.getElem?_toArray, List.getElem?_cons_succ, List.getElem?_cons_zero]; rfl) (by kernel_rfl) (by kernel_rfl) (by kernel_rfl) (fun _ _ _ h => h) (Or.inl ⟨by rfl, ?y87⟩) (by assumption) ?r87
            case y87 =>
              intro wS hSw
              try dsimp only at hSw
              go_simp
              all_goals with_reducible rfl
            simp only [Act.put, List.setIfInBounds_toArray, List.set_cons_zero, List.set_cons_succ]
            refine wpAnyH_done (by kernel_rfl) ?_ _
            refine NoPanic.normal ?_
            go_wp2
            go_ret
            exact ⟨_, rfl, by rw [HPUT.out]; exact H7.out.toR.sub (fun q hq => .inr (by have := HSZ.out; have := HG1.out.size; omega)) (fun _ _ _ h => h), HG1.out.step (HG.out.step HG7.out)⟩
          refine step_append_L rfl (.tmp 34) (.tmp 37) 67 rfl rowRefSpot Tryz.underlying67 wr.heap.size _ (by first | rfl | simp [Act.eval]) _ (by first | rfl | simp [Act.eval]) (l) (HTK.out _ (by repeat first | exact Grow.rfl' _ | exact HGb.out | exact HGa.out | apply Grow.drewd | apply Grow.allocd)) rspotOk (by first | (simp; done) | (simp; omega)) (by have := HLT.out; first | (simp; done) | (simp; unfold maxLen; omega) | (simp [maxLen]; done) | (simp [maxLen]; omega)) (by have := HLT.out; first | (simp; done) | (simp; omega)) ?_
          intro v5 w5 k1 k2
          have H5 := Lib.hid k1; have HK5 := Lib.hid k2; have HGa := Lib.hid (show Grow wr w5 from Grow.step (by repeat first | exact Grow.rfl' _ | exact HGb.out | exact HGa.out | apply Grow.drewd | apply Grow.allocd) k2)
          clear k1 k2
          refine hK.out _ _ ?_ (fun hHeld => ?_)
          · exact HS6.out _ (by repeat first | exact Grow.rfl' _ | exact HGb.out | exact HGa.out | apply Grow.drewd | apply Grow.allocd)
          clear hK K
          try simp only [Act.put, List.setIfInBounds_toArray, List.set_cons_zero, List.set_cons_succ]
          refine wpAnyH_ready (rs := [6]) (by kernel_rfl) (by simp) ?_
          refine' AllReadyH.cons (o := ?o80) (by simp only [List.getElem?_toArray, List.getElem?_cons_succ, List.getElem?_cons_zero]; rfl) (fun K hK => ?s80) ?m80
          case m80 => exact AllReadyH.nil
          go_simp
          refine hK.out _ _ ?_ (fun hHeld => ?_)
          · exact HS6.out _ (by repeat first | exact Grow.rfl' _ | exact HGb.out | exact HGa.out | apply Grow.drewd | apply Grow.allocd)
          clear hK K
          try simp only [Act.put, List.setIfInBounds_toArray, List.set_cons_zero, List.set_cons_succ]
          refine wpAnyH_ready (rs := [7]) (by kernel_rfl) (by simp) ?_
          refine' AllReadyH.cons (o := ?o81) (by simp only [List.getElem?_toArray, List.getElem?_cons_succ, List.getElem?_cons_zero]; rfl) (fun K hK => ?s81) ?m81
          case m81 => exact AllReadyH.nil
          refine step_append_R rfl (.tmp 38) (.tmp 40) 67 rfl rowRefSpot Tryz.underlying67 wr.heap.size _ (l) (by first | rfl | simp [Act.eval]) (H5.out.grow ((Grow.rfl' _).allocd _)) (s) s.cells rfl rfl (spotCells1 s) _ (by first | rfl | simp [Act.eval]) (rdK _ _ _ 3 rfl rfl) (by have := HGa.out.size; simp; omega) (by have := HLT.out; first | (simp; done) | (simp; unfold maxLen; omega) | (simp [maxLen]; done) | (simp [maxLen]; omega)) (by have := HLT.out; first | (simp; done) | (simp; omega)) ?_
          intro v6 w6 k1 k2 k3
          have H6 := Lib.hid k1; have HGb := Lib.hid (show Grow wr w6 from Grow.since (by repeat first | exact Grow.rfl' _ | exact HGb.out | exact HGa.out | apply Grow.drewd | apply Grow.allocd) k2 (Nat.le_refl _))
          clear k1 k2 k3
          refine hK.out _ _ ?_ (fun hHeld => ?_)
          · exact HS6.out _ (by repeat first | exact Grow.rfl' _ | exact HGb.out | exact HGa.out | apply Grow.drewd | apply Grow.allocd)
          clear hK K
          try simp only [Act.put, List.setIfInBounds_toArray, List.set_cons_zero, List.set_cons_succ]
          refine wpAnyH_ready (rs := [11]) (by kernel_rfl) (by simp) ?_
          refine' AllReadyH.cons (o := ?o82) (by simp only [List.getElem?_toArray, List.getElem?_cons_succ, List.getElem?_cons_zero]; rfl) (fun K hK => ?s82) ?m82
          case m82 => exact AllReadyH.nil
          refine step_append_M rfl (.tmp 41) (.tmp 44) 67 rfl rowRefSpot Tryz.underlying67 wr.heap.size _ (l ++ [s]) (by first | rfl | simp [Act.eval]) H6.out _ (by first | rfl | (simp [Act.eval]; done) | (simp [Act.eval]; intros; omega)) (([] : List PSpot)) (HDK.out _ HGb.out) rspotOk HGb.out.size (by have := HLT.out; first | (simp; done) | (simp; unfold maxLen; omega) | (simp [maxLen]; done) | (simp [maxLen]; omega)) (by have := HLT.out; first | (simp; done) | (simp; omega)) ?_
          intro v7 w7 k1 k2 k3
          have H7 := Lib.hid k1; have HG7 := Lib.hid (show Grow wr w7 from Grow.since HGb.out k2 (Nat.le_refl _))
          clear k1 k2 k3
          refine hK.out _ _ ?_ (fun hHeld => ?_)
          · exact HS6.out _ HG7.out
          clear hK K
          try simp only [Act.put, List.setIfInBounds_toArray, List.set_cons_zero, List.set_cons_succ]
          refine' wpAnyH_take (i := 12) (oi := ?o83) (v := _) (by simp only [List.getElem?_toArray, List.getElem?_cons_succ, List.getElem?_cons_zero]; rfl) (by kernel_rfl) (by kernel_rfl) (by kernel_rfl) (fun _ _ _ h => h) (Or.inl ⟨by rfl, ?y83⟩) (by assumption) ?r83
          case y83 =>
            intro wS hSw
            try dsimp only at hSw
            go_simp
            all_goals with_reducible rfl
          simp only [Act.put, List.setIfInBounds_toArray, List.set_cons_zero, List.set_cons_succ]
          refine wpAnyH_done (by kernel_rfl) ?_ _
          refine NoPanic.normal ?_
          go_wp2
          go_ret
          exact ⟨_, rfl, by rw [HPUT.out]; exact H7.out.toR.sub (fun q hq => .inr (by have := HSZ.out; have := HG1.out.size; omega)) (fun _ _ _ h => h), HG1.out.step (HG.out.step HG7.out)⟩
end Go.Hg
