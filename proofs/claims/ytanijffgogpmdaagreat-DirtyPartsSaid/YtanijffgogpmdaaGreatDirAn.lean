/- A law's row: numbers, texts, pairs of numbers, opened; law20.DirtyKeeps: true; the loop of changes; law20.DirtyParts: true. Conditions: those that each theorem names. -/
import Derived.WalkKit
import Derived.WalkSpells
import Derived.WalkLawsBesides
import Derived.Lib.Hide
import Derived.BigQuiet
import Derived.Deep.LoopGhost
import Derived.Test.YtanijffgogpmdaaGreatRows
import Derived.Lib.SliceRun
import Derived.WideMake
import Derived.Deep.RegionLaw
import Derived.Lib.Overlaps
import Derived.Deep.RegionHeld3
import Derived.Laws.ResultCell
import Derived.Laws.EntriesVeiled
import Derived.Maps.OwnOps
import Derived.Maps.OwnSet
import Derived.Carry
import Derived.Lib.SlKeysI
import Derived.Maps.RangeWalk
import Derived.Lib.SlMapFilter
import Derived.Deep.DeepCutAuto
import Derived.Shelf.SlIterI.Nil
import Derived.Shelf.SortM.Plain
import Derived.Shelf.SortM.SortNone
import Derived.Shelf.SlMaps.DeleteFunc
import Derived.Shelf.SlSortCmp.WholeK
import Derived.Shelf.SlIterI.Collect
import Derived.RangeFuncBox
import Derived.RangeFuncLeaves
import Derived.RangeFuncWrites
import Derived.Maps.AppendAt
import Derived.Deep.CutBlock
import Derived.BigRegion
import Derived.RowKit
import Derived.ReadAgain
import Derived.ChangeOld
import Derived.Deep.Slices
import Derived.OpenShut
import Derived.Test.YtanijffgogpmdaaGreatDirN
import Derived.Test.YtanijffgogpmdaaGreatDirO
import Derived.Test.YtanijffgogpmdaaGreatDirP
import Derived.Test.YtanijffgogpmdaaGreatDirQ
import Derived.Test.YtanijffgogpmdaaGreatDirR
import Derived.Test.YtanijffgogpmdaaGreatDirS
import Derived.Test.YtanijffgogpmdaaGreatDirU
import Derived.Test.YtanijffgogpmdaaGreatDirX
import Derived.Test.YtanijffgogpmdaaGreatDirAb
import Derived.Test.YtanijffgogpmdaaGreatDirAc
import Derived.Test.YtanijffgogpmdaaGreatDirAe
namespace Go.Hg
open Go.RowKit Go.ChangeShapes Go.WideShapes Go.Deep Go.Proofs

def In64' (x : Int) : Prop := -9223372036854775808 ≤ x ∧ x ≤ 9223372036854775807
section
variable {H : Type} {enc : TypeId × Value → H} {W : World} {base : Nat} {sp : Nat → Bool} {held : Bool}
set_option maxRecDepth 100000 in
theorem openInt {v : Value} {d : DataW H} {ps : List MemPlace} {r : Reach} {b0 : Nat} (hval : Value.okWide Tryz.prog W r b0 3 v) (h : DataW.Trod enc Tryz.prog W base sp held 3 v d ps) : ∃ x : Int, In64' x ∧ v = .int .i64 x := by
  obtain ⟨m, rfl⟩ := okWide_int Tryz.underlying3 hval
  obtain ⟨n, hn⟩ := h
  obtain ⟨k, e, -, hw⟩ := DataW.trod_int Tryz.underlying3 hn
  have hb := bounds_i64 hw
  have e2 : m = k := by
    have e' : [Value.int .i64 m] = [Value.int .i64 k] := e
    simpa using e'
  exact ⟨m, e2 ▸ hb, rfl⟩
end
end Go.Hg

namespace Go.Hg
open Go.RowKit Go.Proofs

theorem keepModN (k : Int) (n : Nat) (hn : 1 ≤ n) (hn2 : n ≤ 4096) (w : World) : Calls Tryz.prog 47 #[.int .i64 k, .int .i64 n] w fun e w' => (∃ m : Nat, m < n ∧ e = .returned (.int .i64 m)) ∧ w = w' := by
  have h1 : k.tmod n < n := Int.tmod_lt_of_pos k (show (0 : Int) < n by omega)
  have h2 : -(n : Int) < k.tmod n := by
    rcases Int.le_total 0 k with h | h
    · have := Int.tmod_nonneg (n : Int) h; omega
    · have h3 := Int.tmod_lt_of_pos (-k) (show (0 : Int) < n by omega)
      rw [Int.neg_tmod] at h3; omega
  have h3 : IntKind.i64.wrap (k.tmod n + n) = k.tmod n + n := by rw [IntKind.wrap_i64] <;> omega
  have HM := Lib.hid (show 0 ≤ (k.tmod n + n) % n ∧ (k.tmod n + n) % n < n from ⟨Int.emod_nonneg _ (by omega), Int.emod_lt_of_pos _ (by omega)⟩)
  have hb : decide ((n : Int) < 1) = false := by simp; omega
  have hz : ((n : Int) == 0) = false := by simp; omega
  have hz2 : (n == 0) = false := by simp; omega
  go_enter Tryz.func47, Tryz.ntmps47
  go_wp2
  go_ret
  refine ⟨⟨((k.tmod n + n) % n).toNat, by have := HM.out; omega, ?_⟩, rfl⟩
  rw [Int.toNat_of_nonneg HM.out.1]
  rfl

end Go.Hg

namespace Go.Hg
open Go.RowKit Go.Proofs

theorem nodup_len {α : Type} [DecidableEq α] : ∀ {l m : List α}, l.Nodup → (∀ x ∈ l, x ∈ m) → l.length ≤ m.length
  | [], _, _, _ => Nat.zero_le _
  | a :: t, m, hn, hs => by
    rw [List.nodup_cons] at hn
    have h1 : ∀ x ∈ t, x ∈ m.erase a := fun x hx => (List.mem_erase_of_ne (fun e => hn.1 (by rw [← e]; exact hx))).2 (hs x (.tail _ hx))
    have h2 := nodup_len hn.2 h1
    have h3 := List.length_erase_of_mem (hs a (.head _))
    have h4 := List.length_pos_of_mem (hs a (.head _))
    simp only [List.length_cons]
    omega

theorem spLen {L S : List PSpot} (h : SpSet L S) : L.length ≤ S.length := by
  have hn : L.Nodup := h.1.imp (fun {a b} hab e => by subst e; rw [ltSp_irrefl] at hab; cases hab)
  exact nodup_len hn (fun x hx => (h.2 x).1 hx)

set_option maxRecDepth 100000 in
set_option maxHeartbeats 16000000 in
theorem law20Parts (T1 T2 : Nat → Prop) (v1 v2 : Value) (l1 l2 : List POp) (at_ : Int) (w : World) (hl1 : OpsR T1 w v1 l1) (hl2 : OpsR T2 w v2 l2) :
    Calls Tryz.prog 10 #[v1, v2, .int .i64 at_] w fun e w' => e = .returned (.bool true) ∧ Grow w w' := by
  have HL1 := Lib.hid hl1; have HL2 := Lib.hid hl2
  have HW0 := Lib.hid (Grow.rfl' w)
  obtain ⟨_, _, rfl, -, -, -⟩ := SlR.open hl1
  obtain ⟨aL, cL, rfl, hLc, hLm, hA2⟩ := SlR.open hl2
  unfold maxLen at hLm
  have HA2 := Lib.hid hA2
  clear hl1 hl2 hA2
  go_enter Tryz.func10, Tryz.ntmps10
  go_wp2_with fail
  refine (lawMade T1 _ l1 _ (HL1.out.growS HW0.out)).mono ?_
  intro e w2 h2
  rcases h2 with ⟨-, rfl, g2⟩ | ⟨-, B1, B2, rfl, hpr⟩
  · have HG2 := Lib.hid (Grow.step HW0.out g2)
    clear g2
    go_wp2_with fail
    refine (law20Wakes w2).mono ?_
    rintro e w3 ⟨rfl, gz⟩
    have HGZ := Lib.hid (HG2.out.step gz)
    clear gz
    go_wp2
    go_ret
    exact ⟨rfl, HGZ.out⟩
  have hmo := madeOk l1
  generalize madeG l1 = G at *
  have HMO := Lib.hid hmo
  obtain ⟨S1, S2, hok1, hok2, -, hs1, hs2, g2⟩ := hpr
  have HOK1 := Lib.hid hok1; have HOK2 := Lib.hid hok2
  have HG2 := Lib.hid (Grow.step HW0.out g2)
  have HSB := Lib.hid (show ∀ b, S1 b → w.heap.size ≤ b from fun b hb => Nat.le_trans (show Grow w _ from HW0.out).size (hs1 b hb).1)
  have HS1B := Lib.hid (show ∀ b, S1 b → b < w2.heap.size from fun b hb => (hs1 b hb).2)
  clear hmo hok1 hok2 hs1 hs2 g2
  go_wp2_with fail
  refine (lawFair _ _ l2 w2 (HL2.out.growS HG2.out)).mono ?_
  rintro e w3 ⟨rfl, g3⟩
  have HG23 := Lib.hid g3; have HG3 := Lib.hid (HG2.out.step g3)
  clear g3
  cases hf : fairOps l2
  · clear hf
    go_wp2_with fail
    refine (law20Wakes w3).mono ?_
    rintro e w4 ⟨rfl, gz⟩
    have HGZ := Lib.hid (HG3.out.step gz)
    clear gz
    go_wp2
    go_ret
    exact ⟨rfl, HGZ.out⟩
  clear hf
  by_cases h60 : 60 < l2.length
  · have hb60 : decide ((60 : Int) < (l2.length : Int)) = true := by simp; omega
    clear h60
    go_wp2_with fail
    refine (law20Wakes w3).mono ?_
    rintro e w4 ⟨rfl, gz⟩
    have HGZ := Lib.hid (HG3.out.step gz)
    clear gz
    go_wp2
    go_ret
    exact ⟨rfl, HGZ.out⟩
  have hb60 : decide ((60 : Int) < (l2.length : Int)) = false := by simp; omega
  have HLEN := Lib.hid (show l2.length ≤ 60 by omega)
  clear h60
  have hsum : IntKind.i64.wrap ((l2.length : Int) + 1) = ((l2.length + 1 : Nat) : Int) := by rw [IntKind.wrap_i64] <;> have := HLEN.out <;> omega
  go_wp2_with fail
  refine (keepModN at_ (l2.length + 1) (by omega) (by have := HLEN.out; omega) w3).mono ?_
  rintro e w4 ⟨⟨k, hk, rfl⟩, rfl⟩
  clear hsum
  have hk0 : (0 : Int) ≤ (k : Int) := by omega
  have hk1 : (k : Int) ≤ (l2.length : Int) := by omega
  have hk2 : (k : Int) ≤ (cL : Int) := by omega
  have HA3 := Lib.hid (show ∀ o1, Grow w (w3.alloc o1) ∧ Grow w3 (w3.alloc o1) from fun o1 => ⟨HG3.out.allocd o1, (Grow.rfl' w3).allocd o1⟩)
  go_wp2_with (at_builtin; go_must (refine wpList_append_L rfl (.tmp 41) (.tmp 42) 22 rfl rowOp Tryz.underlying22 w3.heap.size _ rfl _ rfl l2 (HL2.out.growS (HA3.out _).1) ropOk (by simp) (by have := HLEN.out; unfold maxLen; omega) (by have := HLEN.out; omega) ?_))
  intro v4 w4 hown4 g4
  obtain ⟨_, _, rfl, -, -⟩ := hown4.isSlice
  have HIN4 := Lib.hid hown4.toR
  have HG4 := Lib.hid ((HA3.out _).1.step g4); have HG24 := Lib.hid (HG23.out.step ((HA3.out _).2.step g4))
  clear hown4 g4
  go_wp2_with fail
  refine (dirtySpots S1 _ B1 G _ l2 w4 (HOK1.out.grow HG24.out) HMO.out.1 HIN4.out HLEN.out (by have := HMO.out.2.2.2; omega)).mono ?_
  rintro e w5 ⟨v5, L5, rfl, hS5, hv5, g5⟩
  have HS5 := Lib.hid hS5; have HV55 := Lib.hid hv5
  have HG5 := Lib.hid (HG4.out.step g5); have HG25 := Lib.hid (HG24.out.step g5)
  obtain ⟨_, _, rfl, -, -, -⟩ := SlR.open hv5
  have HA5 := Lib.hid (show ∀ o1, Grow w (w5.alloc o1) ∧ Grow w5 (w5.alloc o1) from fun o1 => ⟨HG5.out.allocd o1, (Grow.rfl' w5).allocd o1⟩)
  have HTK := Lib.hid (show ∀ w', Grow w w' → OpsR T2 w' (.slice aL k cL) (l2.take k) from fun w' g => (HL2.out.growS g).takeS k (by omega))
  clear hS5 hv5 g5
  go_upto_region 6 with fail
  go_cut [1, 10, 12] (fun lv kv cv wx => lv = .slice aL l2.length cL ∧ kv = .int .i64 (k : Int) ∧ ∃ L6, SpSet L6 (spotsG G (l2.take k)) ∧ SpotsR (fun q => w5.heap.size ≤ q) wx cv L6 ∧ Grow w5 wx)
  case first =>
    have HDN0 := Lib.hid (show ∀ (a' : Option Addr) (c' : Nat) (w' : World), c' ≤ 9223372036854775807 → OpsR T2 w' (.slice a' 0 c') [] from fun a' c' w' h => ⟨_, _, [], rfl, by simp, by simpa [maxLen] using h, rfl, by simp, by simp⟩)
    by_cases hl0 : l2 = []
    · have hkz : k = 0 := by rw [hl0] at hk1; simp at hk1; omega
      subst hkz
      have hlz : l2.length = 0 := by rw [hl0]; rfl
      clear hl0
      rcases aL with _ | aL
      · skip
        go_wp2_with (at_builtin; go_must (refine wpList_append_L rfl (.tmp 46) (.tmp 49) 22 rfl rowOp Tryz.underlying22 w5.heap.size _ rfl _ (by first | rfl | (simp [Act.eval]; done) | (simp [Act.eval]; intros; omega)) ([]) (HDN0.out _ _ _ (by omega)) ropOk (by simp) (by have := HLEN.out; first | (simp [maxLen]; done) | (simp; unfold maxLen; omega)) (by have := HLEN.out; first | (simp; done) | (simp; omega)) ?_))
        intro v6 w6 hown6 g6
        obtain ⟨_, _, rfl, -, -⟩ := hown6.isSlice
        have HIN6 := Lib.hid hown6.toR
        have HG56 := Lib.hid ((HA5.out _).2.step g6)
        clear hown6 g6
        go_wp2_with fail
        have hc := dirtySpots S1 _ B1 G _ ([]) w6 (HOK1.out.grow (HG25.out.step HG56.out)) HMO.out.1 HIN6.out (by have := HLEN.out; first | (simp; done) | (simp; omega)) (by have := HMO.out.2.2.2; omega)
        simp only [List.length_nil] at hc
        refine hc.mono ?_
        rintro e w7 ⟨v7, L6, rfl, hS6, hv6, g7⟩
        go_wp2_with fail
        go_meet
        exact ⟨by first | rfl | (simp; done) | (simp; omega) | (simp [*]; done), by first | rfl | (simp; done) | (simp; omega) | (simp [*]; done), L6, by simpa using hS6, hv6.sub (fun b hb => Nat.le_trans HG56.out.size hb) (fun _ _ _ h => h), HG56.out.step g7⟩
      · skip
        go_wp2_with (at_builtin; go_must (refine wpList_append_L rfl (.tmp 46) (.tmp 49) 22 rfl rowOp Tryz.underlying22 w5.heap.size _ rfl _ (by first | rfl | (simp [Act.eval]; done) | (simp [Act.eval]; intros; omega)) ([]) (HDN0.out _ _ _ (by omega)) ropOk (by simp) (by have := HLEN.out; first | (simp [maxLen]; done) | (simp; unfold maxLen; omega)) (by have := HLEN.out; first | (simp; done) | (simp; omega)) ?_))
        intro v6 w6 hown6 g6
        obtain ⟨_, _, rfl, -, -⟩ := hown6.isSlice
        have HIN6 := Lib.hid hown6.toR
        have HG56 := Lib.hid ((HA5.out _).2.step g6)
        clear hown6 g6
        go_wp2_with fail
        have hc := dirtySpots S1 _ B1 G _ ([]) w6 (HOK1.out.grow (HG25.out.step HG56.out)) HMO.out.1 HIN6.out (by have := HLEN.out; first | (simp; done) | (simp; omega)) (by have := HMO.out.2.2.2; omega)
        simp only [List.length_nil] at hc
        refine hc.mono ?_
        rintro e w7 ⟨v7, L6, rfl, hS6, hv6, g7⟩
        go_wp2_with fail
        go_meet
        exact ⟨by first | rfl | (simp; done) | (simp; omega) | (simp [*]; done), by first | rfl | (simp; done) | (simp; omega) | (simp [*]; done), L6, by simpa using hS6, hv6.sub (fun b hb => Nat.le_trans HG56.out.size hb) (fun _ _ _ h => h), HG56.out.step g7⟩
    · have hpos : 0 < l2.length := List.length_pos_iff.2 hl0
      obtain ⟨ba, oa, ra, rfl, -, -, -, -⟩ := HA2.out 0 l2[0] (List.getElem?_eq_getElem hpos)
      clear hl0
      go_wp2_with (at_builtin; go_must (refine wpList_append_L rfl (.tmp 46) (.tmp 49) 22 rfl rowOp Tryz.underlying22 w5.heap.size _ rfl _ (by first | rfl | (simp [Act.eval]; done) | (simp [Act.eval]; intros; omega)) (l2.take k) (HTK.out _ (HA5.out _).1) ropOk (by simp) (by have := HLEN.out; first | (simp [maxLen]; done) | (simp; unfold maxLen; omega)) (by have := HLEN.out; first | (simp; done) | (simp; omega)) ?_))
      intro v6 w6 hown6 g6
      obtain ⟨_, _, rfl, -, -⟩ := hown6.isSlice
      have HIN6 := Lib.hid hown6.toR
      have HG56 := Lib.hid ((HA5.out _).2.step g6)
      clear hown6 g6
      go_wp2_with fail
      have hc := dirtySpots S1 _ B1 G _ (l2.take k) w6 (HOK1.out.grow (HG25.out.step HG56.out)) HMO.out.1 HIN6.out (by have := HLEN.out; first | (simp; done) | (simp; omega)) (by have := HMO.out.2.2.2; omega)
      simp only [List.length_take] at hc
      refine hc.mono ?_
      rintro e w7 ⟨v7, L6, rfl, hS6, hv6, g7⟩
      go_wp2_with fail
      go_meet
      exact ⟨rfl, rfl, L6, hS6, hv6.sub (fun b hb => Nat.le_trans HG56.out.size hb) (fun _ _ _ h => h), HG56.out.step g7⟩
  case rest =>
  obtain ⟨rfl, rfl, L6, hS6, hv6, g57⟩ := hcut
  have HS6 := Lib.hid hS6; have HV6 := Lib.hid hv6
  have HG7 := Lib.hid (HG5.out.step g57); have HG27 := Lib.hid (HG25.out.step g57)
  have HV5 := Lib.hid (HV55.out.growS g57)
  have HSZ6 := Lib.hid (show w2.heap.size ≤ w4.heap.size ∧ w2.heap.size ≤ w5.heap.size from ⟨HG24.out.size, HG25.out.size⟩)
  obtain ⟨_, _, rfl, -, -, -⟩ := SlR.open hv6
  clear hS6 hv6 g57
  obtain ⟨W0, hw0⟩ : ∃ W0, W0 = wc := ⟨_, rfl⟩
  subst hw0
  have HG0 := HG7
  have HGPs := Lib.hid (show GraphP (fun b => S1 b ∨ W0.heap.size ≤ b) W0 B1 (runG G (l2.take 0)) from ⟨S1, HOK1.out.grow HG27.out, fun b hb => .inl hb⟩)
  go_wp2
  go_loopg [13] (k) (fun g iv wr => ∃ j : Nat, j ≤ k ∧ g = k - j ∧ iv = .int .i64 j ∧ GraphP (fun b => S1 b ∨ W0.heap.size ≤ b) wr B1 (runG G (l2.take j)) ∧ Mod (fun b => S1 b ∨ W0.heap.size ≤ b) W0 wr)
  case atStart => exact ⟨0, by omega, by omega, rfl, HGPs.out, Mod.rfl' _ _⟩
  case round =>
    obtain ⟨j, hj, rfl, rfl, hgp, hgr⟩ := hrel
    have HGP := Lib.hid hgp; have HMR := Lib.hid hgr
    clear hgp hgr
    by_cases hjl : j < k
    · have hjl2 : j < l2.length := by omega
      obtain ⟨ba, oa, ra, rfl, -, hba, hRa, hca⟩ := HA2.out j l2[j] (List.getElem?_eq_getElem hjl2)
      have HS := Lib.hid (show ∀ w', Mod (fun b => S1 b ∨ W0.heap.size ≤ b) wr w' → OpC w' ba (oa + j * 10) l2[j] from fun w' g => opcMod (opCells hRa hba HG0.out hca).2 (HMR.out.step g) (Nat.lt_of_lt_of_le hba HG0.out.size) (fun h => h.elim (fun h => by have := HSB.out ba h; omega) (fun h => by have := HG0.out.size; omega)))
      have HRN := Lib.hid (show runG G (l2.take (j + 1)) = stepG (catO l2[j]) l2[j] (runG G (l2.take j)) by rw [List.take_succ_eq_append_getElem hjl2, runG_snoc])
      have HIK := Lib.hid (runG_inv HMO.out.1 (l2.take j))
      have HSW := Lib.hid (show W0.heap.size ≤ wr.heap.size from HMR.out.size)
      have hj0 : (0 : Int) ≤ (j : Int) := by omega
      have hj1 : (j : Int) < (l2.length : Int) := by omega
      have c2 := (HS.out wr (Mod.rfl' _ _)).2.2.1
      have hbal := cell_lt c2
      clear hRa hba hca
      generalize l2[j] = o at *
      generalize runG G (l2.take j) = Gj at *
      obtain ⟨wo, hwo⟩ : ∃ wo, wo = wr := ⟨_, rfl⟩
      subst hwo
      go_wp2_with fail
      go_cut [14] (fun cv wx => CatNew wo o.typ cv wx)
      case first =>
        go_region
        all_goals go_wp2_with fail
        all_goals go_meet
        all_goals first
          | exact catNew (three3 wo _ _ _).1 (three3 wo _ _ _).2.1 (three3 wo _ _ _).2.2 (by omega) (by omega) (by omega) (((((Grow.rfl' _).allocd _).allocd _).allocd _).drewd)
          | exact catNew (three3 wo _ _ _).1 (three3 wo _ _ _).2.2 (three3 wo _ _ _).2.1 (by omega) (by omega) (by omega) (((((Grow.rfl' _).allocd _).allocd _).allocd _).drewd)
          | exact catNew (three3 wo _ _ _).2.1 (three3 wo _ _ _).1 (three3 wo _ _ _).2.2 (by omega) (by omega) (by omega) (((((Grow.rfl' _).allocd _).allocd _).allocd _).drewd)
          | exact catNew (three3 wo _ _ _).2.1 (three3 wo _ _ _).2.2 (three3 wo _ _ _).1 (by omega) (by omega) (by omega) (((((Grow.rfl' _).allocd _).allocd _).allocd _).drewd)
          | exact catNew (three3 wo _ _ _).2.2 (three3 wo _ _ _).1 (three3 wo _ _ _).2.1 (by omega) (by omega) (by omega) (((((Grow.rfl' _).allocd _).allocd _).allocd _).drewd)
          | exact catNew (three3 wo _ _ _).2.2 (three3 wo _ _ _).2.1 (three3 wo _ _ _).1 (by omega) (by omega) (by omega) (((((Grow.rfl' _).allocd _).allocd _).allocd _).drewd)
      case rest =>
        obtain ⟨bc, nv, ev, rfl, hbc, hcat, hcr, hgx⟩ := hcut
        obtain ⟨wx, rfl⟩ : ∃ wx, wx = wc := ⟨_, rfl⟩
        obtain ⟨an, cn, rfl, -, -, -⟩ := SlR.open hcr.1
        obtain ⟨ae, ce, rfl, -, -, -⟩ := SlR.open hcr.2.1
        have HCAT := Lib.hid hcat; have HCR := Lib.hid hcr; have HGX := Lib.hid hgx
        have HD := Lib.hid (show Grow wx wx.drew from (Grow.rfl' wx).drewd)
        have HCC := Lib.hid (show ∀ w', Grow wx w' → CatCell w' bc (.slice an 1 cn) (.slice ae 1 ce) (.slice none 0 0) (.slice none 0 0) ⟨[o.typ], [o.typ], [], [], 0⟩ ∧ OpC w' ba (oa + j * 10) o from fun w' g => ⟨catCellAt HCAT.out g, HS.out w' (Mod.of_grow (HGX.out.step g))⟩)
        clear hcat hcr hgx c2 hbal
        go_wp2_with fail
        go_region_held3 (fun w' => CatCell w' bc (.slice an 1 cn) (.slice ae 1 ce) (.slice none 0 0) (.slice none 0 0) ⟨[o.typ], [o.typ], [], [], 0⟩ ∧ OpC w' ba (oa + j * 10) o) (first | exact HKD.out | exact HCC.out _ HD.out) (first | (go_at_call 22; (refine (doP (fun b => S1 b ∨ W0.heap.size ≤ b) _ B1 Gj _ _ _ _ (catO o) o wo _ HGP.out (HGX.out.step HD.out) (fun b hb => .inr (by have := HSW.out; have := (HGX.out.step HD.out).size; omega)) HIK.out (HCR.out.grow HD.out)).mono ?_); rintro e wd ⟨rfl, hgd, hmd⟩; generalize (if mayG (catO o) o Gj = 0 then idG o Gj else 0) = rid; generalize mayG (catO o) o Gj = rer; have HGD := Lib.hid hgd; have HMD := Lib.hid (HMR.out.step ((Mod.of_grow (HGX.out.step HD.out)).step (hmd.mono (fun b hb => hb.1)))); have HKD := Lib.hid (And.intro (catCellAt ((hmd.block bc (Nat.lt_of_lt_of_le (blk_lt HCAT.out) HD.out.size) (fun h => by have := h.2; omega)).trans ((HD.out.heapEq (blk_lt HCAT.out)).trans HCAT.out)) (Grow.rfl' wd)) (HS.out wd ((Mod.of_grow (HGX.out.step HD.out)).step (hmd.mono (fun b hb => hb.1))))); clear hgd hmd))
        all_goals go_wp2
        all_goals go_roundg (k - (j + 1))
        case measure => omega
        case rel => exact ⟨j + 1, by omega, rfl, by go_num, by rw [HRN.out]; exact HGD.out, HMD.out⟩
    · obtain rfl : k = j := by omega
      have HGW := Lib.hid (show Grow w wr from HG0.out.modd HMR.out (fun b hb => hb.elim (fun h => HSB.out b h) (fun h => Nat.le_trans HG0.out.size h)))
      have HIK := Lib.hid (runG_inv HMO.out.1 (l2.take k))
      have HEK := Lib.hid (show (runG G (l2.take k)).edges.length ≤ 200 by
        have h1 := runG_edges G (l2.take k)
        rw [List.length_take] at h1
        have := HMO.out.2.2.2; have := HLEN.out
        omega)
      have HVA := Lib.hid (SlR.modS HV6.out.cut HMR.out (fun b hb h => h.elim (fun h => by have h1 := HS1B.out b h; have h2 := HSZ6.out; have h3 := hb.1; omega) (fun h => by have h3 := hb.2; omega)))
      have HVL := Lib.hid (SlR.modS HV5.out.cut HMR.out (fun b hb h => h.elim (fun h => by have h1 := HS1B.out b h; have h2 := HSZ6.out; have h3 := hb.1; omega) (fun h => by have h3 := hb.2; omega)))
      have HAr := Lib.hid (show ∀ o1, Grow w (wr.alloc o1) ∧ Grow wr (wr.alloc o1) from fun o1 => ⟨HGW.out.allocd o1, (Grow.rfl' wr).allocd o1⟩)
      have HDN := Lib.hid (show ∀ (a' : Option Addr) (c' : Nat) (w' : World), c' ≤ 9223372036854775807 → OpsR T2 w' (.slice a' 0 c') [] from fun a' c' w' h => ⟨_, _, [], rfl, by simp, by simpa [maxLen] using h, rfl, by simp, by simp⟩)
      obtain ⟨SX, hokx, -⟩ := HGP.out
      have HOKX := Lib.hid hokx
      clear hokx hjl
      go_upto_region 12 with fail
      go_cut [1, 10, 13, 15] (fun lv kv jv cv wx => lv = .slice aL l2.length cL ∧ kv = .int .i64 (k : Int) ∧ jv = .int .i64 (k : Int) ∧ ∃ L9, SpSet L9 (spotsG (runG G (l2.take k)) (l2.drop k)) ∧ SpotsR (fun _ => True) wx cv L9 ∧ Grow w wx ∧ Grow wr wx)
      case rest =>
        obtain ⟨rfl, rfl, rfl, L9, hS9, hv9, g9, gr9⟩ := hcut
        have HS9 := Lib.hid hS9; have HV9 := Lib.hid hv9; have HG9 := Lib.hid g9; have HGr9 := Lib.hid gr9
        obtain ⟨_, _, rfl, -, -, -⟩ := SlR.open hv9
        clear hS9 hv9 g9 gr9
        have HLA := Lib.hid (show L6.length ≤ 20000 ∧ L9.length ≤ 20000 from ⟨by
          have h1 := spLen HS6.out
          have h2 := spotsG_len G (l2.take k) (by have := HMO.out.2.2.2; have := HLEN.out; rw [List.length_take]; omega)
          rw [List.length_take] at h2
          have := HLEN.out; omega, by
          have h1 := spLen HS9.out
          have h2 := spotsG_len (runG G (l2.take k)) (l2.drop k) (by have h3 := runG_edges G (l2.take k); rw [List.length_take] at h3; have := HMO.out.2.2.2; have := HLEN.out; rw [List.length_drop]; omega)
          rw [List.length_drop] at h2
          have := HLEN.out; omega⟩)
        go_wp2_with fail
        refine (dirtyJoin _ _ _ _ L6 L9 wc (HVA.out.growS HGr9.out) HV9.out HLA.out.1 HLA.out.2).mono ?_
        rintro e wa ⟨va, La, rfl, hSa, hva, ga⟩
        obtain rfl : La = L5 := (hSa.congr (fun x => by
          rw [List.mem_append, HS6.out.2 x, HS9.out.2 x, ← List.mem_append, ← spotsG_append, List.take_append_drop])).uniq HS5.out
        have HVa := Lib.hid hva
        have HGa := Lib.hid (HG9.out.step ga); have HGra := Lib.hid (HGr9.out.step ga)
        obtain ⟨_, _, rfl, -, -, -⟩ := SlR.open hva
        clear hSa hva ga
        go_wp2_with fail
        refine (law20Own _ _ La wa (HVL.out.growS HGra.out) (by have h1 := spLen HS5.out; have h2 := spotsG_len G l2 (by have := HMO.out.2.2.2; have := HLEN.out; omega); have := HLEN.out; omega)).mono ?_
        rintro e wb ⟨vb, rfl, hvb, gb⟩
        have HVb := Lib.hid hvb
        have HGb := Lib.hid (HGa.out.step gb); have HVa2 := Lib.hid (HVa.out.growS gb)
        obtain ⟨_, _, rfl, -, -, -⟩ := SlR.open hvb
        clear hvb gb
        go_wp2_with fail
        refine (law20Same _ _ _ _ _ wb HVa2.out HVb.out).mono ?_
        rintro e wc' ⟨rfl, gc⟩
        have HGc := Lib.hid (HGb.out.step gc)
        clear gc
        go_wp2_with fail
        refine (law20Wakes wc').mono ?_
        rintro e wd ⟨rfl, gz⟩
        have HGZ := Lib.hid (HGc.out.step gz)
        clear gz
        go_wp2
        go_ret
        exact ⟨rfl, HGZ.out⟩
      case first =>
       by_cases hl0 : l2 = []
       · have hkz : k = 0 := by rw [hl0] at hk1; simp at hk1; omega
         subst hkz
         have hlz : l2.length = 0 := by rw [hl0]; rfl
         have HNIL := Lib.hid hl0
         clear hl0
         rcases aL with _ | aL
         · by_cases hkc : 0 = cL
           · subst hkc
             go_wp2_with (at_builtin; go_must (refine wpList_append_L rfl (.tmp 78) (.tmp 81) 22 rfl rowOp Tryz.underlying22 wr.heap.size _ rfl _ (by first | rfl | (simp [Act.eval]; done) | (simp [Act.eval]; intros; omega)) ([]) (HDN.out _ _ _ (by omega)) ropOk (by simp) (by have := HLEN.out; first | (simp [maxLen]; done) | (simp; unfold maxLen; omega)) (by have := HLEN.out; first | (simp; done) | (simp; omega)) ?_))
             intro v8 w8 hown8 g8
             obtain ⟨_, _, rfl, -, -⟩ := hown8.isSlice
             have HIN8 := Lib.hid hown8.toR
             have HG8 := Lib.hid ((HAr.out _).1.step g8); have HGr8 := Lib.hid ((HAr.out _).2.step g8)
             clear hown8 g8
             go_wp2_with fail
             have hc := dirtySpots SX _ B1 _ _ ([]) w8 (HOKX.out.grow HGr8.out) HIK.out HIN8.out (by have := HLEN.out; first | (simp; done) | (simp; omega)) HEK.out
             simp only [List.length_nil] at hc
             refine hc.mono ?_
             rintro e w9 ⟨v9, L9, rfl, hS9, hv9, g9⟩
             have HG9 := HG8.out.step g9; have HGr9 := HGr8.out.step g9
             go_wp2_with fail
             go_meet
             exact ⟨by first | rfl | (simp; done) | (simp; omega) | (simp [*]; done), by first | rfl | (simp; done) | (simp; omega) | (simp [*]; done), by first | rfl | (simp; done) | (simp; omega) | (simp [*]; done), L9, by simpa [HNIL.out] using hS9, hv9.sub (fun _ _ => trivial) (fun _ _ _ h => h), HG9, HGr9⟩
           · have hpos : 0 < cL := by omega
             go_wp2_with (at_builtin; go_must (refine wpList_append_L rfl (.tmp 78) (.tmp 81) 22 rfl rowOp Tryz.underlying22 wr.heap.size _ rfl _ (by first | rfl | (simp [Act.eval]; done) | (simp [Act.eval]; intros; omega)) ([]) (HDN.out _ _ _ (by omega)) ropOk (by simp) (by have := HLEN.out; first | (simp [maxLen]; done) | (simp; unfold maxLen; omega)) (by have := HLEN.out; first | (simp; done) | (simp; omega)) ?_))
             intro v8 w8 hown8 g8
             obtain ⟨_, _, rfl, -, -⟩ := hown8.isSlice
             have HIN8 := Lib.hid hown8.toR
             have HG8 := Lib.hid ((HAr.out _).1.step g8); have HGr8 := Lib.hid ((HAr.out _).2.step g8)
             clear hown8 g8
             go_wp2_with fail
             have hc := dirtySpots SX _ B1 _ _ ([]) w8 (HOKX.out.grow HGr8.out) HIK.out HIN8.out (by have := HLEN.out; first | (simp; done) | (simp; omega)) HEK.out
             simp only [List.length_nil] at hc
             refine hc.mono ?_
             rintro e w9 ⟨v9, L9, rfl, hS9, hv9, g9⟩
             have HG9 := HG8.out.step g9; have HGr9 := HGr8.out.step g9
             go_wp2_with fail
             go_meet
             exact ⟨by first | rfl | (simp; done) | (simp; omega) | (simp [*]; done), by first | rfl | (simp; done) | (simp; omega) | (simp [*]; done), by first | rfl | (simp; done) | (simp; omega) | (simp [*]; done), L9, by simpa [HNIL.out] using hS9, hv9.sub (fun _ _ => trivial) (fun _ _ _ h => h), HG9, HGr9⟩
         · by_cases hkc : 0 = cL
           · subst hkc
             go_wp2_with (at_builtin; go_must (refine wpList_append_L rfl (.tmp 78) (.tmp 81) 22 rfl rowOp Tryz.underlying22 wr.heap.size _ rfl _ (by first | rfl | (simp [Act.eval]; done) | (simp [Act.eval]; intros; omega)) ([]) (HDN.out _ _ _ (by omega)) ropOk (by simp) (by have := HLEN.out; first | (simp [maxLen]; done) | (simp; unfold maxLen; omega)) (by have := HLEN.out; first | (simp; done) | (simp; omega)) ?_))
             intro v8 w8 hown8 g8
             obtain ⟨_, _, rfl, -, -⟩ := hown8.isSlice
             have HIN8 := Lib.hid hown8.toR
             have HG8 := Lib.hid ((HAr.out _).1.step g8); have HGr8 := Lib.hid ((HAr.out _).2.step g8)
             clear hown8 g8
             go_wp2_with fail
             have hc := dirtySpots SX _ B1 _ _ ([]) w8 (HOKX.out.grow HGr8.out) HIK.out HIN8.out (by have := HLEN.out; first | (simp; done) | (simp; omega)) HEK.out
             simp only [List.length_nil] at hc
             refine hc.mono ?_
             rintro e w9 ⟨v9, L9, rfl, hS9, hv9, g9⟩
             have HG9 := HG8.out.step g9; have HGr9 := HGr8.out.step g9
             go_wp2_with fail
             go_meet
             exact ⟨by first | rfl | (simp; done) | (simp; omega) | (simp [*]; done), by first | rfl | (simp; done) | (simp; omega) | (simp [*]; done), by first | rfl | (simp; done) | (simp; omega) | (simp [*]; done), L9, by simpa [HNIL.out] using hS9, hv9.sub (fun _ _ => trivial) (fun _ _ _ h => h), HG9, HGr9⟩
           · have hpos : 0 < cL := by omega
             go_wp2_with (at_builtin; go_must (refine wpList_append_L rfl (.tmp 78) (.tmp 81) 22 rfl rowOp Tryz.underlying22 wr.heap.size _ rfl _ (by first | rfl | (simp [Act.eval]; done) | (simp [Act.eval]; intros; omega)) ([]) (HDN.out _ _ _ (by omega)) ropOk (by simp) (by have := HLEN.out; first | (simp [maxLen]; done) | (simp; unfold maxLen; omega)) (by have := HLEN.out; first | (simp; done) | (simp; omega)) ?_))
             intro v8 w8 hown8 g8
             obtain ⟨_, _, rfl, -, -⟩ := hown8.isSlice
             have HIN8 := Lib.hid hown8.toR
             have HG8 := Lib.hid ((HAr.out _).1.step g8); have HGr8 := Lib.hid ((HAr.out _).2.step g8)
             clear hown8 g8
             go_wp2_with fail
             have hc := dirtySpots SX _ B1 _ _ ([]) w8 (HOKX.out.grow HGr8.out) HIK.out HIN8.out (by have := HLEN.out; first | (simp; done) | (simp; omega)) HEK.out
             simp only [List.length_nil] at hc
             refine hc.mono ?_
             rintro e w9 ⟨v9, L9, rfl, hS9, hv9, g9⟩
             have HG9 := HG8.out.step g9; have HGr9 := HGr8.out.step g9
             go_wp2_with fail
             go_meet
             exact ⟨by first | rfl | (simp; done) | (simp; omega) | (simp [*]; done), by first | rfl | (simp; done) | (simp; omega) | (simp [*]; done), by first | rfl | (simp; done) | (simp; omega) | (simp [*]; done), L9, by simpa [HNIL.out] using hS9, hv9.sub (fun _ _ => trivial) (fun _ _ _ h => h), HG9, HGr9⟩
       · have hpos : 0 < l2.length := List.length_pos_iff.2 hl0
         obtain ⟨ba, oa, ra, rfl, -, -, -, -⟩ := HA2.out 0 l2[0] (List.getElem?_eq_getElem hpos)
         by_cases hkc : k = cL
         · have hkl : k = l2.length := by omega
           have HDK := Lib.hid (show l2.drop k = [] from by rw [List.drop_eq_nil_of_le]; omega)
           subst hkc
           clear hl0
           go_wp2_with (at_builtin; go_must (refine wpList_append_L rfl (.tmp 78) (.tmp 81) 22 rfl rowOp Tryz.underlying22 wr.heap.size _ rfl _ (by first | rfl | (simp [Act.eval]; done) | (simp [Act.eval]; intros; omega)) ([]) (HDN.out _ _ _ (by omega)) ropOk (by simp) (by have := HLEN.out; first | (simp [maxLen]; done) | (simp; unfold maxLen; omega)) (by have := HLEN.out; first | (simp; done) | (simp; omega)) ?_))
           intro v8 w8 hown8 g8
           obtain ⟨_, _, rfl, -, -⟩ := hown8.isSlice
           have HIN8 := Lib.hid hown8.toR
           have HG8 := Lib.hid ((HAr.out _).1.step g8); have HGr8 := Lib.hid ((HAr.out _).2.step g8)
           clear hown8 g8
           go_wp2_with fail
           have hc := dirtySpots SX _ B1 _ _ ([]) w8 (HOKX.out.grow HGr8.out) HIK.out HIN8.out (by have := HLEN.out; first | (simp; done) | (simp; omega)) HEK.out
           simp only [List.length_nil] at hc
           refine hc.mono ?_
           rintro e w9 ⟨v9, L9, rfl, hS9, hv9, g9⟩
           have HG9 := HG8.out.step g9; have HGr9 := HGr8.out.step g9
           go_wp2_with fail
           go_meet
           exact ⟨by first | rfl | (simp; done) | (simp; omega) | (simp [*]; done), by first | rfl | (simp; done) | (simp; omega) | (simp [*]; done), by first | rfl | (simp; done) | (simp; omega) | (simp [*]; done), L9, by rw [HDK.out]; exact hS9, hv9.sub (fun _ _ => trivial) (fun _ _ _ h => h), HG9, HGr9⟩
         · have hk3 : (k : Int) < (cL : Int) := by omega
           have HDR := Lib.hid (show ∀ w', Grow w w' → OpsR T2 w' (.slice (some ⟨ba, oa + k * 10, none⟩) (l2.length - k) (cL - k)) (l2.drop k) from fun w' g => (HL2.out.growS g).dropS k (by omega))
           clear hl0
           go_wp2_with (at_builtin; go_must (refine wpList_append_L rfl (.tmp 78) (.tmp 81) 22 rfl rowOp Tryz.underlying22 wr.heap.size _ rfl _ (by first | rfl | (simp [Act.eval]; done) | (simp [Act.eval]; intros; omega)) (l2.drop k) (HDR.out _ (HAr.out _).1) ropOk (by simp) (by have := HLEN.out; first | (simp [maxLen]; done) | (simp; unfold maxLen; omega)) (by have := HLEN.out; first | (simp; done) | (simp; omega)) ?_))
           intro v8 w8 hown8 g8
           obtain ⟨_, _, rfl, -, -⟩ := hown8.isSlice
           have HIN8 := Lib.hid hown8.toR
           have HG8 := Lib.hid ((HAr.out _).1.step g8); have HGr8 := Lib.hid ((HAr.out _).2.step g8)
           clear hown8 g8
           go_wp2_with fail
           have hc := dirtySpots SX _ B1 _ _ (l2.drop k) w8 (HOKX.out.grow HGr8.out) HIK.out HIN8.out (by have := HLEN.out; first | (simp; done) | (simp; omega)) HEK.out
           simp only [List.length_drop] at hc
           refine hc.mono ?_
           rintro e w9 ⟨v9, L9, rfl, hS9, hv9, g9⟩
           have HG9 := HG8.out.step g9; have HGr9 := HGr8.out.step g9
           go_wp2_with fail
           go_meet
           exact ⟨by first | rfl | (simp; done) | (simp; omega) | (simp [*]; done), by first | rfl | (simp; done) | (simp; omega) | (simp [*]; done), by first | rfl | (simp; done) | (simp; omega) | (simp [*]; done), L9, hS9, hv9.sub (fun _ _ => trivial) (fun _ _ _ h => h), HG9, HGr9⟩
end Go.Hg
