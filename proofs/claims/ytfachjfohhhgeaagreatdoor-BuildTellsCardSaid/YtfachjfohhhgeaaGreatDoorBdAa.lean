/- The job's plain laws: it ends, it tells, it goes by its chunk; Arguments: lists of int64, calls of a job; the laid rule; law23.BuildTells: returns true. Conditions: those that each theorem names. -/
import Derived.WalkKit
import Derived.WalkSpells
import Derived.WalkLawsBesides
import Derived.Lib.Hide
import Derived.BigQuiet
import Derived.Deep.LoopGhost
import Derived.Test.YtfachjfohhhgeaaGreatDoorRows
import Derived.Lib.SliceRun
import Derived.WideMake
import Derived.Deep.RegionLaw
import Derived.Lib.Overlaps
import Derived.Deep.RegionHeld3
import Derived.Laws.ResultCell
import Derived.Shelf.SortM.Plain
import Derived.Shelf.SortM.SortNone
import Derived.Shelf.SlicesE.DeleteFunc
import Derived.Maps.OwnOps
import Derived.Maps.OwnSet
import Derived.Carry
import Derived.Lib.SlKeysI
import Derived.Shelf.SlIterI.Nil
import Derived.Conc.LoneCalls
import Derived.Conc.SmallLaws
import Derived.Deep.CutBlock
import Derived.Deep.DeepCutAuto
import Derived.Laws.EntriesVeiled
import Derived.Maps.RangeWalk
import Derived.Lib.SlMapFilter
import Derived.RowKit
import Derived.ReadAgain
import Derived.ChangeOld
import Derived.Deep.Slices
import Derived.OpenShut
import Derived.MakeChecks
import Derived.LaidMore
import Derived.Test.YtfachjfohhhgeaaGreatDoorBdL
import Derived.Test.YtfachjfohhhgeaaGreatDoorBdN
import Derived.Test.YtfachjfohhhgeaaGreatDoorBdO
import Derived.Test.YtfachjfohhhgeaaGreatDoorBdS
import Derived.Test.YtfachjfohhhgeaaGreatDoorBdU
namespace Go.Hg

theorem tells1 {G : PGraph} (hG : GInv G) (r : PRule) : stepJ G ⟨r, 1024, 1, []⟩ = ⟨r, 1024, G.next, []⟩ := by
  have h1 := idsG_len G 1
  have h2 := hG.items
  unfold stepJ
  simp only [List.length_nil, Nat.min_zero, List.drop_nil]
  rw [if_pos (by decide), if_neg (by show ¬ (1024 - 0 < _); omega)]
def toldId (o : POp) (G : PGraph) : Int := if idG o G = 0 then o.id else idG o G
theorem toldId_cases {G : PGraph} (hG : GInv G) {c : PCat} {o : POp} (h : mayG c o G = 0) :
    (toldId o G = G.next ∧ (stepG c o G).next = G.next + 1) ∨ (toldId o G < G.next ∧ (stepG c o G).next = G.next) := by
  have hn := hG.next0
  have hs : stepG c o G = doG o G := by unfold stepG; rw [if_pos h]
  rw [hs]
  have hA : o.kind = 1 ∨ o.kind = 3 → toldId o G = G.next := fun hk => by
    have e : idG o G = G.next := by unfold idG; rw [if_pos hk]
    unfold toldId
    rw [e, if_neg (by omega)]
  have hZ : ¬ (o.kind = 1 ∨ o.kind = 3) → toldId o G = o.id := fun hk => by
    have e : idG o G = 0 := by unfold idG; rw [if_neg hk]
    unfold toldId
    rw [e, if_pos rfl]
  unfold doG
  unfold mayG at h
  have hbN : ∀ id, hasN G id = true → id < G.next := fun id hh => by
    obtain ⟨x, hx, e⟩ := List.any_eq_true.1 hh
    have := (hG.nodesB x hx).2.1
    simp at e; omega
  have hbE : ∀ id, hasE G id = true → id < G.next := fun id hh => by
    obtain ⟨x, hx, e⟩ := List.any_eq_true.1 hh
    have := (hG.edgesB x hx).2.1
    simp at e; omega
  by_cases h1 : o.kind = 1
  · refine .inl ?_
    rw [if_pos h1]
    exact ⟨hA (.inl h1), rfl⟩
  rw [if_neg h1] at h
  rw [if_neg h1]
  by_cases h2 : o.kind = 2
  · refine .inr ?_
    rw [if_pos h2] at h
    rw [if_pos h2, hZ (by omega)]
    refine ⟨hbN _ ?_, rfl⟩
    cases hh : hasN G o.id
    · rw [if_pos hh] at h; cases h
    · rfl
  rw [if_neg h2] at h
  rw [if_neg h2]
  by_cases h3 : o.kind = 3
  · refine .inl ?_
    rw [if_pos h3]
    exact ⟨hA (.inr h3), rfl⟩
  rw [if_neg h3] at h
  rw [if_neg h3, hZ (by omega)]
  by_cases h4 : o.kind = 4
  · refine .inr ?_
    rw [if_pos h4] at h
    rw [if_pos h4]
    refine ⟨hbE _ ?_, rfl⟩
    cases hh : hasE G o.id
    · rw [if_pos hh] at h; cases h
    · rfl
  rw [if_neg h4] at h
  rw [if_neg h4]
  by_cases h5 : o.kind = 5
  · refine .inr ?_
    rw [if_pos h5] at h
    rw [if_pos h5]
    refine ⟨?_, by unfold setPropG; split <;> rfl⟩
    split at h
    · cases h
    · cases hf : findP G o.id with
      | none => rw [hf] at h; cases h
      | some ps =>
        unfold findP at hf
        split at hf
        · rename_i x hx
          have := List.find?_some hx
          have h6 := (hG.nodesB x (List.mem_of_find?_eq_some hx)).2.1
          simp at this; omega
        · split at hf
          · rename_i x hx
            have := List.find?_some hx
            have h6 := (hG.edgesB x (List.mem_of_find?_eq_some hx)).2.1
            simp at this; omega
          · cases hf
  · rw [if_neg h5] at h; cases h
theorem tells2 (r : PRule) (n x : Int) : touchL ⟨r, 1024, n, []⟩ [x, x] = if n ≤ x then ⟨r, 1024, n, []⟩ else ⟨r, 1024, n, [x]⟩ := by
  by_cases h : n ≤ x
  · rw [if_pos h]
    simp [touchL, touchJ, h]
  · rw [if_neg h]
    have e : putL ([] : List Int) x = [x] := by simp [putL]
    simp [touchL, touchJ, h, e]
theorem tells3 {G : PGraph} (hG : GInv G) {c : PCat} {o : POp} (r : PRule) (h : mayG c o G = 0) :
    stepJ (stepG c o G) (touchL ⟨r, 1024, G.next, []⟩ [toldId o G, toldId o G]) = ⟨r, 1024, (stepG c o G).next, []⟩ ∧
    endedJ (touchL ⟨r, 1024, G.next, []⟩ [toldId o G, toldId o G]) (stepG c o G).next = false := by
  have hi : GInv (stepG c o G) := hG.stepG
  rw [tells2]
  rcases toldId_cases hG h with ⟨h1, h2⟩ | ⟨h1, h2⟩
  · rw [if_pos (by omega)]
    have h3 := idsG_len (stepG c o G) G.next
    have h4 := hi.items
    refine ⟨?_, ?_⟩
    · unfold stepJ
      simp only [List.length_nil, Nat.min_zero, List.drop_nil]
      rw [if_pos (by decide), if_neg (by show ¬ (1024 - 0 < _); omega)]
    · unfold endedJ
      simp only
      rw [h2, decide_eq_false (by omega)]
      rfl
  · rw [if_neg (by omega)]
    have h3 : idsG (stepG c o G) G.next = [] := by
      rw [List.eq_nil_iff_forall_not_mem]
      intro x hx
      have := idsG_bounds hi hx
      have := (idsG_mem.1 hx).1
      omega
    refine ⟨?_, ?_⟩
    · unfold stepJ
      simp only [List.length_cons, List.length_nil, h3]
      rw [if_pos (by decide), if_neg (by omega)]
      rfl
    · unfold endedJ
      simp

end Go.Hg

namespace Go.Hg
open Go.RowKit Go.ChangeShapes Go.WideShapes Go.Deep Go.Proofs

section
variable {H : Type} {enc : TypeId × Value → H} {W : World} {base : Nat} {sp : Nat → Bool} {held : Bool}
theorem openOpW {n : Nat} {cs : List Value} {x : DataW H × List MemPlace} (h : DataW.trod enc Tryz.prog W base sp held n 50 cs = some x) : ∃ o : POp, cs = o.cells ∧ (Lit.int .i64 o.id).wf = true := by
  have hh := h
  obtain ⟨o, ho⟩ := openOp h
  obtain ⟨xs, m, -, -, hl, hsz, hf⟩ := DataW.trod_struct Tryz.underlying50 hh
  rw [ho] at hf
  obtain ⟨y1, h1⟩ := field_at hsz hf 1 rfl rfl cellsI64 rfl
  obtain ⟨id, e1, -, hw⟩ := DataW.trod_int Tryz.underlying2 h1
  simp [POp.cells] at e1
  exact ⟨o, ho, e1 ▸ hw⟩
set_option maxRecDepth 100000 in
theorem openOpA {v : Value} {d : DataW H} {ps : List MemPlace} {r : Reach} {b0 : Nat} (hval : Value.okWide Tryz.prog W r b0 50 v) (h : DataW.Trod enc Tryz.prog W base sp held 50 v d ps) : ∃ o : POp, v = o.args ∧ (Lit.int .i64 o.id).wf = true := by
  obtain ⟨cs, rfl, -⟩ := okWide_struct Tryz.underlying50 hval
  obtain ⟨n, hn⟩ := h
  obtain ⟨o, ho, hw⟩ := openOpW hn
  refine ⟨o, ?_, hw⟩
  have e : cs.toList = o.cells := ho
  have e2 : cs = o.cells.toArray := by rw [← e]
  rw [e2]
  rfl
end
end Go.Hg

namespace Go.Hg
open Go.RowKit Go.Proofs

theorem idsLit2 (W : World) (x y : Int) {nb : Nat} (h : W.heap.size = nb) : IdsR (fun b => b = nb) (W.alloc (.cells #[.int .i64 x, .int .i64 y] 2)) (.slice (some ⟨nb, 0, none⟩) 2 2) [x, y] := by
  subst h
  exact IdsO.toR (l := [x, y]) (ob := some W.heap.size) (OwnS.lit W #[.int .i64 x, .int .i64 y] 2 1 2 (by unfold maxLen; omega) rfl) (fun g hg => (Option.some.inj hg).symm)
theorem exR_new1024 : newE exR 1024 = 0 := by decide
theorem toldId_wf {G : PGraph} (hG : GInv G) {o : POp} (ho : (Lit.int .i64 o.id).wf = true) : (Lit.int .i64 (toldId o G)).wf = true := by
  have h0 := hG.next0
  have h1 := hG.next1
  by_cases hk : o.kind = 1 ∨ o.kind = 3
  · have e : idG o G = G.next := by unfold idG; rw [if_pos hk]
    have e2 : toldId o G = G.next := by unfold toldId; rw [e, if_neg (by omega)]
    rw [e2]
    exact wf64 (by omega) (by omega)
  · have e : idG o G = 0 := by unfold idG; rw [if_neg hk]
    have e2 : toldId o G = o.id := by unfold toldId; rw [e, if_pos rfl]
    rw [e2]
    exact ho
abbrev OpB (w : World) (b : Nat) (o : POp) : Prop := b < w.heap.size ∧ w.cell? ⟨b, 0, none⟩ = some (.int .i64 o.kind) ∧ w.cell? ⟨b, 1, none⟩ = some (.int .i64 o.id) ∧ w.cell? ⟨b, 2, none⟩ = some (.string o.typ) ∧ w.cell? ⟨b, 3, none⟩ = some (.int .i64 o.from_) ∧ w.cell? ⟨b, 4, none⟩ = some (.int .i64 o.to_) ∧ w.cell? ⟨b, 5, none⟩ = some (.string o.name) ∧
  w.cell? ⟨b, 6, none⟩ = some (.int .i64 o.v.kind) ∧ w.cell? ⟨b, 7, none⟩ = some (.int .i64 o.v.n) ∧ w.cell? ⟨b, 8, none⟩ = some (.string o.v.s) ∧ w.cell? ⟨b, 9, none⟩ = some (.bool o.cascade)
theorem opB_of {w : World} {b : Nat} {o : POp} {T : TypeId} (h : w.heap[b]? = some (.cells #[.int .i64 o.kind, .int .i64 o.id, .string o.typ, .int .i64 o.from_, .int .i64 o.to_, .string o.name, .int .i64 o.v.kind, .int .i64 o.v.n, .string o.v.s, .bool o.cascade] T (0, 0))) : OpB w b o := by
  refine ⟨blk_lt h, ?_, ?_, ?_, ?_, ?_, ?_, ?_, ?_, ?_, ?_⟩ <;> exact (blk_cell h _).trans rfl

set_option maxRecDepth 100000 in
set_option maxHeartbeats 16000000 in
theorem law23Tells (S : Nat → Prop) (v : Value) (l : List POp) (o : POp) (w : World) (hx : ExG w) (hl : OpsR S w v l) (ho : (Lit.int .i64 o.id).wf = true) :
    Calls Tryz.prog 4 #[v, o.args] w fun e w' => e = .returned (.bool true) ∧ Grow w w' := by
  have HX := Lib.hid hx; have HL := Lib.hid hl; have HO := Lib.hid ho
  obtain ⟨_, _, rfl, -, -, -⟩ := SlR.open hl
  obtain ⟨W1, hW1⟩ : ∃ W1, w.alloc (.cells #[.int .i64 o.kind, .int .i64 o.id, .string o.typ, .int .i64 o.from_, .int .i64 o.to_, .string o.name, .int .i64 o.v.kind, .int .i64 o.v.n, .string o.v.s, .bool o.cascade] 50) = W1 := ⟨_, rfl⟩
  have HBX := Lib.hid (show W1.heap[w.heap.size]? = some (.cells #[.int .i64 o.kind, .int .i64 o.id, .string o.typ, .int .i64 o.from_, .int .i64 o.to_, .string o.name, .int .i64 o.v.kind, .int .i64 o.v.n, .string o.v.s, .bool o.cascade] 50 (0, 0)) from hW1 ▸ heap_alloc_new w _)
  have HG1 := Lib.hid (show Grow w W1 from hW1 ▸ (Grow.rfl' w).allocd _)
  have HZ1 := Lib.hid (show W1.heap.size = w.heap.size + 1 by rw [← hW1]; simp)
  clear hx hl ho
  go_enter Tryz.func4, Tryz.ntmps4
  go_wp2_with fail
  refine (lawMade S _ l W1 (HL.out.growS HG1.out)).mono ?_
  clear hW1
  intro e w3 h3
  rcases h3 with ⟨-, rfl, g3⟩ | ⟨-, Bg, Bq, rfl, hpr⟩
  · have HG3 := Lib.hid (HG1.out.step g3)
    clear g3
    go_wp2_with fail
    refine (law23Wakes w3 (HX.out.grow HG3.out)).mono ?_
    rintro e w4 ⟨rfl, g4⟩
    have HG4 := Lib.hid (HG3.out.step g4)
    clear g4
    go_wp2
    go_ret
    exact ⟨rfl, HG4.out⟩
  have hgd0 : goodG (madeG l) = true := madeK_good _ _
  have hi0 : GInv (madeG l) := madeK_inv _ _
  generalize madeG l = G at *
  have HGD := Lib.hid hgd0; have HI := Lib.hid hi0
  obtain ⟨SG, SQ, hok, hoq, hd, hb1, hb2, g13⟩ := hpr
  have HG13 := Lib.hid g13
  have HG3 := Lib.hid (HG1.out.step g13)
  have HOK := Lib.hid hok
  have HBX3 := Lib.hid ((g13.heapEq (blk_lt HBX.out)).trans HBX.out)
  obtain ⟨_, _, _, _, hbq, -, -, q2, -, -⟩ := hoq.read
  have HQ2 := Lib.hid q2
  have hSQ : SQ Bq := by obtain ⟨_, _, _, _, _, _, h, -⟩ := hoq; exact h
  have HBQ := Lib.hid (show Bq < w3.heap.size ∧ ¬ SG Bq from ⟨hbq, fun h => hd Bq h hSQ⟩)
  have HSG := Lib.hid (show ∀ b, SG b → w.heap.size + 1 ≤ b ∧ b < w3.heap.size from fun b h => by have := hb1 b h; have := HZ1.out; omega)
  clear hgd0 hi0 hok hoq hd hb1 hb2 g13 q2 hSQ hbq
  obtain ⟨hbl, a0, a1, a2, a3, a4, a5, a6, a7, a8, a9⟩ := opB_of HBX3.out
  go_wp2_with fail
  refine (keepLargeOp o w3).mono ?_
  rintro e w4 ⟨rfl, g4⟩
  have HG4 := Lib.hid (HG3.out.step g4); have HG34 := Lib.hid g4
  clear g4 a0 a1 a2 a3 a4 a5 a6 a7 a8 a9 hbl
  obtain ⟨bl, hbl⟩ : ∃ b, largeO o = b := ⟨_, rfl⟩
  rw [hbl]
  clear hbl
  cases bl
  rotate_left 1
  · go_wp2_with fail
    refine (law23Wakes w4 (HX.out.grow HG4.out)).mono ?_
    rintro e w5 ⟨rfl, g5⟩
    have HG5 := Lib.hid (HG4.out.step g5)
    clear g5
    go_wp2
    go_ret
    exact ⟨rfl, HG5.out⟩
  obtain ⟨hx0, c0, c1, c2, c3, c4, c5, c6, c7⟩ := HX.out.grow HG4.out
  go_wp2_with fail
  refine (buildNew exR 1024 w4).mono ?_
  rintro e w5 ⟨g5, h5⟩
  obtain ⟨B, rfl, hj⟩ : ∃ B, e = .returned (.tuple #[.pointer (some ⟨B, 0, none⟩), .int .i64 0]) ∧ JobOk (fun b => w4.heap.size ≤ b) w5 B ⟨exR, 1024, 1, []⟩ := by
    rcases h5 with ⟨h, -⟩ | ⟨-, h⟩
    · exact absurd exR_new1024 h
    · exact h
  have hs34 := HG34.out.size
  have hs45 := g5.size
  have HJ5 := Lib.hid hj.cut
  have HG35 := Lib.hid (HG34.out.step g5)
  have HG5 := Lib.hid (HG3.out.step HG35.out)
  have HOK5 := Lib.hid (HOK.out.grow HG35.out)
  have HSJ := Lib.hid (show ∀ b, SG b → ¬ (w4.heap.size ≤ b ∧ b < w5.heap.size) from fun b hb h => by have := (HSG.out b hb).2; omega)
  have HFJ := Lib.hid (show ∀ b, (w4.heap.size ≤ b ∧ b < w5.heap.size) → (SG b ∨ w3.heap.size ≤ b) from fun b h => .inr (by omega))
  have HFW := Lib.hid (show ∀ b, (SG b ∨ w3.heap.size ≤ b) → w.heap.size ≤ b from fun b h => by have := HG3.out.size; rcases h with h | h; have := (HSG.out b h).1; omega; omega)
  have HFQ := Lib.hid (show ¬ (SG Bq ∨ w3.heap.size ≤ Bq) from fun h => by have := HBQ.out; rcases h with h | h; exact this.2 h; omega)
  have HFB := Lib.hid (show ¬ (SG w.heap.size ∨ w3.heap.size ≤ w.heap.size) from fun h => by have := HG13.out.size; have := HZ1.out; rcases h with h | h; have := (HSG.out _ h).1; omega; omega)
  have HQC := Lib.hid (show ∀ w', Mod (fun b => SG b ∨ w3.heap.size ≤ b) w3 w' → w'.cell? ⟨Bq, 2, none⟩ = some (.int .i64 G.next) from fun w' m => (World.cell?_of_block (a := ⟨Bq, 2, none⟩) (m.block Bq HBQ.out.1 HFQ.out)).trans HQ2.out)
  have HBC := Lib.hid (show ∀ w', Mod (fun b => SG b ∨ w3.heap.size ≤ b) w3 w' → OpB w' w.heap.size o from fun w' m => opB_of ((m.block w.heap.size (blk_lt HBX3.out) HFB.out).trans HBX3.out))
  have HM5 := Lib.hid (show Mod (fun b => SG b ∨ w3.heap.size ≤ b) w3 w5 from Mod.of_grow HG35.out)
  have HI0 := Lib.hid (show JobInv ⟨exR, 1024, 1, []⟩ from ⟨by decide, by decide, by decide, by decide, by decide, by decide, by decide⟩)
  have HT1 := Lib.hid (tells1 HI.out exR)
  have HE1 := Lib.hid (show endedJ (⟨exR, 1024, G.next, []⟩ : PJob) G.next = true by unfold endedJ; simp)
  have HI1 := Lib.hid (show JobInv ⟨exR, 1024, G.next, []⟩ from tells1 HI.out exR ▸ stepJ_inv HI.out HI0.out)
  clear g5 h5 hj c0 c1 c2 c3 c4 c5 c6 c7 hx0
  have HD := Lib.hid (show Grow w5 w5.drew from (Grow.rfl' w5).drewd)
  have HS5D := Lib.hid (show w5.heap.size ≤ w5.drew.heap.size from HD.out.size)
  have HMD := Lib.hid (HM5.out.step (Mod.of_grow HD.out))
  go_upto_region 5 with fail
  go_cut [48] (fun s wx => s = .bool false ∧ Mod (fun b => SG b ∨ w3.heap.size ≤ b) w3 wx ∧ JobOk (fun b => w4.heap.size ≤ b ∧ b < w5.heap.size) wx B ⟨exR, 1024, G.next, []⟩ ∧ GraphOk 106 SG wx Bg G ∧ w5.heap.size ≤ wx.heap.size)
  case first =>
    go_region_held3 (fun w' => w'.cell? ⟨Bq, 2, none⟩ = some (.int .i64 G.next)) (first | exact HQC.out _ HMD.out | exact HQC.out _ HM6.out) (first | (go_at_call 14; refine (jobStep _ SG B Bg ⟨exR, 1024, 1, []⟩ G _ (HJ5.out.grow HD.out) HI0.out (HOK5.out.grow HD.out) HI.out HSJ.out).mono ?_; rintro e w6 ⟨rfl, hj6, m6⟩; rw [HT1.out] at hj6; rw [HT1.out, HE1.out]; have HJ6 := Lib.hid hj6; have HOK6 := Lib.hid ((HOK5.out.grow HD.out).keep m6 HSJ.out); have HM6 := Lib.hid (HMD.out.step (m6.mono HFJ.out)); have HZ56 := Lib.hid (Nat.le_trans HS5D.out m6.size); clear hj6 m6) | (go_at_call 19; refine (jobAt _ B ⟨exR, 1024, G.next, []⟩ _ HJ6.out).mono ?_; rintro e w7 ⟨rfl, hw⟩; have hw' := hw.symm; subst hw'; clear hw))
    go_wp2_with fail
    go_meet
    exact ⟨rfl, HM6.out, HJ6.out, HOK6.out, HZ56.out⟩
  case rest =>
    obtain ⟨rfl, hm6, hj6, hok6, hz56⟩ := hcut
    have HZ56 := Lib.hid hz56
    clear hz56
    obtain ⟨w6, rfl⟩ : ∃ w6, w6 = wc := ⟨_, rfl⟩
    have HM6 := Lib.hid hm6; have HJ6 := Lib.hid hj6; have HOK6 := Lib.hid hok6
    clear hm6 hj6 hok6 HD HMD
    have HD := Lib.hid (show Grow w6 w6.drew from (Grow.rfl' w6).drewd)
    have HMD := Lib.hid (HM6.out.step (Mod.of_grow HD.out))
    have HZ6 := Lib.hid (show w3.heap.size ≤ w6.heap.size from HM6.out.size)
    obtain ⟨rid, hrid⟩ : ∃ r, (if mayG typesC o G = 0 then idG o G else 0) = r := ⟨_, rfl⟩
    obtain ⟨rer, hrer⟩ : ∃ r, mayG typesC o G = r := ⟨_, rfl⟩
    have HRID := Lib.hid hrid; have HRER := Lib.hid hrer
    clear hrid hrer
    go_upto_region 7 with fail
    go_cut [10, 11] (fun a b wx => a = .int .i64 rid ∧ b = .int .i64 rer ∧ ∃ SG2 : Nat → Prop, Mod (fun b => SG b ∨ w3.heap.size ≤ b) w3 wx ∧ JobOk (fun b => w4.heap.size ≤ b ∧ b < w5.heap.size) wx B ⟨exR, 1024, G.next, []⟩ ∧ GraphOk 106 SG2 wx Bg (stepG typesC o G) ∧ (∀ b, SG2 b → ¬ (w4.heap.size ≤ b ∧ b < w5.heap.size)) ∧ w5.heap.size ≤ wx.heap.size)
    case first =>
      have HZ65 := Lib.hid (show w5.heap.size ≤ w6.heap.size from HZ56.out)
      go_region_held3 (fun w' => OpB w' w.heap.size o) (first | exact HBC.out _ HMD.out | exact HBC.out _ HMT.out | exact HBC.out _ HM8.out) (first | (go_at_call 21; refine (lawTypes _).mono ?_; rintro e wt7 ⟨nv, ev, rfl, hc, hg7⟩; have HC := Lib.hid hc; have HT7 := Lib.hid (HD.out.step hg7); have HMT := Lib.hid (HMD.out.step (Mod.of_grow hg7)); obtain ⟨na, nc, ea, ec, ra, rc, ia, ic, rfl, rfl, -, -⟩ := hc.slices; clear hc hg7) | (go_at_call 20; refine (graphDo SG _ Bg G _ _ _ _ typesC o _ (HOK6.out.grow HT7.out) HI.out HC.out).mono ?_; rintro e w8 ⟨rfl, hok8, m8⟩; rw [HRID.out, HRER.out]; have HM8 := Lib.hid (HMT.out.step (m8.mono (fun b h => .inl h))); have HOK8 := Lib.hid hok8; have HJ8 := Lib.hid ((HJ6.out.grow HT7.out).keep m8 (fun b h h2 => HSJ.out b h2 h)); have HZ7 := Lib.hid HT7.out.size; have HZ78 := Lib.hid m8.size; clear hok8 m8))
      go_wp2_with fail
      go_meet
      exact ⟨rfl, rfl, _, HM8.out, HJ8.out, HOK8.out, fun b h h2 => by rcases h with h | h; exact HSJ.out b h h2; have := HZ65.out; have := HZ7.out; omega, by have := HZ65.out; have := HZ7.out; have := HZ78.out; omega⟩
    case rest =>
      obtain ⟨rfl, rfl, SG2, hm8, hj8, hok8, hs8, hz58⟩ := hcut
      have HZ58 := Lib.hid hz58
      clear hz58
      obtain ⟨w8, rfl⟩ : ∃ w8, w8 = wc := ⟨_, rfl⟩
      have HM8 := Lib.hid hm8; have HJ8 := Lib.hid hj8; have HOK8 := Lib.hid hok8; have HS8 := Lib.hid hs8
      have HG8 := Lib.hid (show Grow w w8 from HG3.out.modd hm8 HFW.out)
      clear hm8 hj8 hok8 hs8 HM6 HJ6 HOK6 HD HMD
      by_cases hr0 : rer = 0
      rotate_left 1
      · have hn0 : (rer != 0) = true := by simpa using hr0
        have hl0 : ((⟨exR, 1024, G.next, []⟩ : PJob).tch.length : Int) = 0 := rfl
        clear hr0
        go_wp2_with fail
        refine (jobLeft _ B ⟨exR, 1024, G.next, []⟩ w8 HJ8.out HI1.out).mono ?_
        rintro e w9 ⟨rfl, hw⟩
        have hw' := hw.symm
        subst hw'
        clear hw
        rw [hl0]
        clear hl0
        go_wp2_with fail
        refine (law23Wakes w8 (HX.out.grow HG8.out)).mono ?_
        rintro e w9 ⟨rfl, g9⟩
        have HG9 := Lib.hid (HG8.out.step g9)
        clear g9
        go_wp2
        go_ret
        exact ⟨rfl, HG9.out⟩
      · have HM0 := Lib.hid (show mayG typesC o G = 0 from HRER.out.trans hr0)
        subst hr0
        have HRI := Lib.hid (show rid = idG o G by rw [← HRID.out, if_pos HM0.out])
        have HX0 := Lib.hid (show (if rid = 0 then o.id else rid) = toldId o G by rw [HRI.out]; rfl)
        obtain ⟨hbl, -, a1, -⟩ := HBC.out w8 HM8.out
        go_upto_if 65 with fail
        go_cut [10] (fun a wx => a = .int .i64 (toldId o G) ∧ wx = w8)
        case first =>
          by_cases hz : rid = 0
          · have HV := Lib.hid (show o.id = toldId o G by rw [← HX0.out, if_pos hz])
            subst hz
            go_wp2_with fail
            go_meet
            exact ⟨by rw [HV.out], rfl⟩
          · have HV := Lib.hid (show rid = toldId o G by rw [← HX0.out, if_neg hz])
            have hz1 : (rid == 0) = false := by simpa using hz
            clear hz
            go_wp2_with fail
            go_meet
            exact ⟨by rw [HV.out], rfl⟩
        case rest =>
          obtain ⟨rfl, hw⟩ := hcut
          have hw' := hw.symm
          subst hw'
          clear hw a1 hbl
          have HT3 := Lib.hid (tells3 HI.out exR HM0.out).1
          have HEF := Lib.hid (tells3 HI.out exR HM0.out).2
          have HT2 := Lib.hid (tells2 exR G.next (toldId o G))
          have HCS := Lib.hid (toldId_cases HI.out HM0.out)
          have HI1G := Lib.hid (show GInv (stepG typesC o G) from HI.out.stepG)
          have H64e := Lib.hid (ends64f (goodG_step typesC_names (o := o) HGD.out))
          have HXW := Lib.hid (toldId_wf HI.out HO.out)
          have HFJ2 := Lib.hid (show ∀ b, (w4.heap.size ≤ b ∧ b < w5.heap.size) → w.heap.size ≤ b from fun b h => HFW.out b (HFJ.out b h))
          generalize toldId o G = x at *
          generalize stepG typesC o G = G1 at *
          have HI2 := Lib.hid (touchL_inv HI1.out (l := [x, x]) (by intro y hy; simp at hy; subst hy; exact HXW.out))
          have HI3 := Lib.hid (show JobInv ⟨exR, 1024, G1.next, []⟩ from HT3.out ▸ stepJ_inv HI1G.out HI2.out)
          have HE3 := Lib.hid (show endedJ (⟨exR, 1024, G1.next, []⟩ : PJob) G1.next = true by unfold endedJ; simp)
          obtain ⟨J2, hJ2⟩ : ∃ J2, touchL (⟨exR, 1024, G.next, []⟩ : PJob) [x, x] = J2 := ⟨_, rfl⟩
          rw [hJ2] at HT3 HEF HT2 HI2
          have HJE := Lib.hid hJ2
          clear hJ2
          have HVD := Lib.hid (show verdV G1 J2 = .tuple #[.bool false, .int .i64 161] by unfold verdV; rw [HEF.out]; rfl)
          have HA8 := Lib.hid (show ∀ o1, Grow w8 (w8.alloc o1) from fun o1 => (Grow.rfl' w8).allocd o1)
          have HI8 := Lib.hid (idsLit2 w8 x x rfl)
          have HZ8 := Lib.hid (show w5.heap.size ≤ w8.heap.size from HZ58.out)
          go_wp2_with fail
          refine (jobTouch _ (fun b => b = w8.heap.size) B ⟨exR, 1024, G.next, []⟩ _ [x, x] _ (HJ8.out.grow (HA8.out _)) HI1.out HI8.out (fun b hb h => by have := HZ8.out; omega) (by intro y hy; simp at hy; subst hy; exact HXW.out)).mono ?_
          rintro e w9 ⟨rfl, hj9, m9⟩
          rw [HJE.out] at hj9
          have HJ9 := Lib.hid hj9; have HOK9 := Lib.hid ((HOK8.out.grow (HA8.out _)).keep m9 HS8.out); have HG9 := Lib.hid ((HG8.out.step (HA8.out _)).modd m9 HFJ2.out)
          have HM9 := Lib.hid ((HM8.out.step (Mod.of_grow (HA8.out _))).step (m9.mono HFJ.out))
          clear hj9 m9
          go_wp2_with fail
          refine (jobVerdict _ SG2 B Bg J2 G1 w9 HJ9.out HI2.out HOK9.out HI1G.out H64e.out).mono ?_
          rintro e wa ⟨rfl, ga⟩
          rw [HVD.out]
          have HJa := Lib.hid (HJ9.out.grow ga); have HOKa := Lib.hid (HOK9.out.grow ga); have HGa := Lib.hid (HG9.out.step ga)
          have qa := HQC.out wa (HM9.out.step (Mod.of_grow ga))
          have hbqa : Bq < wa.heap.size := by have := HBQ.out.1; have := HM9.out.size; have := ga.size; omega
          clear ga
          by_cases hge : G.next ≤ x
          · have hl2 : (J2.tch.length : Int) = 0 := by rw [HT2.out, if_pos hge]; rfl
            have hlt : ¬ x < G.next := by omega
            have HL2 := Lib.hid hl2
            clear hl2
            have HJb := HJa; have HOKb := HOKa; have HGb := HGa
            obtain ⟨wb, hwb⟩ : ∃ wb, wb = wa := ⟨_, rfl⟩
            subst hwb
            go_wp2_with fail
            refine (jobLeft _ B J2 wb HJb.out HI2.out).mono ?_
            rintro e wz ⟨rfl, hw⟩
            have hw' := hw.symm
            subst hw'
            clear hw
            rw [HL2.out]
            go_wp2_with fail
            refine (jobStep _ SG2 B Bg J2 G1 wb HJb.out HI2.out HOKb.out HI1G.out HS8.out).mono ?_
            rintro e wd ⟨rfl, hjd, md⟩
            rw [HT3.out] at hjd
            rw [HT3.out, HE3.out]
            have HJd := Lib.hid hjd; have HOKd := Lib.hid (HOKb.out.keep md HS8.out); have HGd := Lib.hid (HGb.out.modd md HFJ2.out)
            clear hjd md
            go_wp2_with fail
            refine (jobLeft _ B ⟨exR, 1024, G1.next, []⟩ wd HJd.out HI3.out).mono ?_
            rintro e wz ⟨rfl, hw⟩
            have hw' := hw.symm
            subst hw'
            clear hw
            have hl3 : ((⟨exR, 1024, G1.next, []⟩ : PJob).tch.length : Int) = 0 := rfl
            rw [hl3]
            clear hl3
            go_wp2_with fail
            refine (jobAt _ B ⟨exR, 1024, G1.next, []⟩ wd HJd.out).mono ?_
            rintro e wz ⟨rfl, hw⟩
            have hw' := hw.symm
            subst hw'
            clear hw
            go_wp2_with fail
            refine (graphNext SG2 Bg G1 wd HOKd.out).mono ?_
            rintro e wz ⟨rfl, hw⟩
            subst hw
            go_wp2_with fail
            refine (law23Wakes wd (HX.out.grow HGd.out)).mono ?_
            rintro e we ⟨rfl, ge⟩
            have HGe := Lib.hid (HGd.out.step ge)
            clear ge
            go_wp2
            go_ret
            exact ⟨rfl, HGe.out⟩
          · have hl2 : (J2.tch.length : Int) = 1 := by rw [HT2.out, if_neg hge]; rfl
            have hlt : x < G.next := by omega
            have HL2 := Lib.hid hl2
            clear hl2
            have HJb := HJa; have HOKb := HOKa; have HGb := HGa
            obtain ⟨wb, hwb⟩ : ∃ wb, wb = wa := ⟨_, rfl⟩
            subst hwb
            go_wp2_with fail
            refine (jobLeft _ B J2 wb HJb.out HI2.out).mono ?_
            rintro e wz ⟨rfl, hw⟩
            have hw' := hw.symm
            subst hw'
            clear hw
            rw [HL2.out]
            go_wp2_with fail
            refine (jobStep _ SG2 B Bg J2 G1 wb HJb.out HI2.out HOKb.out HI1G.out HS8.out).mono ?_
            rintro e wd ⟨rfl, hjd, md⟩
            rw [HT3.out] at hjd
            rw [HT3.out, HE3.out]
            have HJd := Lib.hid hjd; have HOKd := Lib.hid (HOKb.out.keep md HS8.out); have HGd := Lib.hid (HGb.out.modd md HFJ2.out)
            clear hjd md
            go_wp2_with fail
            refine (jobLeft _ B ⟨exR, 1024, G1.next, []⟩ wd HJd.out HI3.out).mono ?_
            rintro e wz ⟨rfl, hw⟩
            have hw' := hw.symm
            subst hw'
            clear hw
            have hl3 : ((⟨exR, 1024, G1.next, []⟩ : PJob).tch.length : Int) = 0 := rfl
            rw [hl3]
            clear hl3
            go_wp2_with fail
            refine (jobAt _ B ⟨exR, 1024, G1.next, []⟩ wd HJd.out).mono ?_
            rintro e wz ⟨rfl, hw⟩
            have hw' := hw.symm
            subst hw'
            clear hw
            go_wp2_with fail
            refine (graphNext SG2 Bg G1 wd HOKd.out).mono ?_
            rintro e wz ⟨rfl, hw⟩
            subst hw
            go_wp2_with fail
            refine (law23Wakes wd (HX.out.grow HGd.out)).mono ?_
            rintro e we ⟨rfl, ge⟩
            have HGe := Lib.hid (HGd.out.step ge)
            clear ge
            go_wp2
            go_ret
            exact ⟨rfl, HGe.out⟩
end Go.Hg
