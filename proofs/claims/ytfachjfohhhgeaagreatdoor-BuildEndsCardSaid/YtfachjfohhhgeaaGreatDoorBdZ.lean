/- The job's plain laws: it ends, it tells, it goes by its chunk; law23.BuildEnds: returns true. Conditions: those that each theorem names. -/
import Derived.WalkKit
import Derived.WalkSpells
import Derived.WalkLawsBesides
import Derived.Lib.Hide
import Derived.BigQuiet
import Derived.Deep.LoopGhost
import Derived.Test.YtfachjfohhhgeaaGreatDoorRows
import Derived.Lib.SliceRun
import Derived.WideMake
import Derived.Deep.RegionLaw
import Derived.Lib.Overlaps
import Derived.Deep.RegionHeld3
import Derived.Laws.ResultCell
import Derived.Shelf.SortM.Plain
import Derived.Shelf.SortM.SortNone
import Derived.Shelf.SlicesE.DeleteFunc
import Derived.Maps.OwnOps
import Derived.Maps.OwnSet
import Derived.Carry
import Derived.Lib.SlKeysI
import Derived.Shelf.SlIterI.Nil
import Derived.Conc.LoneCalls
import Derived.Conc.SmallLaws
import Derived.Deep.CutBlock
import Derived.Deep.DeepCutAuto
import Derived.Laws.EntriesVeiled
import Derived.Maps.RangeWalk
import Derived.Lib.SlMapFilter
import Derived.Test.YtfachjfohhhgeaaGreatDoorBdL
import Derived.Test.YtfachjfohhhgeaaGreatDoorBdN
import Derived.Test.YtfachjfohhhgeaaGreatDoorBdO
import Derived.Test.YtfachjfohhhgeaaGreatDoorBdP
import Derived.Test.YtfachjfohhhgeaaGreatDoorBdR
import Derived.Test.YtfachjfohhhgeaaGreatDoorBdU
import Derived.Test.YtfachjfohhhgeaaGreatDoorBdV
namespace Go.Hg

theorem idsG_rest {G : PGraph} {f : Int} {m : Nat} (hm : m < (idsG G f).length) : (idsG G ((idsG G f)[m] + 1)).length + (m + 1) ≤ (idsG G f).length := by
  obtain ⟨x, hx⟩ : ∃ x, (idsG G f)[m] = x := ⟨_, rfl⟩
  rw [hx]
  have hfx : f ≤ x := (idsG_mem.1 (hx ▸ List.getElem_mem hm)).1
  have e1 : (idsG G (x + 1)).length = ((idsG G f).filter (fun y => decide (x + 1 ≤ y))).length := by
    rw [(idsG_perm G (x + 1)).length_eq, ((idsG_perm G f).filter (fun y => decide (x + 1 ≤ y))).length_eq, List.filter_filter]
    congr 1
    refine List.filter_congr fun y _ => ?_
    rw [Bool.eq_iff_iff]
    simp
    omega
  have e2 : (idsG G f).filter (fun y => decide (x + 1 ≤ y)) = ((idsG G f).drop (m + 1)).filter (fun y => decide (x + 1 ≤ y)) := by
    conv => lhs; rw [← List.take_append_drop (m + 1) (idsG G f)]
    rw [List.filter_append]
    have : ((idsG G f).take (m + 1)).filter (fun y => decide (x + 1 ≤ y)) = [] := by
      rw [List.filter_eq_nil_iff]
      intro y hy
      obtain ⟨j, hj, rfl⟩ := List.mem_take_iff_getElem.1 hy
      have hle : (idsG G f)[j] ≤ (idsG G f)[m] := by
        by_cases hjm : j = m
        · subst hjm; exact Int.le_refl _
        · exact List.pairwise_iff_getElem.1 (idsG_sorted G f) j m (by omega) hm (by omega)
      simp
      omega
    rw [this, List.nil_append]
  have h3 := List.length_filter_le (fun y : Int => decide (x + 1 ≤ y)) ((idsG G f).drop (m + 1))
  rw [List.length_drop] at h3
  rw [e1, e2]
  omega
def measJ (G : PGraph) (J : PJob) : Nat := J.tch.length + (idsG G J.pos).length
theorem stepJ_meas {G : PGraph} {J : PJob} (h : JobInv J) : endedJ (stepJ G J) G.next = true ∨ measJ G (stepJ G J) + J.chunk.toNat ≤ measJ G J := by
  obtain ⟨h1, h2, -⟩ := h
  unfold stepJ
  simp only
  split
  · rename_i hlt
    have hd : J.tch.drop (min J.chunk.toNat J.tch.length) = [] := List.drop_eq_nil_of_le (by omega)
    split
    · rename_i hlen
      refine .inr ?_
      have hm : J.chunk.toNat - min J.chunk.toNat J.tch.length - 1 < (idsG G J.pos).length := by omega
      have hr := idsG_rest hm
      unfold measJ
      simp only
      rw [hd, List.getD_eq_getElem?_getD, List.getElem?_eq_getElem hm]
      simp only [Option.getD_some, List.length_nil]
      omega
    · refine .inl ?_
      unfold endedJ
      rw [hd]
      simp
  · refine .inr ?_
    unfold measJ
    simp only [List.length_drop]
    omega
theorem touchL_len (J : PJob) (l : List Int) : (touchL J l).tch.length ≤ J.tch.length + l.length := by
  induction l generalizing J with
  | nil => simp [touchL]
  | cons a t ih =>
    have h := ih (touchJ J a)
    have h2 : (touchJ J a).tch.length ≤ J.tch.length + 1 := by
      unfold touchJ
      split
      · omega
      · split
        · simp
        · rename_i hn _
          rw [putL_len1 (fun h => hn (.inr h))]
          omega
    show (touchL (touchJ J a) t).tch.length ≤ _
    simp only [List.length_cons]
    omega
theorem meas_start {G : PGraph} {J : PJob} (l : List Int) (h : J.tch = []) : measJ G (touchL J l) ≤ G.nodes.length + G.edges.length + l.length := by
  have h1 := touchL_len J l
  have h2 := idsG_len G (touchL J l).pos
  unfold measJ
  rw [h] at h1
  simp only [List.length_nil] at h1
  omega

end Go.Hg

namespace Go.Hg
open Go.RowKit Go.Proofs

theorem tmod20 (k : Int) : -20 < k.tmod 20 ∧ k.tmod 20 < 20 := by
  refine ⟨?_, Int.tmod_lt_of_pos _ (by decide)⟩
  have h := Int.tmod_lt_of_pos (-k) (b := 20) (by decide)
  rw [Int.neg_tmod] at h
  omega
set_option maxHeartbeats 1000000 in
theorem keepMod20 (k : Int) (w : World) : Calls Tryz.prog 8 #[.int .i64 k, .int .i64 20] w fun e w' => (∃ m : Nat, m < 20 ∧ e = .returned (.int .i64 m)) ∧ w = w' := by
  obtain ⟨h1, h2⟩ := tmod20 k
  have h3 : IntKind.i64.wrap (k.tmod 20 + 20) = k.tmod 20 + 20 := by rw [IntKind.wrap_i64]; omega
  have HM := Lib.hid (show 0 ≤ (k.tmod 20 + 20) % 20 ∧ (k.tmod 20 + 20) % 20 < 20 by omega)
  go_enter Tryz.func8, Tryz.ntmps8
  go_wp2
  go_ret
  refine ⟨⟨((k.tmod 20 + 20) % 20).toNat, by have := HM.out; omega, ?_⟩, rfl⟩
  rw [Int.toNat_of_nonneg HM.out.1]
  rfl
theorem newE_form {r : PRule} (h : formR r = true) (c : Nat) (h1 : 1 ≤ c) (h2 : c ≤ 1024) : newE r c = 0 := by
  unfold newE
  rw [if_neg (by rw [h]; decide), if_neg (by omega)]
theorem touchL_rc (J : PJob) (l : List Int) : (touchL J l).r = J.r ∧ (touchL J l).chunk = J.chunk := by
  induction l generalizing J with
  | nil => exact ⟨rfl, rfl⟩
  | cons a t ih => exact ⟨(ih (touchJ J a)).1.trans (touchJ_r J a).1, (ih (touchJ J a)).2.trans (touchJ_r J a).2⟩
theorem tch_one (G : PGraph) (r : PRule) (c : Int) : (stepJ G ⟨r, c, 1, []⟩).tch = [] := by
  unfold stepJ
  simp only [List.drop_nil]
  split
  · split <;> rfl
  · rfl

set_option maxRecDepth 100000 in
set_option maxHeartbeats 16000000 in
theorem law23Ends (S SI : Nat → Prop) (v iv : Value) (r : PRule) (l : List POp) (ids : List Int) (w : World) (hx : ExG w) (hl : OpsR S w v l) (hi : IdsR SI w iv ids) (h64 : ∀ x ∈ ids, (Lit.int .i64 x).wf = true) :
    Calls Tryz.prog 3 #[r.args, v, iv] w fun e w' => e = .returned (.bool true) ∧ Grow w w' := by
  have HX := Lib.hid hx; have HL := Lib.hid hl; have HI := Lib.hid hi; have H64 := Lib.hid h64
  obtain ⟨_, _, rfl, -, -, -⟩ := SlR.open hl
  obtain ⟨ai, ci, rfl, hic, hcc, -⟩ := SlR.open hi
  unfold maxLen at hcc
  have HW := Lib.hid (show ∀ o1, Grow w (w.alloc o1) from fun o1 => (Grow.rfl' w).allocd o1)
  have HRN := Lib.hid (fun w' => ruleBoxNew w r w')
  obtain ⟨W1, hW1⟩ : ∃ W1, w.alloc (.cells #[.int .i64 r.id, .int .i64 r.kind, .string r.typ, .string r.name, .string r.from_, .string r.to_, .int .i64 r.n, .int .i64 r.state] 23) = W1 := ⟨_, rfl⟩
  have HG1 := Lib.hid (show Grow w W1 from hW1 ▸ (Grow.rfl' w).allocd _)
  have HR1 := Lib.hid (show RuleBox W1 w.heap.size r from HRN.out W1 (hW1 ▸ Grow.rfl' _))
  clear hx hl hi h64
  go_enter Tryz.func3, Tryz.ntmps3
  obtain ⟨hrl, c1, c2, c3, c4, c5, c6, c7, c0⟩ := HR1.out.cells
  go_wp2_with fail
  refine (keepMod20 r.id W1).mono ?_
  rintro e w1 ⟨⟨m1, hm1, rfl⟩, rfl⟩
  clear hW1
  go_wp2_with fail
  refine (lawMade S _ l W1 (HL.out.growS HG1.out)).mono ?_
  intro e w3 h3
  clear hrl c1 c2 c3 c4 c5 c6 c7 c0
  rcases h3 with ⟨-, rfl, g3⟩ | ⟨-, Bg, Bq, rfl, hpr⟩
  · have HG3 := Lib.hid (HG1.out.step g3)
    clear g3
    go_wp2_with fail
    refine (law23Wakes w3 (HX.out.grow HG3.out)).mono ?_
    rintro e w4 ⟨rfl, g4⟩
    have HG4 := Lib.hid (HG3.out.step g4)
    clear g4
    go_wp2
    go_ret
    exact ⟨rfl, HG4.out⟩
  have hgd0 : goodG (madeG l) = true := madeK_good _ _
  have hi0 : GInv (madeG l) := madeK_inv _ _
  generalize madeG l = G at *
  have HGD := Lib.hid hgd0; have HGI := Lib.hid hi0
  obtain ⟨SG, SQ, hok, hoq, -, hb1, hb2, g13⟩ := hpr
  have HG3 := Lib.hid (HG1.out.step g13)
  have HOK := Lib.hid hok; have HOQ := Lib.hid hoq
  have HR3 := Lib.hid (HR1.out.grow g13)
  have HSG := Lib.hid (show ∀ b, SG b → b < w3.heap.size from fun b h => (hb1 b h).2)
  have HSQ := Lib.hid (show ∀ b, SQ b → b < w3.heap.size from fun b h => (hb2 b h).2)
  clear hgd0 hi0 hok hoq hb1 hb2 g13
  obtain ⟨hrl, c1, c2, c3, c4, c5, c6, c7, c0⟩ := HR3.out.cells
  go_wp2_with fail
  refine (keepLargeRule r w3).mono ?_
  rintro e w4 ⟨bl, rfl, g4⟩
  have HG4 := Lib.hid (HG3.out.step g4); have HR4 := Lib.hid (HR3.out.grow g4); have HG34 := Lib.hid g4
  clear g4 hrl c1 c2 c3 c4 c5 c6 c7 c0
  cases bl
  rotate_left 1
  · go_wp2_with fail
    refine (law23Wakes w4 (HX.out.grow HG4.out)).mono ?_
    rintro e w5 ⟨rfl, g5⟩
    have HG5 := Lib.hid (HG4.out.step g5)
    clear g5
    go_wp2
    go_ret
    exact ⟨rfl, HG5.out⟩
  by_cases h1000 : (1000 : Int) < (ids.length : Int)
  · go_wp2_with fail
    refine (law23Wakes w4 (HX.out.grow HG4.out)).mono ?_
    rintro e w5 ⟨rfl, g5⟩
    have HG5 := Lib.hid (HG4.out.step g5)
    clear g5
    go_wp2
    go_ret
    exact ⟨rfl, HG5.out⟩
  obtain ⟨hrl, c1, c2, c3, c4, c5, c6, c7, c0⟩ := HR4.out.cells
  go_wp2_with fail
  refine (refForm r w4).mono ?_
  rintro e w5 ⟨rfl, g5⟩
  have HG5 := Lib.hid (HG4.out.step g5); have HR5 := Lib.hid (HR4.out.grow g5); have HG35 := Lib.hid (HG34.out.step g5)
  clear g5 hrl c1 c2 c3 c4 c5 c6 c7 c0
  obtain ⟨bf, hbf⟩ : ∃ b, formR r = b := ⟨_, rfl⟩
  have HF := Lib.hid hbf
  rw [hbf]
  clear hbf
  cases bf
  · go_wp2_with fail
    refine (law23Wakes w5 (HX.out.grow HG5.out)).mono ?_
    rintro e w6 ⟨rfl, g6⟩
    have HG6 := Lib.hid (HG5.out.step g6)
    clear g6
    go_wp2
    go_ret
    exact ⟨rfl, HG6.out⟩
  go_wp2_with fail
  refine (keepMod20 _ w5).mono ?_
  rintro e w6 ⟨⟨m2, hm2, rfl⟩, hw⟩
  subst hw
  obtain ⟨C, hC⟩ : ∃ C : Nat, (1 : Int) + (m2 : Int) = (C : Int) := ⟨m2 + 1, by omega⟩
  have hC1 : 1 ≤ C ∧ C ≤ 20 := by omega
  obtain ⟨hrl, c1, c2, c3, c4, c5, c6, c7, c0⟩ := HR5.out.cells
  go_wp2_with fail
  refine (buildNew r C w5).mono ?_
  rintro e w6 ⟨g6, h6⟩
  clear hC hm2
  obtain ⟨B, rfl, hj⟩ : ∃ B, e = .returned (.tuple #[.pointer (some ⟨B, 0, none⟩), .int .i64 0]) ∧ JobOk (fun b => w5.heap.size ≤ b) w6 B ⟨r, C, 1, []⟩ := by
    rcases h6 with ⟨h, -⟩ | ⟨-, h⟩
    · exact absurd (newE_form HF.out C hC1.1 (by omega)) h
    · exact h
  have hs35 := HG35.out.size
  have HJ6 := Lib.hid hj.cut
  have HG36 := Lib.hid (HG35.out.step g6)
  have HG6 := Lib.hid (HG3.out.step HG36.out)
  have HOK6 := Lib.hid (HOK.out.grow HG36.out)
  have HSJ := Lib.hid (show ∀ b, SG b → ¬ (w5.heap.size ≤ b ∧ b < w6.heap.size) from fun b hb h => by have := HSG.out b hb; omega)
  have HFW := Lib.hid (show ∀ b, (w5.heap.size ≤ b ∧ b < w6.heap.size) → w.heap.size ≤ b from fun b h => by have := HG3.out.size; omega)
  have HI0 := Lib.hid (show JobInv ⟨r, C, 1, []⟩ from ⟨by show (1 : Int) ≤ (C : Int); omega, by show (C : Int) ≤ 1024; omega, by show (1 : Int) ≤ 1; omega, by show (1 : Int) ≤ 4611686018427387904; omega, List.Pairwise.nil, by simp, by simp⟩)
  have hw63 : w.heap.size < w3.heap.size := blk_lt HR3.out
  have HRC := Lib.hid (show ∀ w', Mod (fun b => w5.heap.size ≤ b ∧ b < w6.heap.size) w6 w' → RuleBox w' w.heap.size r from fun w' m => (m.block w.heap.size (by have := HG36.out.size; omega) (by omega)).trans (RuleBox.grow HR5.out g6))
  have HQC := Lib.hid (show ∀ w', Mod (fun b => w5.heap.size ≤ b ∧ b < w6.heap.size) w6 w' → GraphOk 42 SQ w' Bq G from fun w' m => (HOQ.out.grow HG36.out).keep m (fun b hb h => by have := HSQ.out b hb; omega))
  clear g6 h6 hj hrl c1 c2 c3 c4 c5 c6 c7 c0
  go_wp2_with fail
  refine (jobStep _ SG B Bg ⟨r, C, 1, []⟩ G w6 HJ6.out HI0.out HOK6.out HGI.out HSJ.out).mono ?_
  rintro e w7 ⟨rfl, hj7, m7⟩
  have HI7 := Lib.hid (stepJ_inv HGI.out HI0.out)
  have HT7 := Lib.hid (tch_one G r C)
  have HRC7 := Lib.hid (stepJ_r G ⟨r, C, 1, []⟩)
  generalize stepJ G ⟨r, C, 1, []⟩ = J7 at *
  have HJ7 := Lib.hid hj7; have HOK7 := Lib.hid (HOK6.out.keep m7 HSJ.out); have HM7 := Lib.hid m7
  have HG7 := Lib.hid (HG6.out.modd m7 HFW.out)
  have hs67 := m7.size
  clear hj7 m7
  generalize endedJ J7 G.next = e7
  have HA7 := Lib.hid (show ∀ o1, Grow w7 (w7.alloc o1) from fun o1 => (Grow.rfl' w7).allocd o1)
  go_wp2_with (at_builtin; go_must (refine wpList_append_L rfl (.tmp 64) (.tmp 65) 25 rfl rowInt64 Tryz.underlying25 w7.heap.size _ rfl _ rfl ids (HI.out.growS (HG7.out.step (HA7.out _))) idOk64 (by simp) (by unfold maxLen; omega) (by omega) ?_))
  intro v8 w8 hown8 g8
  have HIN8 := Lib.hid hown8.toR
  have HG78 := Lib.hid ((HA7.out _).step g8)
  obtain ⟨a8, c8, rfl, -, -⟩ := SlR.open HIN8.out
  clear hown8 g8
  go_wp2_with fail
  refine (jobTouch _ _ B J7 _ ids w8 (HJ7.out.grow HG78.out) HI7.out HIN8.out (fun b hb h => by have h1 : w7.heap.size ≤ b := hb; omega) H64.out).mono ?_
  rintro e w9 ⟨rfl, hj9, m9⟩
  have HI9 := Lib.hid (touchL_inv HI7.out H64.out)
  have HRC9 := Lib.hid (show (touchL J7 ids).r = r ∧ (touchL J7 ids).chunk = C from ⟨(touchL_rc J7 ids).1.trans HRC7.out.1, (touchL_rc J7 ids).2.trans HRC7.out.2⟩)
  have HMS := Lib.hid (meas_start (G := G) (J := J7) ids HT7.out)
  generalize touchL J7 ids = J9 at *
  have HJ9 := Lib.hid hj9
  have HOK9 := Lib.hid ((HOK7.out.grow HG78.out).keep m9 HSJ.out)
  have HM9 := Lib.hid ((HM7.out.step (Mod.of_grow HG78.out)).step m9)
  have HG9 := Lib.hid ((HG7.out.step HG78.out).modd m9 HFW.out)
  clear hj9 m9
  obtain ⟨na, nc, ea, ec, hbq, d0, d1, -, -, -⟩ := (HQC.out w9 HM9.out).read
  have hn1 : G.nodes.length ≤ 1024 ∧ G.edges.length ≤ 1024 := by have := HGI.out.items; omega
  obtain ⟨N, hN⟩ : ∃ N, G.nodes.length + G.edges.length + ids.length = N := ⟨_, rfl⟩
  rw [hN] at HMS
  go_upto_region 11 with fail
  go_cut [14] (fun a wx => a = .int .i64 (N : Int) ∧ Grow w9 wx)
  case first =>
    go_wp2_with fail
    refine wp_region_grow (by kernel_rfl) (by kernel_rfl) ?_
    repeat (go_big_quiet_step (fail))
    refine wpQuiet_nil ?_
    intro wq hq
    go_wp2_with fail
    go_meet
    exact ⟨by rw [← hN]; congr 1, hq⟩
  case rest =>
    obtain ⟨rfl, hg10⟩ := hcut
    obtain ⟨w10, rfl⟩ : ∃ w10, w10 = wc := ⟨_, rfl⟩
    have HJ10 := Lib.hid (HJ9.out.grow hg10); have HOK10 := Lib.hid (HOK9.out.grow hg10); have HM10 := Lib.hid (HM9.out.step (Mod.of_grow hg10)); have HG10 := Lib.hid (HG9.out.step hg10)
    obtain ⟨q, hq⟩ : ∃ q : Nat, N / C = q := ⟨_, rfl⟩
    have HQ := Lib.hid (show N < (q + 1) * C by rw [← hq]; have := Nat.lt_div_mul_add (a := N) (b := C) (by omega); rw [Nat.succ_mul]; exact this)
    have hNb : N ≤ 4000 := by omega
    have hqq : (N : Int) / (C : Int) = (q : Int) := by rw [← hq]; simp
    have hqb : q ≤ 4000 := by rw [← hq]; exact Nat.le_trans (Nat.div_le_self _ _) hNb
    clear hg10 hN hq d0 d1 hbq HJ9 HOK9 HM9 HG9
    go_wp2_with fail
    go_loopg [15, 16] (q + 2) (fun g ev iv wr => ∃ (i : Nat) (J : PJob) (eb : Bool), i ≤ q + 2 ∧ g = q + 2 - i ∧ iv = .int .i64 i ∧ ev = .bool eb ∧ JobOk (fun b => w5.heap.size ≤ b ∧ b < w6.heap.size) wr B J ∧ JobInv J ∧ J.r = r ∧ J.chunk = C ∧ GraphOk 106 SG wr Bg G ∧ Mod (fun b => w5.heap.size ≤ b ∧ b < w6.heap.size) w6 wr ∧ Grow w wr ∧ (eb = true → endedJ J G.next = true) ∧ (eb = false → measJ G J + i * C ≤ N))
    case atStart => exact ⟨0, J9, false, by omega, by omega, rfl, rfl, HJ10.out, HI9.out, HRC9.out.1, HRC9.out.2, HOK10.out, HM10.out, HG10.out, by simp, fun _ => by have := HMS.out; omega⟩
    case round =>
      obtain ⟨i, J, eb, hi, rfl, rfl, rfl, hjr, hir, hr1, hr2, hokr, hmr, hgr, he1, he2⟩ := hrel
      have HJR := Lib.hid hjr; have HIR := Lib.hid hir; have HJr := Lib.hid hr1; have HJc := Lib.hid hr2; have HOKR := Lib.hid hokr; have HMR := Lib.hid hmr; have HGR := Lib.hid hgr
      clear hjr hir hr1 hr2 hokr hmr hgr
      by_cases hlt : i ≤ q + 1
      · cases eb
        · have HMS2 := Lib.hid (he2 rfl)
          have HST := Lib.hid (stepJ_meas (G := G) HIR.out)
          clear he1 he2
          have hltI : (i : Int) ≤ (q : Int) + 1 := by omega
          go_wp2_with fail
          refine (jobStep _ SG B Bg J G wr HJR.out HIR.out HOKR.out HGI.out HSJ.out).mono ?_
          rintro e w11 ⟨rfl, hj, m⟩
          have HJ11 := Lib.hid hj; have HOK11 := Lib.hid (HOKR.out.keep m HSJ.out); have HM11 := Lib.hid (HMR.out.step m); have HG11 := Lib.hid (HGR.out.modd m HFW.out)
          have HI11 := Lib.hid (stepJ_inv HGI.out HIR.out)
          have HRC11 := Lib.hid (stepJ_r G J)
          clear hj m
          generalize stepJ G J = J' at *
          obtain ⟨eb, heb⟩ : ∃ b, endedJ J' G.next = b := ⟨_, rfl⟩
          have HEB := Lib.hid heb
          rw [heb]
          clear heb
          go_wp2_with fail
          go_roundg (q + 2 - (i + 1))
          case measure => omega
          case rel => exact ⟨i + 1, J', eb, by omega, rfl, by go_num, rfl, HJ11.out, HI11.out, HRC11.out.1.trans HJr.out, HRC11.out.2.trans HJc.out, HOK11.out, HM11.out, HG11.out, fun h => HEB.out.trans h, fun h => by
            rcases HST.out with h2 | h2
            · rw [HEB.out, h] at h2; cases h2
            · have h3 := HMS2.out
              rw [HJc.out, Int.toNat_natCast] at h2
              rw [Nat.succ_mul]
              omega⟩
        · have HEN := Lib.hid (he1 rfl)
          clear he1 he2
          have hltI : (i : Int) ≤ (q : Int) + 1 := by omega
          have HVD := Lib.hid (show verdV G J = .tuple #[.bool (keepR G.nodes G.edges r), .int .i64 0] by unfold verdV; rw [HEN.out, HJr.out]; rfl)
          have H64e := Lib.hid (ends64f HGD.out)
          go_wp2_with fail
          refine (jobVerdict _ SG B Bg J G wr HJR.out HIR.out HOKR.out HGI.out H64e.out).mono ?_
          rintro e wa ⟨rfl, ga⟩
          rw [HVD.out]
          have HGa := Lib.hid (HGR.out.step ga); have HMa := Lib.hid (HMR.out.step (Mod.of_grow ga))
          obtain ⟨hrl, c1, c2, c3, c4, c5, c6, c7, c0⟩ := (HRC.out wa HMa.out).cells
          obtain ⟨na2, nc2, ea2, ec2, hbq, d0, d1, -, hnr, her⟩ := (HQC.out wa HMa.out).read
          have HNR := Lib.hid hnr; have HER := Lib.hid her
          have HNL := Lib.hid (show G.nodes.length ≤ 1099511627776 ∧ G.edges.length ≤ 1099511627776 by omega)
          have HXa := Lib.hid (HX.out.grow HGa.out)
          clear ga hnr her
          obtain ⟨kr, hkr⟩ : ∃ b, keepR G.nodes G.edges r = b := ⟨_, rfl⟩
          have HKR := Lib.hid hkr
          rw [hkr]
          clear hkr
          go_wp2_with fail
          refine wp_region_grow (by kernel_rfl) (by kernel_rfl) ?_
          repeat (go_big_quiet_step (first | (go_at_call 17; exact calls_gr ((ref15Keeps _ _ _ G.nodes G.edges r _ (HNR.out.grow (by first | assumption | exact Gr.h _)) (HER.out.grow (by first | assumption | exact Gr.h _)) HNL.out.1 HNL.out.2).mono fun e w' ⟨he, hw⟩ => ⟨by rw [he, HKR.out], hw⟩)) | (go_at_call 12; exact calls_gr (law23Wakes _ (HXa.out.grow (by first | assumption | exact Gr.h _))))))
          refine wpQuiet_nil ?_
          intro wd hd
          have HGd := Lib.hid (HGa.out.step hd)
          clear hd
          go_wp2
          go_ret
          exact ⟨by first | rfl | (cases kr <;> rfl) | (simp; done) | (cases kr <;> simp), HGd.out⟩
      · have hiq : i = q + 2 := by omega
        have hltI : ¬ (i : Int) ≤ (q : Int) + 1 := by omega
        cases eb
        · have h1 := he2 rfl
          have h2 := HQ.out
          subst hiq
          have h3 : (q + 2) * C = (q + 1) * C + C := Nat.succ_mul _ _
          omega
        · have HEN := Lib.hid (he1 rfl)
          clear he1 he2
          have HVD := Lib.hid (show verdV G J = .tuple #[.bool (keepR G.nodes G.edges r), .int .i64 0] by unfold verdV; rw [HEN.out, HJr.out]; rfl)
          have H64e := Lib.hid (ends64f HGD.out)
          go_wp2_with fail
          refine (jobVerdict _ SG B Bg J G wr HJR.out HIR.out HOKR.out HGI.out H64e.out).mono ?_
          rintro e wa ⟨rfl, ga⟩
          rw [HVD.out]
          have HGa := Lib.hid (HGR.out.step ga); have HMa := Lib.hid (HMR.out.step (Mod.of_grow ga))
          obtain ⟨hrl, c1, c2, c3, c4, c5, c6, c7, c0⟩ := (HRC.out wa HMa.out).cells
          obtain ⟨na2, nc2, ea2, ec2, hbq, d0, d1, -, hnr, her⟩ := (HQC.out wa HMa.out).read
          have HNR := Lib.hid hnr; have HER := Lib.hid her
          have HNL := Lib.hid (show G.nodes.length ≤ 1099511627776 ∧ G.edges.length ≤ 1099511627776 by omega)
          have HXa := Lib.hid (HX.out.grow HGa.out)
          clear ga hnr her
          obtain ⟨kr, hkr⟩ : ∃ b, keepR G.nodes G.edges r = b := ⟨_, rfl⟩
          have HKR := Lib.hid hkr
          rw [hkr]
          clear hkr
          go_wp2_with fail
          refine wp_region_grow (by kernel_rfl) (by kernel_rfl) ?_
          repeat (go_big_quiet_step (first | (go_at_call 17; exact calls_gr ((ref15Keeps _ _ _ G.nodes G.edges r _ (HNR.out.grow (by first | assumption | exact Gr.h _)) (HER.out.grow (by first | assumption | exact Gr.h _)) HNL.out.1 HNL.out.2).mono fun e w' ⟨he, hw⟩ => ⟨by rw [he, HKR.out], hw⟩)) | (go_at_call 12; exact calls_gr (law23Wakes _ (HXa.out.grow (by first | assumption | exact Gr.h _))))))
          refine wpQuiet_nil ?_
          intro wd hd
          have HGd := Lib.hid (HGa.out.step hd)
          clear hd
          go_wp2
          go_ret
          exact ⟨by first | rfl | (cases kr <;> rfl) | (simp; done) | (cases kr <;> simp), HGd.out⟩
end Go.Hg
