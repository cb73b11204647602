/- ref20.Concerned; keep.Ints of what is alike. Conditions: those that each theorem names. -/
import Derived.WalkKit
import Derived.WalkSpells
import Derived.WalkLawsBesides
import Derived.Lib.Hide
import Derived.BigQuiet
import Derived.Deep.LoopGhost
import Derived.Test.YtanijffgogpmdaaGreatRows
import Derived.Lib.SliceRun
import Derived.WideMake
import Derived.Deep.RegionLaw
import Derived.Lib.Overlaps
import Derived.Deep.RegionHeld3
import Derived.Laws.ResultCell
import Derived.Laws.EntriesVeiled
import Derived.Maps.OwnOps
import Derived.Maps.OwnSet
import Derived.Carry
import Derived.Lib.SlKeysI
import Derived.Maps.RangeWalk
import Derived.Lib.SlMapFilter
import Derived.Deep.DeepCutAuto
import Derived.Shelf.SlIterI.Nil
import Derived.Shelf.SortM.Plain
import Derived.Shelf.SortM.SortNone
import Derived.Shelf.SlMaps.DeleteFunc
import Derived.Shelf.SlSortCmp.WholeK
import Derived.Deep.CutBlock
import Derived.Test.YtanijffgogpmdaaGreatDirN
import Derived.Test.YtanijffgogpmdaaGreatDirO
import Derived.Test.YtanijffgogpmdaaGreatDirP
import Derived.Test.YtanijffgogpmdaaGreatDirR
import Derived.Test.YtanijffgogpmdaaGreatDirS
import Derived.Test.YtanijffgogpmdaaGreatDirT
import Derived.Test.YtanijffgogpmdaaGreatDirW
import Derived.Test.YtanijffgogpmdaaGreatDirAa
import Derived.Test.YtanijffgogpmdaaGreatDirAc
import Derived.Test.YtanijffgogpmdaaGreatDirAd
import Derived.Test.YtanijffgogpmdaaGreatDirAj
namespace Go.Hg
open Go.RowKit Go.Proofs

theorem infoIntI : (Tryz.prog.info? 3).map (fun i => (i.zero, i.size, i.bytes)) = some (some (.int .i64 0), 1, 8) := by kernel_rfl
theorem rowIntI : RowT Tryz.prog 3 1 8 := RowT.of infoIntI rfl (by omega)
theorem one1I (n : Int) : ∀ u ∈ [Value.int .i64 n], u.oneCell' = true := by
  intro u hu
  rw [List.mem_singleton] at hu
  subst hu
  rfl
theorem idOk (x : Int) (r : List Value) (h : r = [Value.int .i64 x]) : r.length = 1 ∧ ∀ u ∈ r, u.oneCell' = true := by
  subst h
  exact ⟨rfl, one1I x⟩
theorem rdBI {W : World} {n : Int} {nb : Nat} (h : W.heap[nb]? = some (.cells #[.int .i64 n] 3 (0, 0))) : Rd W 1 (.slice (some ⟨nb, 0, none⟩) 1 1) 1 [Value.int .i64 n] := by
  refine ⟨rfl, _, _, rfl, .inr ⟨_, rfl, fun j u hu => ?_⟩⟩
  have hadd : (⟨nb, 0, none⟩ : Addr).add j = ⟨nb, j, none⟩ := by unfold Addr.add; split <;> simp_all
  rw [hadd, blk_cell h, ← Array.getElem?_toList]
  exact hu

set_option maxRecDepth 100000 in
set_option maxHeartbeats 1000000 in
theorem keepInts (S S2 : Nat → Prop) (av bv : Value) (l : List Int) (w : World) (ha : IdsR S w av l) (hb : IdsR S2 w bv l) :
    Calls Tryz.prog 45 #[av, bv] w fun e w' => e = .returned (.bool true) ∧ Grow w w' := by
  obtain ⟨aa, ca, rfl, hal, hac, hA⟩ := SlR.open ha
  obtain ⟨ab, cb, rfl, hbl, hbc, hB⟩ := SlR.open hb
  unfold maxLen at hac hbc
  have HA := Lib.hid hA; have HB := Lib.hid hB
  clear ha hb hA hB
  go_enter Tryz.func45, Tryz.ntmps45
  go_wp2
  go_loopg [5] l.length (fun g i wr => ∃ k : Nat, k ≤ l.length ∧ g = l.length - k ∧ i = .int .i64 k ∧ Grow w wr)
  case atStart => exact ⟨0, by omega, by omega, rfl, Grow.rfl' w⟩
  case round =>
    obtain ⟨k, hk, rfl, rfl, hgr⟩ := hrel
    have HGR := Lib.hid hgr
    by_cases hkl : k < l.length
    · obtain ⟨ba, oa, ra, rfl, hSa, hba, hRa, hca⟩ := HA.out k l[k] (List.getElem?_eq_getElem hkl)
      obtain ⟨bb, ob, rb, rfl, hSb, hbb, hRb, hcb⟩ := HB.out k l[k] (List.getElem?_eq_getElem hkl)
      have ha2 : ba < wr.heap.size := Nat.lt_of_lt_of_le hba hgr.size
      have hb2 : bb < wr.heap.size := Nat.lt_of_lt_of_le hbb hgr.size
      have hca0 := (hgr.cell (p := ⟨ba, oa + k * 1 + 0, none⟩) hba).trans (hca 0 (.int .i64 l[k]) (by rw [show ra = [.int .i64 l[k]] from hRa]; rfl))
      have hcb0 := (hgr.cell (p := ⟨bb, ob + k * 1 + 0, none⟩) hbb).trans (hcb 0 (.int .i64 l[k]) (by rw [show rb = [.int .i64 l[k]] from hRb]; rfl))
      rw [Nat.mul_one, Nat.add_zero] at hca0 hcb0
      clear hca hcb hRa hRb hSa hSb hba hbb hgr
      generalize l[k] = x at *
      go_wp2_with fail
      refine wp_region_grow (by kernel_rfl) (by kernel_rfl) ?_
      repeat (go_big_quiet_step (fail))
      refine wpQuiet_nil ?_
      intro w2 hw2
      go_wp2_with fail
      go_roundg (l.length - (k + 1))
      case measure => omega
      case rel => exact ⟨k + 1, by omega, rfl, by go_num, HGR.out.step hw2⟩
    · clear hgr
      go_wp2
      go_ret
      exact ⟨rfl, HGR.out⟩

theorem putL_new {l : List Int} {n : Int} {k : Nat} (hp : l.Pairwise (· < ·)) (h0 : ∀ y ∈ l.take k, y < n) (hk : k = l.length ∨ ∃ h : k < l.length, n < l[k]) : putL l n = l.take k ++ [n] ++ l.drop k := by
  have hs : RSet (l.take k ++ [n] ++ l.drop k) (fun y => y ∈ l ∨ y = n) := by
    constructor
    · have h1 : (l.take k ++ l.drop k).Pairwise (· < ·) := by rw [List.take_append_drop]; exact hp
      rw [List.pairwise_append] at h1
      rw [List.append_assoc, List.pairwise_append]
      refine ⟨h1.1, ?_, ?_⟩
      · rw [List.singleton_append, List.pairwise_cons]
        refine ⟨fun y hy => ?_, h1.2.1⟩
        rcases hk with rfl | ⟨h, hlt⟩
        · rw [List.drop_length] at hy; cases hy
        · rw [List.drop_eq_getElem_cons h] at hy h1
          rcases List.mem_cons.1 hy with rfl | hy
          · exact hlt
          · have := (List.pairwise_cons.1 h1.2.1).1 y hy; omega
      · intro a ha b hb
        rcases List.mem_append.1 hb with hb | hb
        · rw [List.mem_singleton] at hb; subst hb; exact h0 a ha
        · exact h1.2.2 a ha b hb
    · intro y
      rw [List.mem_append, List.mem_append, List.mem_singleton]
      constructor
      · rintro ((h | h) | h)
        · exact .inl (List.mem_of_mem_take h)
        · exact .inr h
        · exact .inl (List.mem_of_mem_drop h)
      · rintro (h | h)
        · rw [← List.take_append_drop k l] at h
          rcases List.mem_append.1 h with h | h
          · exact .inl (.inl h)
          · exact .inr h
        · exact .inl (.inr h)
  have h2 : RSet (putL l n) (fun y => y ∈ l ∨ y = n) := ⟨putL_rises hp n, fun y => mem_putL l n y⟩
  exact h2.uniq hs fun _ => Iff.rfl
theorem putL_here {l : List Int} {n : Int} {k : Nat} (hk : k < l.length) (h : l[k] = n) : putL l n = l := by
  unfold putL
  rw [if_pos (by rw [← h]; exact List.getElem_mem hk)]

set_option maxRecDepth 100000 in
set_option maxHeartbeats 16000000 in
theorem ref20Concerned (S S2 : Nat → Prop) (nv ev rv iv nx lv : Value) (l : List PRule) (sp : List PSpot) (w : World) (hl : SlR S w 8 RRule rv l) (hs : SpotsR S2 w lv sp) (hb : l.length ≤ 4096)
    (hv : (∃ a n c, nv = .slice a n c) ∧ (∃ a n c, ev = .slice a n c) ∧ (∃ a n c, iv = .slice a n c) ∧ ∃ n, nx = .int .i64 n) :
    Calls Tryz.prog 46 #[.agg #[nv, ev, rv, iv, nx], lv] w fun e w' => ∃ v L, e = .returned v ∧ RSet L (· ∈ toldR sp l) ∧ IdsR (fun _ => True) w' v L ∧ Grow w w' := by
  obtain ⟨⟨an, nn, cn, rfl⟩, ⟨ae, ne, ce, rfl⟩, ⟨ai, ni, ci, rfl⟩, ⟨xn, rfl⟩⟩ := hv
  have HS := Lib.hid hs; have HBD := Lib.hid hb
  obtain ⟨al, cl, rfl, hll, hlc, hL⟩ := SlR.open hl
  obtain ⟨_, _, rfl, _⟩ := SlR.open hs
  unfold maxLen at hlc
  have HL := Lib.hid hL
  obtain ⟨W1, hW1⟩ : ∃ W1, w.alloc (.cells #[.slice an nn cn, .slice ae ne ce, .slice al l.length cl, .slice ai ni ci, .int .i64 xn] 52) = W1 := ⟨_, rfl⟩
  have HG1 := Lib.hid (show Grow w W1 from hW1 ▸ (Grow.rfl' w).allocd _)
  have HCC := Lib.hid (show ∀ w', Grow W1 w' → w.heap.size < w'.heap.size ∧ w'.cell? ⟨w.heap.size, 2, none⟩ = some (.slice al l.length cl) from fun w' g => by
    have h : w'.heap[w.heap.size]? = some (.cells #[.slice an nn cn, .slice ae ne ce, .slice al l.length cl, .slice ai ni ci, .int .i64 xn] 52 (0, 0)) := by
      rw [← hW1] at g
      rw [g.heapEq (by simp)]; exact heap_alloc_new w _
    exact ⟨blk_lt h, (blk_cell h _).trans rfl⟩)
  have HW1e := Lib.hid hW1
  clear hs hl hb hL hW1
  go_enter Tryz.func46, Tryz.ntmps46
  go_wp2
  rw [HW1e.out]
  clear HW1e
  go_loopg [5, 6] l.length (fun g ov iv wr => ∃ (i : Nat) (L : List Int), i ≤ l.length ∧ g = l.length - i ∧ iv = .int .i64 i ∧ RSet L (· ∈ toldR sp (l.take i)) ∧ L.length ≤ i ∧ IdsR (fun _ => True) wr ov L ∧ (L = [] → ov = .slice none 0 0) ∧ Grow W1 wr)
  case atStart => exact ⟨0, [], by omega, by omega, rfl, RSet.nil (by simp [toldR]), by simp, (OwnL.nil W1 3 1 _).toSl (by simp), fun _ => rfl, Grow.rfl' _⟩
  case round =>
    obtain ⟨i, L, hi, rfl, rfl, hset, hln, hids, hnil, hg⟩ := hrel
    have HSETL := Lib.hid hset; have HLN := Lib.hid hln; have HIDS := Lib.hid hids; have HNIL := Lib.hid hnil; have HG0 := Lib.hid hg
    obtain ⟨aK, cK, rfl, hLc, hcm, hO⟩ := SlR.open hids
    unfold maxLen at hcm
    have HO := Lib.hid hO
    clear hset hln hids hnil hO
    obtain ⟨hbw, hcat⟩ := HCC.out wr hg
    by_cases hil : i < l.length
    · obtain ⟨br, or_, rr, rfl, hSa, hba, hRa, hca⟩ := HL.out i l[i] (List.getElem?_eq_getElem hil)
      have HX := Lib.hid (show ∀ w', Grow W1 w' → _ from fun w' g => ruleAt hRa hba (HG1.out.step g) hca)
      have HT := Lib.hid (show l.take (i + 1) = l.take i ++ [l[i]] from List.take_succ_eq_append_getElem hil)
      clear hca hRa hSa hba
      generalize l[i] = r at *
      have HTS := Lib.hid (toldR_snoc sp (l.take i) r)
      obtain ⟨hal, c0, c1, c2, c3, c4, c5, c6, c7⟩ := HX.out wr hg
      obtain ⟨bs, hbs⟩ : ∃ b, (r.state == 2) = b := ⟨_, rfl⟩
      have HBS := Lib.hid (show decide (r.state = 2) = bs by rw [← hbs, int_beq])
      obtain ⟨bt, hbt⟩ : ∃ b, touchR sp r = b := ⟨_, rfl⟩
      have HBT := Lib.hid hbt
      have HSKIP := Lib.hid (show (bs && bt) = false → ∀ w', Grow wr w' → RSet L (· ∈ toldR sp (l.take (i + 1))) ∧ IdsR (fun _ => True) w' (.slice aK L.length cK) L from fun h w' g => ⟨by rw [HT.out, HTS.out, HBS.out, HBT.out, if_neg (by rw [h]; simp)]; exact HSETL.out, HIDS.out.growS g⟩)
      clear hbt
      cases bs
      · have hbn : (r.state != 2) = true := by unfold bne; rw [hbs]; rfl
        clear hbs hg
        go_wp2_with fail
        go_roundg (l.length - (i + 1))
        case measure => omega
        case rel => exact ⟨i + 1, L, by omega, rfl, by go_num, (HSKIP.out rfl wr (Grow.rfl' _)).1, by have := HLN.out; omega, (HSKIP.out rfl wr (Grow.rfl' _)).2, HNIL.out, HG0.out⟩
      · have hbn : (r.state != 2) = false := by unfold bne; rw [hbs]; rfl
        clear hbs hg
        go_wp2_with fail
        refine (ref20Touches S2 _ sp r wr (HS.out.grow (HG1.out.step HG0.out))).mono ?_
        rintro e w3 ⟨rfl, g3⟩
        rw [HBT.out]
        have HG3 := Lib.hid g3
        have HG := Lib.hid (HG0.out.step g3)
        clear g3 hal c0 c1 c2 c3 c4 c5 c6 c7 hbw hcat
        cases bt
        · go_wp2_with fail
          go_roundg (l.length - (i + 1))
          case measure => omega
          case rel => exact ⟨i + 1, L, by omega, rfl, by go_num, (HSKIP.out rfl w3 HG3.out).1, by have := HLN.out; omega, (HSKIP.out rfl w3 HG3.out).2, HNIL.out, HG.out⟩
        · have HSETN := Lib.hid (show toldR sp (l.take (i + 1)) = toldR sp (l.take i) ++ [r.id] by rw [HT.out, HTS.out, HBS.out, HBT.out, if_pos (show (true && true) = true from rfl)])
          have HSET := Lib.hid (show RSet (putL L r.id) (· ∈ toldR sp (l.take (i + 1))) from (HSETL.out.put r.id).congr fun y => by rw [HSETN.out, List.mem_append, List.mem_singleton])
          have HIDS3 := Lib.hid (HIDS.out.growS HG3.out)
          have HO3 := Lib.hid (show ∀ (k : Nat) x, L[k]? = some x → ∃ bo oo, aK = some (⟨bo, oo, none⟩ : Addr) ∧ ∀ w', Grow w3 w' → w'.cell? ⟨bo, oo + k, none⟩ = some (.int .i64 x) from fun k x hx => by
            obtain ⟨b, off, rx, e1, -, hb, hR, hc⟩ := HO.out k x hx
            refine ⟨b, off, e1, fun w' g => ?_⟩
            have h0 := hc 0 (.int .i64 x) (by rw [hR]; rfl)
            rw [Nat.mul_one, Nat.add_zero] at h0
            exact ((HG3.out.step g).cell (p := ⟨b, off + k, none⟩) hb).trans h0)
          have HSS := Lib.hid (show ∀ w', Grow w3 w' → (w'.cell? ⟨w.heap.size, 2, none⟩ = some (.slice (some ⟨br, or_, none⟩) l.length cl) ∧ w'.cell? ⟨br, or_ + i * 8, none⟩ = some (.int .i64 r.id)) from fun w' g => ⟨(HCC.out w' (HG.out.step g)).2, (HX.out w' (HG.out.step g)).2.1⟩)
          clear HIDS HSKIP HX HCC HO
          have HIDS := HIDS3
          clear HIDS3
          obtain ⟨wo, hwo⟩ : ∃ wo, wo = w3 := ⟨_, rfl⟩
          subst hwo
          go_wp2
          go_loopg [7] L.length (fun g kv wi => ∃ k : Nat, k ≤ L.length ∧ g = L.length - k ∧ kv = .int .i64 k ∧ (∀ y ∈ L.take k, y < r.id) ∧ Grow wo wi)
          case atStart => exact ⟨0, by omega, by omega, rfl, by simp, Grow.rfl' _⟩
          case round =>
            obtain ⟨k, hk, rfl, rfl, hall, hgi⟩ := hrel
            obtain ⟨wi, hwi⟩ : ∃ wi, wi = wr := ⟨_, rfl⟩
            subst hwi
            have HALL := Lib.hid hall; have HGI := Lib.hid hgi
            clear hall
            have hi0 : (0 : Int) ≤ (i : Int) := by omega
            have hi1 : (i : Int) < (l.length : Int) := by omega
            by_cases hkl : k < L.length
            · obtain ⟨bo, oo, rfl, hcell⟩ := HO3.out k L[k] (List.getElem?_eq_getElem hkl)
              have HCL := Lib.hid hcell
              have HTL := Lib.hid (show L.take (k + 1) = L.take k ++ [L[k]] from List.take_succ_eq_append_getElem hkl)
              have HPN := Lib.hid (show r.id < L[k] → putL L r.id = L.take k ++ [r.id] ++ L.drop k from fun h => putL_new HSETL.out.1 HALL.out (.inr ⟨hkl, h⟩))
              have HPH := Lib.hid (show L[k] = r.id → putL L r.id = L from fun h => putL_here hkl h)
              have hk0' : (0 : Int) ≤ (k : Int) := by omega
              have hk1' : (k : Int) < (L.length : Int) := by omega
              have hke : ((k : Int) == (L.length : Int)) = false := by simp; omega
              have hke2 : (k == L.length) = false := by simp; omega
              clear hcell
              generalize L[k] = x at *
              have HSC := Lib.hid (show ∀ w', Grow wi w' → (w'.cell? ⟨w.heap.size, 2, none⟩ = some (.slice (some ⟨br, or_, none⟩) l.length cl) ∧ w'.cell? ⟨br, or_ + i * 8, none⟩ = some (.int .i64 r.id) ∧ w'.cell? ⟨bo, oo + k, none⟩ = some (.int .i64 x)) from fun w' g => ⟨(HSS.out w' (HGI.out.step g)).1, (HSS.out w' (HGI.out.step g)).2, HCL.out w' (HGI.out.step g)⟩)
              have HD := Lib.hid (show Grow wi wi.drew from (Grow.rfl' wi).drewd)
              clear hgi
              by_cases hlt : x < r.id
              · have hb1 : decide (x < r.id) = true := by simpa using hlt
                have HLT2 := Lib.hid hlt
                clear hlt
                go_wp2_with fail
                go_region_held3 (fun w' => w'.cell? ⟨w.heap.size, 2, none⟩ = some (.slice (some ⟨br, or_, none⟩) l.length cl) ∧ w'.cell? ⟨br, or_ + i * 8, none⟩ = some (.int .i64 r.id) ∧ w'.cell? ⟨bo, oo + k, none⟩ = some (.int .i64 x)) (exact HSC.out _ HD.out) (fail)
                go_wp2
                go_roundg (L.length - (k + 1))
                case measure => omega
                case rel => exact ⟨k + 1, by omega, rfl, by go_num, by rw [HTL.out]; intro y hy; rcases List.mem_append.1 hy with h | h; exact HALL.out y h; simp at h; subst h; exact HLT2.out, HGI.out.step HD.out⟩
              · have hb1 : decide (x < r.id) = false := by simpa using hlt
                have HD2 := Lib.hid (show Grow wi wi.drew.drew from ((Grow.rfl' wi).drewd).drewd)
                by_cases heq : x = r.id
                · have hb2 : (x != r.id) = false := by simpa using heq
                  have HPUT := Lib.hid (HPH.out heq)
                  clear hlt heq
                  go_wp2_with fail
                  go_region_held3 (fun w' => w'.cell? ⟨w.heap.size, 2, none⟩ = some (.slice (some ⟨br, or_, none⟩) l.length cl) ∧ w'.cell? ⟨br, or_ + i * 8, none⟩ = some (.int .i64 r.id) ∧ w'.cell? ⟨bo, oo + k, none⟩ = some (.int .i64 x)) (exact HSC.out _ HD.out) (fail)
                  go_wp2_with fail
                  go_region_held3 (fun w' => w'.cell? ⟨w.heap.size, 2, none⟩ = some (.slice (some ⟨br, or_, none⟩) l.length cl) ∧ w'.cell? ⟨br, or_ + i * 8, none⟩ = some (.int .i64 r.id) ∧ w'.cell? ⟨bo, oo + k, none⟩ = some (.int .i64 x)) (exact HSC.out _ HD2.out) (fail)
                  go_wp2
                  go_roundg (l.length - (i + 1))
                  case measure => omega
                  case rel => exact ⟨i + 1, L, by omega, rfl, by go_num, by rw [← HPUT.out]; exact HSET.out, by have := HLN.out; omega, HIDS.out.growS (HGI.out.step HD2.out), HNIL.out, HG.out.step (HGI.out.step HD2.out)⟩
                · have hb2 : (x != r.id) = true := by simpa using heq
                  have HPUT := Lib.hid (HPN.out (by omega))
                  clear hlt heq
                  go_wp2_with fail
                  go_region_held3 (fun w' => w'.cell? ⟨w.heap.size, 2, none⟩ = some (.slice (some ⟨br, or_, none⟩) l.length cl) ∧ w'.cell? ⟨br, or_ + i * 8, none⟩ = some (.int .i64 r.id) ∧ w'.cell? ⟨bo, oo + k, none⟩ = some (.int .i64 x)) (exact HSC.out _ HD.out) (fail)
                  go_wp2_with fail
                  go_region_held3 (fun w' => w'.cell? ⟨w.heap.size, 2, none⟩ = some (.slice (some ⟨br, or_, none⟩) l.length cl) ∧ w'.cell? ⟨br, or_ + i * 8, none⟩ = some (.int .i64 r.id) ∧ w'.cell? ⟨bo, oo + k, none⟩ = some (.int .i64 x)) (exact HSC.out _ HD2.out) (fail)
                  have hk0 : (0 : Int) ≤ (k : Int) := by omega
                  have hk1 : (k : Int) ≤ (L.length : Int) := by omega
                  have hk2 : (k : Int) ≤ (cK : Int) := by omega
                  have hk3 : (k : Int) < (cK : Int) := by omega
                  have HTK := Lib.hid (show ∀ w', Grow wi w' → IdsR (fun _ => True) w' _ (L.take k) from fun w' g => ((HIDS.out.growS (HGI.out.step g)).takeS k (by omega)))
                  have HDK := Lib.hid (show ∀ w', Grow wi w' → IdsR (fun _ => True) w' _ (L.drop k) from fun w' g => ((HIDS.out.growS (HGI.out.step g)).dropS k (by omega)))
                  have HLT := Lib.hid (show L.length ≤ 4096 ∧ (L.take k).length = k ∧ (L.drop k).length = L.length - k ∧ k ≤ L.length by have := HLN.out; have := HBD.out; simp; omega)
                  have HS6 := Lib.hid (show ∀ w', Grow wi w' → _ from fun w' g => HSS.out w' (HGI.out.step g))
                  go_wp2_with fail
                  refine wp_region_noPanic ?_
                  refine wp_region_held_drew (S := fun w' => w'.cell? ⟨w.heap.size, 2, none⟩ = some (.slice (some ⟨br, or_, none⟩) l.length cl) ∧ w'.cell? ⟨br, or_ + i * 8, none⟩ = some (.int .i64 r.id)) (by kernel_rfl) ?_ (fun hHeld => ?_)
                  · exact HS6.out _ (by repeat first | exact Grow.rfl' _ | exact HGb.out | exact HGa.out | apply Grow.drewd | apply Grow.allocd)
                  refine' wpAnyH_take (i := 1) (oi := ?o1) (v := _) (by simp only [List.getElem?_toArray, List.getElem?_cons_succ, List.getElem?_cons_zero]; rfl) (by kernel_rfl) (by kernel_rfl) (by kernel_rfl) (fun _ _ _ h => h) (Or.inl ⟨by rfl, ?y1⟩) (by assumption) ?r1
                  case y1 =>
                    intro wS hSw
                    try dsimp only at hSw
                    go_simp
                    all_goals with_reducible rfl
                  simp only [Act.put, List.setIfInBounds_toArray, List.set_cons_zero, List.set_cons_succ]
                  refine' wpAnyH_take (i := 2) (oi := ?o2) (v := _) (by simp only [List.getElem?_toArray, List.getElem?_cons_succ, List.getElem?_cons_zero]; rfl) (by kernel_rfl) (by kernel_rfl) (by kernel_rfl) (fun _ _ _ h => h) (Or.inl ⟨by rfl, ?y2⟩) (by assumption) ?r2
                  case y2 =>
                    intro wS hSw
                    try dsimp only at hSw
                    go_simp
                    all_goals with_reducible rfl
                  simp only [Act.put, List.setIfInBounds_toArray, List.set_cons_zero, List.set_cons_succ]
                  refine' wpAnyH_take (i := 3) (oi := ?o3) (v := _) (by simp only [List.getElem?_toArray, List.getElem?_cons_succ, List.getElem?_cons_zero]; rfl) (by kernel_rfl) (by kernel_rfl) (by kernel_rfl) (fun _ _ _ h => h) (Or.inl ⟨by rfl, ?y3⟩) (by assumption) ?r3
                  case y3 =>
                    intro wS hSw
                    try dsimp only at hSw
                    go_simp
                    all_goals with_reducible rfl
                  simp only [Act.put, List.setIfInBounds_toArray, List.set_cons_zero, List.set_cons_succ]
                  refine' wpAnyH_take (i := 5) (oi := ?o4) (v := _) (by simp only [List.getElem?_toArray, List.getElem?_cons_succ, List.getElem?_cons_zero]; rfl) (by kernel_rfl) (by kernel_rfl) (by kernel_rfl) (fun _ _ _ h => h) (Or.inl ⟨by rfl, ?y4⟩) (by assumption) ?r4
                  case y4 =>
                    intro wS hSw
                    try dsimp only at hSw
                    go_simp
                    all_goals with_reducible rfl
                  simp only [Act.put, List.setIfInBounds_toArray, List.set_cons_zero, List.set_cons_succ]
                  refine' wpAnyH_take (i := 6) (oi := ?o5) (v := _) (by simp only [List.getElem?_toArray, List.getElem?_cons_succ, List.getElem?_cons_zero]; rfl) (by kernel_rfl) (by kernel_rfl) (by kernel_rfl) (fun _ _ _ h => h) (Or.inl ⟨by rfl, ?y5⟩) (by assumption) ?r5
                  case y5 =>
                    intro wS hSw
                    try dsimp only at hSw
                    go_simp
                    all_goals with_reducible rfl
                  simp only [Act.put, List.setIfInBounds_toArray, List.set_cons_zero, List.set_cons_succ]
                  refine' wpAnyH_take (i := 7) (oi := ?o6) (v := _) (by simp only [List.getElem?_toArray, List.getElem?_cons_succ, List.getElem?_cons_zero]; rfl) (by kernel_rfl) (by kernel_rfl) (by kernel_rfl) (fun _ _ _ h => h) (Or.inl ⟨by rfl, ?y6⟩) (by assumption) ?r6
                  case y6 =>
                    intro wS hSw
                    try dsimp only at hSw
                    go_simp
                    all_goals with_reducible rfl
                  simp only [Act.put, List.setIfInBounds_toArray, List.set_cons_zero, List.set_cons_succ]
                  refine' wpAnyH_take (i := 8) (oi := ?o7) (v := _) (by simp only [List.getElem?_toArray, List.getElem?_cons_succ, List.getElem?_cons_zero]; rfl) (by kernel_rfl) (by kernel_rfl) (by kernel_rfl) (fun _ _ _ h => h) (Or.inl ⟨by rfl, ?y7⟩) (by assumption) ?r7
                  case y7 =>
                    intro wS hSw
                    try dsimp only at hSw
                    go_simp
                    all_goals with_reducible rfl
                  simp only [Act.put, List.setIfInBounds_toArray, List.set_cons_zero, List.set_cons_succ]
                  refine' wpAnyH_take (i := 9) (oi := ?o8) (v := _) (by simp only [List.getElem?_toArray, List.getElem?_cons_succ, List.getElem?_cons_zero]; rfl) (by kernel_rfl) (by kernel_rfl) (by kernel_rfl) (fun _ _ _ h => h) (Or.inl ⟨by rfl, ?y8⟩) (by assumption) ?r8
                  case y8 =>
                    intro wS hSw
                    try dsimp only at hSw
                    go_simp
                    all_goals with_reducible rfl
                  simp only [Act.put, List.setIfInBounds_toArray, List.set_cons_zero, List.set_cons_succ]
                  refine' wpAnyH_take (i := 10) (oi := ?o9) (v := _) (by simp only [List.getElem?_toArray, List.getElem?_cons_succ, List.getElem?_cons_zero]; rfl) (by kernel_rfl) (by kernel_rfl) (by kernel_rfl) (fun _ _ _ h => h) (Or.inl ⟨by rfl, ?y9⟩) (by assumption) ?r9
                  case y9 =>
                    intro wS hSw
                    try dsimp only at hSw
                    go_simp
                    all_goals with_reducible rfl
                  simp only [Act.put, List.setIfInBounds_toArray, List.set_cons_zero, List.set_cons_succ]
                  refine' wpAnyH_take (i := 13) (oi := ?o10) (v := _) (by simp only [List.getElem?_toArray, List.getElem?_cons_succ, List.getElem?_cons_zero]; rfl) (by kernel_rfl) (by kernel_rfl) (by kernel_rfl) (fun _ _ _ h => h) (Or.inl ⟨by rfl, ?y10⟩) (by assumption) ?r10
                  case y10 =>
                    intro wS hSw
                    try dsimp only at hSw
                    go_simp
                    all_goals with_reducible rfl
                  simp only [Act.put, List.setIfInBounds_toArray, List.set_cons_zero, List.set_cons_succ]
                  refine' wpAnyH_take (i := 14) (oi := ?o11) (v := _) (by simp only [List.getElem?_toArray, List.getElem?_cons_succ, List.getElem?_cons_zero]; rfl) (by kernel_rfl) (by kernel_rfl) (by kernel_rfl) (fun _ _ _ h => h) (Or.inl ⟨by rfl, ?y11⟩) (by assumption) ?r11
                  case y11 =>
                    intro wS hSw
                    try dsimp only at hSw
                    go_simp
                    all_goals with_reducible rfl
                  simp only [Act.put, List.setIfInBounds_toArray, List.set_cons_zero, List.set_cons_succ]
                  refine' wpAnyH_take (i := 15) (oi := ?o12) (v := _) (by simp only [List.getElem?_toArray, List.getElem?_cons_succ, List.getElem?_cons_zero]; rfl) (by kernel_rfl) (by kernel_rfl) (by kernel_rfl) (fun _ _ _ h => h) (Or.inl ⟨by rfl, ?y12⟩) (by assumption) ?r12
                  case y12 =>
                    intro wS hSw
                    try dsimp only at hSw
                    go_simp
                    all_goals with_reducible rfl
                  simp only [Act.put, List.setIfInBounds_toArray, List.set_cons_zero, List.set_cons_succ]
                  refine wpAnyH_ready (rs := [0, 11]) (by kernel_rfl) (by simp) ?_
                  refine' AllReadyH.cons (o := ?o28) (by simp only [List.getElem?_toArray, List.getElem?_cons_zero]; rfl) (fun K hK => ?s28) ?m28
                  rotate_left
                  · refine' AllReadyH.cons (o := ?o29) (by simp only [List.getElem?_toArray, List.getElem?_cons_succ, List.getElem?_cons_zero]; rfl) (fun K hK => ?s29) ?m29
                    case m29 => exact AllReadyH.nil
                    go_simp
                    refine hK.out _ _ ?_ (fun hHeld => ?_)
                    · exact HS6.out _ (by repeat first | exact Grow.rfl' _ | exact HGb.out | exact HGa.out | apply Grow.drewd | apply Grow.allocd)
                    clear hK K
                    try simp only [Act.put, List.setIfInBounds_toArray, List.set_cons_zero, List.set_cons_succ]
                    refine wpAnyH_ready (rs := [0]) (by kernel_rfl) (by simp) ?_
                    refine' AllReadyH.cons (o := ?o23) (by simp only [List.getElem?_toArray, List.getElem?_cons_zero]; rfl) (fun K hK => ?s23) ?m23
                    case m23 => exact AllReadyH.nil
                    go_simp
                    refine hK.out _ _ ?_ (fun hHeld => ?_)
                    · exact HS6.out _ (by repeat first | exact Grow.rfl' _ | exact HGb.out | exact HGa.out | apply Grow.drewd | apply Grow.allocd)
                    clear hK K
                    try simp only [Act.put, List.setIfInBounds_toArray, List.set_cons_zero, List.set_cons_succ]
                    refine wpAnyH_ready (rs := [4]) (by kernel_rfl) (by simp) ?_
                    refine' AllReadyH.cons (o := ?o24) (by simp only [List.getElem?_toArray, List.getElem?_cons_succ, List.getElem?_cons_zero]; rfl) (fun K hK => ?s24) ?m24
                    case m24 => exact AllReadyH.nil
                    refine step_append_L rfl (.tmp 68) (.tmp 71) 75 rfl rowIntI Tryz.underlying75 wi.heap.size _ (by first | rfl | simp [Act.eval]) _ (by first | rfl | simp [Act.eval]) (L.take k) (HTK.out _ (by repeat first | exact Grow.rfl' _ | exact HGb.out | exact HGa.out | apply Grow.drewd | apply Grow.allocd)) idOk (by first | (simp; done) | (simp; omega)) (by have := HLT.out; first | (simp; done) | (simp; unfold maxLen; omega) | (simp [maxLen]; done) | (simp [maxLen]; omega)) (by have := HLT.out; first | (simp; done) | (simp; omega)) ?_
                    intro v5 w5 k1 k2
                    have H5 := Lib.hid k1; have HK5 := Lib.hid k2; have HGa := Lib.hid (show Grow wi w5 from Grow.step (by repeat first | exact Grow.rfl' _ | exact HGb.out | exact HGa.out | apply Grow.drewd | apply Grow.allocd) k2)
                    clear k1 k2
                    refine hK.out _ _ ?_ (fun hHeld => ?_)
                    · exact HS6.out _ (by repeat first | exact Grow.rfl' _ | exact HGb.out | exact HGa.out | apply Grow.drewd | apply Grow.allocd)
                    clear hK K
                    try simp only [Act.put, List.setIfInBounds_toArray, List.set_cons_zero, List.set_cons_succ]
                    refine wpAnyH_ready (rs := [12]) (by kernel_rfl) (by simp) ?_
                    refine' AllReadyH.cons (o := ?o25) (by simp only [List.getElem?_toArray, List.getElem?_cons_succ, List.getElem?_cons_zero]; rfl) (fun K hK => ?s25) ?m25
                    case m25 => exact AllReadyH.nil
                    refine step_append_R rfl (.tmp 72) (.tmp 79) 75 rfl rowIntI Tryz.underlying75 wi.heap.size _ (L.take k) (by first | rfl | simp [Act.eval]) H5.out (r.id) [Value.int .i64 r.id] rfl rfl (one1I _) _ (by first | rfl | simp [Act.eval]) (rdBI ((HK5.out.heapEq (by first | (simp; done) | (simp; omega))).trans (boxAt0 _ _ _))) (by have := HGa.out.size; simp; omega) (by have := HLT.out; first | (simp; done) | (simp; unfold maxLen; omega) | (simp [maxLen]; done) | (simp [maxLen]; omega)) (by have := HLT.out; first | (simp; done) | (simp; omega)) ?_
                    intro v6 w6 k1 k2 k3
                    have H6 := Lib.hid k1; have HGb := Lib.hid (show Grow wi w6 from Grow.since (by repeat first | exact Grow.rfl' _ | exact HGb.out | exact HGa.out | apply Grow.drewd | apply Grow.allocd) k2 (Nat.le_refl _))
                    clear k1 k2 k3
                    refine hK.out _ _ ?_ (fun hHeld => ?_)
                    · exact HS6.out _ (by repeat first | exact Grow.rfl' _ | exact HGb.out | exact HGa.out | apply Grow.drewd | apply Grow.allocd)
                    clear hK K
                    try simp only [Act.put, List.setIfInBounds_toArray, List.set_cons_zero, List.set_cons_succ]
                    refine wpAnyH_ready (rs := [16]) (by kernel_rfl) (by simp) ?_
                    refine' AllReadyH.cons (o := ?o26) (by simp only [List.getElem?_toArray, List.getElem?_cons_succ, List.getElem?_cons_zero]; rfl) (fun K hK => ?s26) ?m26
                    case m26 => exact AllReadyH.nil
                    refine step_append_M rfl (.tmp 80) (.tmp 83) 75 rfl rowIntI Tryz.underlying75 wi.heap.size _ (L.take k ++ [r.id]) (by first | rfl | simp [Act.eval]) H6.out _ (by first | rfl | (simp [Act.eval]; done) | (simp [Act.eval]; intros; omega)) (L.drop k) (HDK.out _ HGb.out) idOk HGb.out.size (by have := HLT.out; first | (simp; done) | (simp; unfold maxLen; omega) | (simp [maxLen]; done) | (simp [maxLen]; omega)) (by have := HLT.out; first | (simp; done) | (simp; omega)) ?_
                    intro v7 w7 k1 k2 k3
                    have H7 := Lib.hid k1; have HG7 := Lib.hid (show Grow wi w7 from Grow.since HGb.out k2 (Nat.le_refl _))
                    clear k1 k2 k3
                    refine hK.out _ _ ?_ (fun hHeld => ?_)
                    · exact HS6.out _ HG7.out
                    clear hK K
                    try simp only [Act.put, List.setIfInBounds_toArray, List.set_cons_zero, List.set_cons_succ]
                    refine' wpAnyH_take (i := 17) (oi := ?o27) (v := _) (by simp only [List.getElem?_toArray, List.getElem?_cons_succ, List.getElem?_cons_zero]; rfl) (by kernel_rfl) (by kernel_rfl) (by kernel_rfl) (fun _ _ _ h => h) (Or.inl ⟨by rfl, ?y27⟩) (by assumption) ?r27
                    case y27 =>
                      intro wS hSw
                      try dsimp only at hSw
                      go_simp
                      all_goals with_reducible rfl
                    simp only [Act.put, List.setIfInBounds_toArray, List.set_cons_zero, List.set_cons_succ]
                    refine wpAnyH_done (by kernel_rfl) ?_ _
                    refine NoPanic.normal ?_
                    go_wp2
                    go_roundg (l.length - (i + 1))
                    case measure => omega
                    case rel => exact ⟨i + 1, putL L r.id, by omega, rfl, by go_num, HSET.out, by have := putL_len L r.id; have := HLN.out; omega, by rw [HPUT.out]; exact SlR.sub H7.out.toR (fun _ _ => trivial) (fun _ _ _ h => h), fun h => absurd h (by rw [HPUT.out]; simp), HG.out.step (HGI.out.step HG7.out)⟩
                  go_simp
                  refine hK.out _ _ ?_ (fun hHeld => ?_)
                  · exact HS6.out _ (by repeat first | exact Grow.rfl' _ | exact HGb.out | exact HGa.out | apply Grow.drewd | apply Grow.allocd)
                  clear hK K
                  try simp only [Act.put, List.setIfInBounds_toArray, List.set_cons_zero, List.set_cons_succ]
                  refine wpAnyH_ready (rs := [4, 11]) (by kernel_rfl) (by simp) ?_
                  refine' AllReadyH.cons (o := ?o21) (by simp only [List.getElem?_toArray, List.getElem?_cons_succ, List.getElem?_cons_zero]; rfl) (fun K hK => ?s21) ?m21
                  rotate_left
                  · refine' AllReadyH.cons (o := ?o22) (by simp only [List.getElem?_toArray, List.getElem?_cons_succ, List.getElem?_cons_zero]; rfl) (fun K hK => ?s22) ?m22
                    case m22 => exact AllReadyH.nil
                    go_simp
                    refine hK.out _ _ ?_ (fun hHeld => ?_)
                    · exact HS6.out _ (by repeat first | exact Grow.rfl' _ | exact HGb.out | exact HGa.out | apply Grow.drewd | apply Grow.allocd)
                    clear hK K
                    try simp only [Act.put, List.setIfInBounds_toArray, List.set_cons_zero, List.set_cons_succ]
                    refine wpAnyH_ready (rs := [4]) (by kernel_rfl) (by simp) ?_
                    refine' AllReadyH.cons (o := ?o17) (by simp only [List.getElem?_toArray, List.getElem?_cons_succ, List.getElem?_cons_zero]; rfl) (fun K hK => ?s17) ?m17
                    case m17 => exact AllReadyH.nil
                    refine step_append_L rfl (.tmp 68) (.tmp 71) 75 rfl rowIntI Tryz.underlying75 wi.heap.size _ (by first | rfl | simp [Act.eval]) _ (by first | rfl | simp [Act.eval]) (L.take k) (HTK.out _ (by repeat first | exact Grow.rfl' _ | exact HGb.out | exact HGa.out | apply Grow.drewd | apply Grow.allocd)) idOk (by first | (simp; done) | (simp; omega)) (by have := HLT.out; first | (simp; done) | (simp; unfold maxLen; omega) | (simp [maxLen]; done) | (simp [maxLen]; omega)) (by have := HLT.out; first | (simp; done) | (simp; omega)) ?_
                    intro v5 w5 k1 k2
                    have H5 := Lib.hid k1; have HK5 := Lib.hid k2; have HGa := Lib.hid (show Grow wi w5 from Grow.step (by repeat first | exact Grow.rfl' _ | exact HGb.out | exact HGa.out | apply Grow.drewd | apply Grow.allocd) k2)
                    clear k1 k2
                    refine hK.out _ _ ?_ (fun hHeld => ?_)
                    · exact HS6.out _ (by repeat first | exact Grow.rfl' _ | exact HGb.out | exact HGa.out | apply Grow.drewd | apply Grow.allocd)
                    clear hK K
                    try simp only [Act.put, List.setIfInBounds_toArray, List.set_cons_zero, List.set_cons_succ]
                    refine wpAnyH_ready (rs := [12]) (by kernel_rfl) (by simp) ?_
                    refine' AllReadyH.cons (o := ?o18) (by simp only [List.getElem?_toArray, List.getElem?_cons_succ, List.getElem?_cons_zero]; rfl) (fun K hK => ?s18) ?m18
                    case m18 => exact AllReadyH.nil
                    refine step_append_R rfl (.tmp 72) (.tmp 79) 75 rfl rowIntI Tryz.underlying75 wi.heap.size _ (L.take k) (by first | rfl | simp [Act.eval]) H5.out (r.id) [Value.int .i64 r.id] rfl rfl (one1I _) _ (by first | rfl | simp [Act.eval]) (rdBI ((HK5.out.heapEq (by first | (simp; done) | (simp; omega))).trans (boxAt1 _ _ _))) (by have := HGa.out.size; simp; omega) (by have := HLT.out; first | (simp; done) | (simp; unfold maxLen; omega) | (simp [maxLen]; done) | (simp [maxLen]; omega)) (by have := HLT.out; first | (simp; done) | (simp; omega)) ?_
                    intro v6 w6 k1 k2 k3
                    have H6 := Lib.hid k1; have HGb := Lib.hid (show Grow wi w6 from Grow.since (by repeat first | exact Grow.rfl' _ | exact HGb.out | exact HGa.out | apply Grow.drewd | apply Grow.allocd) k2 (Nat.le_refl _))
                    clear k1 k2 k3
                    refine hK.out _ _ ?_ (fun hHeld => ?_)
                    · exact HS6.out _ (by repeat first | exact Grow.rfl' _ | exact HGb.out | exact HGa.out | apply Grow.drewd | apply Grow.allocd)
                    clear hK K
                    try simp only [Act.put, List.setIfInBounds_toArray, List.set_cons_zero, List.set_cons_succ]
                    refine wpAnyH_ready (rs := [16]) (by kernel_rfl) (by simp) ?_
                    refine' AllReadyH.cons (o := ?o19) (by simp only [List.getElem?_toArray, List.getElem?_cons_succ, List.getElem?_cons_zero]; rfl) (fun K hK => ?s19) ?m19
                    case m19 => exact AllReadyH.nil
                    refine step_append_M rfl (.tmp 80) (.tmp 83) 75 rfl rowIntI Tryz.underlying75 wi.heap.size _ (L.take k ++ [r.id]) (by first | rfl | simp [Act.eval]) H6.out _ (by first | rfl | (simp [Act.eval]; done) | (simp [Act.eval]; intros; omega)) (L.drop k) (HDK.out _ HGb.out) idOk HGb.out.size (by have := HLT.out; first | (simp; done) | (simp; unfold maxLen; omega) | (simp [maxLen]; done) | (simp [maxLen]; omega)) (by have := HLT.out; first | (simp; done) | (simp; omega)) ?_
                    intro v7 w7 k1 k2 k3
                    have H7 := Lib.hid k1; have HG7 := Lib.hid (show Grow wi w7 from Grow.since HGb.out k2 (Nat.le_refl _))
                    clear k1 k2 k3
                    refine hK.out _ _ ?_ (fun hHeld => ?_)
                    · exact HS6.out _ HG7.out
                    clear hK K
                    try simp only [Act.put, List.setIfInBounds_toArray, List.set_cons_zero, List.set_cons_succ]
                    refine' wpAnyH_take (i := 17) (oi := ?o20) (v := _) (by simp only [List.getElem?_toArray, List.getElem?_cons_succ, List.getElem?_cons_zero]; rfl) (by kernel_rfl) (by kernel_rfl) (by kernel_rfl) (fun _ _ _ h => h) (Or.inl ⟨by rfl, ?y20⟩) (by assumption) ?r20
                    case y20 =>
                      intro wS hSw
                      try dsimp only at hSw
                      go_simp
                      all_goals with_reducible rfl
                    simp only [Act.put, List.setIfInBounds_toArray, List.set_cons_zero, List.set_cons_succ]
                    refine wpAnyH_done (by kernel_rfl) ?_ _
                    refine NoPanic.normal ?_
                    go_wp2
                    go_roundg (l.length - (i + 1))
                    case measure => omega
                    case rel => exact ⟨i + 1, putL L r.id, by omega, rfl, by go_num, HSET.out, by have := putL_len L r.id; have := HLN.out; omega, by rw [HPUT.out]; exact SlR.sub H7.out.toR (fun _ _ => trivial) (fun _ _ _ h => h), fun h => absurd h (by rw [HPUT.out]; simp), HG.out.step (HGI.out.step HG7.out)⟩
                  refine step_append_L rfl (.tmp 68) (.tmp 71) 75 rfl rowIntI Tryz.underlying75 wi.heap.size _ (by first | rfl | simp [Act.eval]) _ (by first | rfl | simp [Act.eval]) (L.take k) (HTK.out _ (by repeat first | exact Grow.rfl' _ | exact HGb.out | exact HGa.out | apply Grow.drewd | apply Grow.allocd)) idOk (by first | (simp; done) | (simp; omega)) (by have := HLT.out; first | (simp; done) | (simp; unfold maxLen; omega) | (simp [maxLen]; done) | (simp [maxLen]; omega)) (by have := HLT.out; first | (simp; done) | (simp; omega)) ?_
                  intro v5 w5 k1 k2
                  have H5 := Lib.hid k1; have HK5 := Lib.hid k2; have HGa := Lib.hid (show Grow wi w5 from Grow.step (by repeat first | exact Grow.rfl' _ | exact HGb.out | exact HGa.out | apply Grow.drewd | apply Grow.allocd) k2)
                  clear k1 k2
                  refine hK.out _ _ ?_ (fun hHeld => ?_)
                  · exact HS6.out _ (by repeat first | exact Grow.rfl' _ | exact HGb.out | exact HGa.out | apply Grow.drewd | apply Grow.allocd)
                  clear hK K
                  try simp only [Act.put, List.setIfInBounds_toArray, List.set_cons_zero, List.set_cons_succ]
                  refine wpAnyH_ready (rs := [11]) (by kernel_rfl) (by simp) ?_
                  refine' AllReadyH.cons (o := ?o13) (by simp only [List.getElem?_toArray, List.getElem?_cons_succ, List.getElem?_cons_zero]; rfl) (fun K hK => ?s13) ?m13
                  case m13 => exact AllReadyH.nil
                  go_simp
                  refine hK.out _ _ ?_ (fun hHeld => ?_)
                  · exact HS6.out _ (by repeat first | exact Grow.rfl' _ | exact HGb.out | exact HGa.out | apply Grow.drewd | apply Grow.allocd)
                  clear hK K
                  try simp only [Act.put, List.setIfInBounds_toArray, List.set_cons_zero, List.set_cons_succ]
                  refine wpAnyH_ready (rs := [12]) (by kernel_rfl) (by simp) ?_
                  refine' AllReadyH.cons (o := ?o14) (by simp only [List.getElem?_toArray, List.getElem?_cons_succ, List.getElem?_cons_zero]; rfl) (fun K hK => ?s14) ?m14
                  case m14 => exact AllReadyH.nil
                  refine step_append_R rfl (.tmp 72) (.tmp 79) 75 rfl rowIntI Tryz.underlying75 wi.heap.size _ (L.take k) (by first | rfl | simp [Act.eval]) (H5.out.grow ((Grow.rfl' _).allocd _)) (r.id) [Value.int .i64 r.id] rfl rfl (one1I _) _ (by first | rfl | simp [Act.eval]) (rdK _ _ _ 1 rfl rfl) (by have := HGa.out.size; simp; omega) (by have := HLT.out; first | (simp; done) | (simp; unfold maxLen; omega) | (simp [maxLen]; done) | (simp [maxLen]; omega)) (by have := HLT.out; first | (simp; done) | (simp; omega)) ?_
                  intro v6 w6 k1 k2 k3
                  have H6 := Lib.hid k1; have HGb := Lib.hid (show Grow wi w6 from Grow.since (by repeat first | exact Grow.rfl' _ | exact HGb.out | exact HGa.out | apply Grow.drewd | apply Grow.allocd) k2 (Nat.le_refl _))
                  clear k1 k2 k3
                  refine hK.out _ _ ?_ (fun hHeld => ?_)
                  · exact HS6.out _ (by repeat first | exact Grow.rfl' _ | exact HGb.out | exact HGa.out | apply Grow.drewd | apply Grow.allocd)
                  clear hK K
                  try simp only [Act.put, List.setIfInBounds_toArray, List.set_cons_zero, List.set_cons_succ]
                  refine wpAnyH_ready (rs := [16]) (by kernel_rfl) (by simp) ?_
                  refine' AllReadyH.cons (o := ?o15) (by simp only [List.getElem?_toArray, List.getElem?_cons_succ, List.getElem?_cons_zero]; rfl) (fun K hK => ?s15) ?m15
                  case m15 => exact AllReadyH.nil
                  refine step_append_M rfl (.tmp 80) (.tmp 83) 75 rfl rowIntI Tryz.underlying75 wi.heap.size _ (L.take k ++ [r.id]) (by first | rfl | simp [Act.eval]) H6.out _ (by first | rfl | (simp [Act.eval]; done) | (simp [Act.eval]; intros; omega)) (L.drop k) (HDK.out _ HGb.out) idOk HGb.out.size (by have := HLT.out; first | (simp; done) | (simp; unfold maxLen; omega) | (simp [maxLen]; done) | (simp [maxLen]; omega)) (by have := HLT.out; first | (simp; done) | (simp; omega)) ?_
                  intro v7 w7 k1 k2 k3
                  have H7 := Lib.hid k1; have HG7 := Lib.hid (show Grow wi w7 from Grow.since HGb.out k2 (Nat.le_refl _))
                  clear k1 k2 k3
                  refine hK.out _ _ ?_ (fun hHeld => ?_)
                  · exact HS6.out _ HG7.out
                  clear hK K
                  try simp only [Act.put, List.setIfInBounds_toArray, List.set_cons_zero, List.set_cons_succ]
                  refine' wpAnyH_take (i := 17) (oi := ?o16) (v := _) (by simp only [List.getElem?_toArray, List.getElem?_cons_succ, List.getElem?_cons_zero]; rfl) (by kernel_rfl) (by kernel_rfl) (by kernel_rfl) (fun _ _ _ h => h) (Or.inl ⟨by rfl, ?y16⟩) (by assumption) ?r16
                  case y16 =>
                    intro wS hSw
                    try dsimp only at hSw
                    go_simp
                    all_goals with_reducible rfl
                  simp only [Act.put, List.setIfInBounds_toArray, List.set_cons_zero, List.set_cons_succ]
                  refine wpAnyH_done (by kernel_rfl) ?_ _
                  refine NoPanic.normal ?_
                  go_wp2
                  go_roundg (l.length - (i + 1))
                  case measure => omega
                  case rel => exact ⟨i + 1, putL L r.id, by omega, rfl, by go_num, HSET.out, by have := putL_len L r.id; have := HLN.out; omega, by rw [HPUT.out]; exact SlR.sub H7.out.toR (fun _ _ => trivial) (fun _ _ _ h => h), fun h => absurd h (by rw [HPUT.out]; simp), HG.out.step (HGI.out.step HG7.out)⟩
            · obtain rfl : k = L.length := by omega
              have HPUT := Lib.hid (show putL L r.id = L ++ [r.id] ++ [] by
                have h := putL_new (k := L.length) HSETL.out.1 HALL.out (.inl rfl)
                rw [List.take_length, List.drop_length] at h
                exact h)
              by_cases hl0 : L = []
              · subst hl0
                have he := HNIL.out rfl
                simp only [Value.slice.injEq] at he
                obtain ⟨rfl, -, rfl⟩ := he
                have HTK := Lib.hid (show ∀ w', Grow wi w' → IdsR (fun _ => True) w' (.slice none 0 0) [] from fun w' _ => (OwnL.nil w' 3 1 _).toSl (by simp))
                have HDK := HTK
                have HLT := Lib.hid (show 0 ≤ 65536 by omega)
                have HS6 := Lib.hid (show ∀ w', Grow wi w' → _ from fun w' g => HSS.out w' (HGI.out.step g))
                go_wp2_with fail
                refine wp_region_grow (by kernel_rfl) (by kernel_rfl) ?_
                repeat (go_big_quiet_step (fail))
                refine wpQuiet_nil ?_
                intro wq1 hq1
                have HQ1 := Lib.hid hq1
                clear hq1
                go_wp2_with fail
                refine wp_region_grow (by kernel_rfl) (by kernel_rfl) ?_
                repeat (go_big_quiet_step (fail))
                refine wpQuiet_nil ?_
                intro wq2 hq2
                have HQ2 := Lib.hid (Grow.step HQ1.out hq2)
                clear hq2
                have hqs := HQ2.out.size
                go_wp2_with fail
                refine wp_region_noPanic ?_
                refine wp_region_held_drew (S := fun w' => w'.cell? ⟨w.heap.size, 2, none⟩ = some (.slice (some ⟨br, or_, none⟩) l.length cl) ∧ w'.cell? ⟨br, or_ + i * 8, none⟩ = some (.int .i64 r.id)) (by kernel_rfl) ?_ (fun hHeld => ?_)
                · exact HS6.out _ (by repeat first | exact Grow.rfl' _ | exact HGb.out | exact HGa.out | exact HQ2.out | apply Grow.drewd | apply Grow.allocd)
                refine' wpAnyH_take (i := 1) (oi := ?o30) (v := _) (by simp only [List.getElem?_toArray, List.getElem?_cons_succ, List.getElem?_cons_zero]; rfl) (by kernel_rfl) (by kernel_rfl) (by kernel_rfl) (fun _ _ _ h => h) (Or.inl ⟨by rfl, ?y30⟩) (by assumption) ?r30
                case y30 =>
                  intro wS hSw
                  try dsimp only at hSw
                  go_simp
                  all_goals with_reducible rfl
                simp only [Act.put, List.setIfInBounds_toArray, List.set_cons_zero, List.set_cons_succ]
                refine' wpAnyH_take (i := 2) (oi := ?o31) (v := _) (by simp only [List.getElem?_toArray, List.getElem?_cons_succ, List.getElem?_cons_zero]; rfl) (by kernel_rfl) (by kernel_rfl) (by kernel_rfl) (fun _ _ _ h => h) (Or.inl ⟨by rfl, ?y31⟩) (by assumption) ?r31
                case y31 =>
                  intro wS hSw
                  try dsimp only at hSw
                  go_simp
                  all_goals with_reducible rfl
                simp only [Act.put, List.setIfInBounds_toArray, List.set_cons_zero, List.set_cons_succ]
                refine' wpAnyH_take (i := 3) (oi := ?o32) (v := _) (by simp only [List.getElem?_toArray, List.getElem?_cons_succ, List.getElem?_cons_zero]; rfl) (by kernel_rfl) (by kernel_rfl) (by kernel_rfl) (fun _ _ _ h => h) (Or.inl ⟨by rfl, ?y32⟩) (by assumption) ?r32
                case y32 =>
                  intro wS hSw
                  try dsimp only at hSw
                  go_simp
                  all_goals with_reducible rfl
                simp only [Act.put, List.setIfInBounds_toArray, List.set_cons_zero, List.set_cons_succ]
                refine' wpAnyH_take (i := 5) (oi := ?o33) (v := _) (by simp only [List.getElem?_toArray, List.getElem?_cons_succ, List.getElem?_cons_zero]; rfl) (by kernel_rfl) (by kernel_rfl) (by kernel_rfl) (fun _ _ _ h => h) (Or.inl ⟨by rfl, ?y33⟩) (by assumption) ?r33
                case y33 =>
                  intro wS hSw
                  try dsimp only at hSw
                  go_simp
                  all_goals with_reducible rfl
                simp only [Act.put, List.setIfInBounds_toArray, List.set_cons_zero, List.set_cons_succ]
                refine' wpAnyH_take (i := 6) (oi := ?o34) (v := _) (by simp only [List.getElem?_toArray, List.getElem?_cons_succ, List.getElem?_cons_zero]; rfl) (by kernel_rfl) (by kernel_rfl) (by kernel_rfl) (fun _ _ _ h => h) (Or.inl ⟨by rfl, ?y34⟩) (by assumption) ?r34
                case y34 =>
                  intro wS hSw
                  try dsimp only at hSw
                  go_simp
                  all_goals with_reducible rfl
                simp only [Act.put, List.setIfInBounds_toArray, List.set_cons_zero, List.set_cons_succ]
                refine' wpAnyH_take (i := 7) (oi := ?o35) (v := _) (by simp only [List.getElem?_toArray, List.getElem?_cons_succ, List.getElem?_cons_zero]; rfl) (by kernel_rfl) (by kernel_rfl) (by kernel_rfl) (fun _ _ _ h => h) (Or.inl ⟨by rfl, ?y35⟩) (by assumption) ?r35
                case y35 =>
                  intro wS hSw
                  try dsimp only at hSw
                  go_simp
                  all_goals with_reducible rfl
                simp only [Act.put, List.setIfInBounds_toArray, List.set_cons_zero, List.set_cons_succ]
                refine' wpAnyH_take (i := 8) (oi := ?o36) (v := _) (by simp only [List.getElem?_toArray, List.getElem?_cons_succ, List.getElem?_cons_zero]; rfl) (by kernel_rfl) (by kernel_rfl) (by kernel_rfl) (fun _ _ _ h => h) (Or.inl ⟨by rfl, ?y36⟩) (by assumption) ?r36
                case y36 =>
                  intro wS hSw
                  try dsimp only at hSw
                  go_simp
                  all_goals with_reducible rfl
                simp only [Act.put, List.setIfInBounds_toArray, List.set_cons_zero, List.set_cons_succ]
                refine' wpAnyH_take (i := 9) (oi := ?o37) (v := _) (by simp only [List.getElem?_toArray, List.getElem?_cons_succ, List.getElem?_cons_zero]; rfl) (by kernel_rfl) (by kernel_rfl) (by kernel_rfl) (fun _ _ _ h => h) (Or.inl ⟨by rfl, ?y37⟩) (by assumption) ?r37
                case y37 =>
                  intro wS hSw
                  try dsimp only at hSw
                  go_simp
                  all_goals with_reducible rfl
                simp only [Act.put, List.setIfInBounds_toArray, List.set_cons_zero, List.set_cons_succ]
                refine' wpAnyH_take (i := 10) (oi := ?o38) (v := _) (by simp only [List.getElem?_toArray, List.getElem?_cons_succ, List.getElem?_cons_zero]; rfl) (by kernel_rfl) (by kernel_rfl) (by kernel_rfl) (fun _ _ _ h => h) (Or.inl ⟨by rfl, ?y38⟩) (by assumption) ?r38
                case y38 =>
                  intro wS hSw
                  try dsimp only at hSw
                  go_simp
                  all_goals with_reducible rfl
                simp only [Act.put, List.setIfInBounds_toArray, List.set_cons_zero, List.set_cons_succ]
                refine' wpAnyH_take (i := 13) (oi := ?o39) (v := _) (by simp only [List.getElem?_toArray, List.getElem?_cons_succ, List.getElem?_cons_zero]; rfl) (by kernel_rfl) (by kernel_rfl) (by kernel_rfl) (fun _ _ _ h => h) (Or.inl ⟨by rfl, ?y39⟩) (by assumption) ?r39
                case y39 =>
                  intro wS hSw
                  try dsimp only at hSw
                  go_simp
                  all_goals with_reducible rfl
                simp only [Act.put, List.setIfInBounds_toArray, List.set_cons_zero, List.set_cons_succ]
                refine' wpAnyH_take (i := 14) (oi := ?o40) (v := _) (by simp only [List.getElem?_toArray, List.getElem?_cons_succ, List.getElem?_cons_zero]; rfl) (by kernel_rfl) (by kernel_rfl) (by kernel_rfl) (fun _ _ _ h => h) (Or.inl ⟨by rfl, ?y40⟩) (by assumption) ?r40
                case y40 =>
                  intro wS hSw
                  try dsimp only at hSw
                  go_simp
                  all_goals with_reducible rfl
                simp only [Act.put, List.setIfInBounds_toArray, List.set_cons_zero, List.set_cons_succ]
                refine' wpAnyH_take (i := 15) (oi := ?o41) (v := _) (by simp only [List.getElem?_toArray, List.getElem?_cons_succ, List.getElem?_cons_zero]; rfl) (by kernel_rfl) (by kernel_rfl) (by kernel_rfl) (fun _ _ _ h => h) (Or.inl ⟨by rfl, ?y41⟩) (by assumption) ?r41
                case y41 =>
                  intro wS hSw
                  try dsimp only at hSw
                  go_simp
                  all_goals with_reducible rfl
                simp only [Act.put, List.setIfInBounds_toArray, List.set_cons_zero, List.set_cons_succ]
                refine wpAnyH_ready (rs := [0, 11]) (by kernel_rfl) (by simp) ?_
                refine' AllReadyH.cons (o := ?o57) (by simp only [List.getElem?_toArray, List.getElem?_cons_zero]; rfl) (fun K hK => ?s57) ?m57
                rotate_left
                · refine' AllReadyH.cons (o := ?o58) (by simp only [List.getElem?_toArray, List.getElem?_cons_succ, List.getElem?_cons_zero]; rfl) (fun K hK => ?s58) ?m58
                  case m58 => exact AllReadyH.nil
                  go_simp
                  refine hK.out _ _ ?_ (fun hHeld => ?_)
                  · exact HS6.out _ (by repeat first | exact Grow.rfl' _ | exact HGb.out | exact HGa.out | exact HQ2.out | apply Grow.drewd | apply Grow.allocd)
                  clear hK K
                  try simp only [Act.put, List.setIfInBounds_toArray, List.set_cons_zero, List.set_cons_succ]
                  refine wpAnyH_ready (rs := [0]) (by kernel_rfl) (by simp) ?_
                  refine' AllReadyH.cons (o := ?o52) (by simp only [List.getElem?_toArray, List.getElem?_cons_zero]; rfl) (fun K hK => ?s52) ?m52
                  case m52 => exact AllReadyH.nil
                  go_simp
                  refine hK.out _ _ ?_ (fun hHeld => ?_)
                  · exact HS6.out _ (by repeat first | exact Grow.rfl' _ | exact HGb.out | exact HGa.out | exact HQ2.out | apply Grow.drewd | apply Grow.allocd)
                  clear hK K
                  try simp only [Act.put, List.setIfInBounds_toArray, List.set_cons_zero, List.set_cons_succ]
                  refine wpAnyH_ready (rs := [4]) (by kernel_rfl) (by simp) ?_
                  refine' AllReadyH.cons (o := ?o53) (by simp only [List.getElem?_toArray, List.getElem?_cons_succ, List.getElem?_cons_zero]; rfl) (fun K hK => ?s53) ?m53
                  case m53 => exact AllReadyH.nil
                  refine step_append_L rfl (.tmp 68) (.tmp 71) 75 rfl rowIntI Tryz.underlying75 wi.heap.size _ (by first | rfl | simp [Act.eval]) _ (by first | rfl | simp [Act.eval]) (([] : List Int)) (HTK.out _ (by repeat first | exact Grow.rfl' _ | exact HGb.out | exact HGa.out | exact HQ2.out | apply Grow.drewd | apply Grow.allocd)) idOk (by first | (simp; done) | (simp; omega)) (by have := HLT.out; first | (simp; done) | (simp; unfold maxLen; omega) | (simp [maxLen]; done) | (simp [maxLen]; omega)) (by have := HLT.out; first | (simp; done) | (simp; omega)) ?_
                  intro v5 w5 k1 k2
                  have H5 := Lib.hid k1; have HK5 := Lib.hid k2; have HGa := Lib.hid (show Grow wi w5 from Grow.step (by repeat first | exact Grow.rfl' _ | exact HGb.out | exact HGa.out | exact HQ2.out | apply Grow.drewd | apply Grow.allocd) k2)
                  clear k1 k2
                  refine hK.out _ _ ?_ (fun hHeld => ?_)
                  · exact HS6.out _ (by repeat first | exact Grow.rfl' _ | exact HGb.out | exact HGa.out | exact HQ2.out | apply Grow.drewd | apply Grow.allocd)
                  clear hK K
                  try simp only [Act.put, List.setIfInBounds_toArray, List.set_cons_zero, List.set_cons_succ]
                  refine wpAnyH_ready (rs := [12]) (by kernel_rfl) (by simp) ?_
                  refine' AllReadyH.cons (o := ?o54) (by simp only [List.getElem?_toArray, List.getElem?_cons_succ, List.getElem?_cons_zero]; rfl) (fun K hK => ?s54) ?m54
                  case m54 => exact AllReadyH.nil
                  refine step_append_R rfl (.tmp 72) (.tmp 79) 75 rfl rowIntI Tryz.underlying75 wi.heap.size _ (([] : List Int)) (by first | rfl | simp [Act.eval]) H5.out (r.id) [Value.int .i64 r.id] rfl rfl (one1I _) _ (by first | rfl | simp [Act.eval]) (rdBI ((HK5.out.heapEq (by first | (simp; done) | (simp; omega))).trans (boxAt0 _ _ _))) (by have := HGa.out.size; simp; omega) (by have := HLT.out; first | (simp; done) | (simp; unfold maxLen; omega) | (simp [maxLen]; done) | (simp [maxLen]; omega)) (by have := HLT.out; first | (simp; done) | (simp; omega)) ?_
                  intro v6 w6 k1 k2 k3
                  have H6 := Lib.hid k1; have HGb := Lib.hid (show Grow wi w6 from Grow.since (by repeat first | exact Grow.rfl' _ | exact HGb.out | exact HGa.out | exact HQ2.out | apply Grow.drewd | apply Grow.allocd) k2 (Nat.le_refl _))
                  clear k1 k2 k3
                  refine hK.out _ _ ?_ (fun hHeld => ?_)
                  · exact HS6.out _ (by repeat first | exact Grow.rfl' _ | exact HGb.out | exact HGa.out | exact HQ2.out | apply Grow.drewd | apply Grow.allocd)
                  clear hK K
                  try simp only [Act.put, List.setIfInBounds_toArray, List.set_cons_zero, List.set_cons_succ]
                  refine wpAnyH_ready (rs := [16]) (by kernel_rfl) (by simp) ?_
                  refine' AllReadyH.cons (o := ?o55) (by simp only [List.getElem?_toArray, List.getElem?_cons_succ, List.getElem?_cons_zero]; rfl) (fun K hK => ?s55) ?m55
                  case m55 => exact AllReadyH.nil
                  refine step_append_M rfl (.tmp 80) (.tmp 83) 75 rfl rowIntI Tryz.underlying75 wi.heap.size _ (([] : List Int) ++ [r.id]) (by first | rfl | simp [Act.eval]) H6.out _ (by first | rfl | (simp [Act.eval]; done) | (simp [Act.eval]; intros; omega)) (([] : List Int)) (HDK.out _ HGb.out) idOk HGb.out.size (by have := HLT.out; first | (simp; done) | (simp; unfold maxLen; omega) | (simp [maxLen]; done) | (simp [maxLen]; omega)) (by have := HLT.out; first | (simp; done) | (simp; omega)) ?_
                  intro v7 w7 k1 k2 k3
                  have H7 := Lib.hid k1; have HG7 := Lib.hid (show Grow wi w7 from Grow.since HGb.out k2 (Nat.le_refl _))
                  clear k1 k2 k3
                  refine hK.out _ _ ?_ (fun hHeld => ?_)
                  · exact HS6.out _ HG7.out
                  clear hK K
                  try simp only [Act.put, List.setIfInBounds_toArray, List.set_cons_zero, List.set_cons_succ]
                  refine' wpAnyH_take (i := 17) (oi := ?o56) (v := _) (by simp only [List.getElem?_toArray, List.getElem?_cons_succ, List.getElem?_cons_zero]; rfl) (by kernel_rfl) (by kernel_rfl) (by kernel_rfl) (fun _ _ _ h => h) (Or.inl ⟨by rfl, ?y56⟩) (by assumption) ?r56
                  case y56 =>
                    intro wS hSw
                    try dsimp only at hSw
                    go_simp
                    all_goals with_reducible rfl
                  simp only [Act.put, List.setIfInBounds_toArray, List.set_cons_zero, List.set_cons_succ]
                  refine wpAnyH_done (by kernel_rfl) ?_ _
                  refine NoPanic.normal ?_
                  go_wp2
                  go_roundg (l.length - (i + 1))
                  case measure => omega
                  case rel => exact ⟨i + 1, putL ([] : List Int) r.id, by omega, rfl, by go_num, HSET.out, by have := putL_len ([] : List Int) r.id; have := HLN.out; omega, by rw [HPUT.out]; exact SlR.sub H7.out.toR (fun _ _ => trivial) (fun _ _ _ h => h), fun h => absurd h (by rw [HPUT.out]; simp), HG.out.step (HGI.out.step HG7.out)⟩
                go_simp
                refine hK.out _ _ ?_ (fun hHeld => ?_)
                · exact HS6.out _ (by repeat first | exact Grow.rfl' _ | exact HGb.out | exact HGa.out | exact HQ2.out | apply Grow.drewd | apply Grow.allocd)
                clear hK K
                try simp only [Act.put, List.setIfInBounds_toArray, List.set_cons_zero, List.set_cons_succ]
                refine wpAnyH_ready (rs := [4, 11]) (by kernel_rfl) (by simp) ?_
                refine' AllReadyH.cons (o := ?o50) (by simp only [List.getElem?_toArray, List.getElem?_cons_succ, List.getElem?_cons_zero]; rfl) (fun K hK => ?s50) ?m50
                rotate_left
                · refine' AllReadyH.cons (o := ?o51) (by simp only [List.getElem?_toArray, List.getElem?_cons_succ, List.getElem?_cons_zero]; rfl) (fun K hK => ?s51) ?m51
                  case m51 => exact AllReadyH.nil
                  go_simp
                  refine hK.out _ _ ?_ (fun hHeld => ?_)
                  · exact HS6.out _ (by repeat first | exact Grow.rfl' _ | exact HGb.out | exact HGa.out | exact HQ2.out | apply Grow.drewd | apply Grow.allocd)
                  clear hK K
                  try simp only [Act.put, List.setIfInBounds_toArray, List.set_cons_zero, List.set_cons_succ]
                  refine wpAnyH_ready (rs := [4]) (by kernel_rfl) (by simp) ?_
                  refine' AllReadyH.cons (o := ?o46) (by simp only [List.getElem?_toArray, List.getElem?_cons_succ, List.getElem?_cons_zero]; rfl) (fun K hK => ?s46) ?m46
                  case m46 => exact AllReadyH.nil
                  refine step_append_L rfl (.tmp 68) (.tmp 71) 75 rfl rowIntI Tryz.underlying75 wi.heap.size _ (by first | rfl | simp [Act.eval]) _ (by first | rfl | simp [Act.eval]) (([] : List Int)) (HTK.out _ (by repeat first | exact Grow.rfl' _ | exact HGb.out | exact HGa.out | exact HQ2.out | apply Grow.drewd | apply Grow.allocd)) idOk (by first | (simp; done) | (simp; omega)) (by have := HLT.out; first | (simp; done) | (simp; unfold maxLen; omega) | (simp [maxLen]; done) | (simp [maxLen]; omega)) (by have := HLT.out; first | (simp; done) | (simp; omega)) ?_
                  intro v5 w5 k1 k2
                  have H5 := Lib.hid k1; have HK5 := Lib.hid k2; have HGa := Lib.hid (show Grow wi w5 from Grow.step (by repeat first | exact Grow.rfl' _ | exact HGb.out | exact HGa.out | exact HQ2.out | apply Grow.drewd | apply Grow.allocd) k2)
                  clear k1 k2
                  refine hK.out _ _ ?_ (fun hHeld => ?_)
                  · exact HS6.out _ (by repeat first | exact Grow.rfl' _ | exact HGb.out | exact HGa.out | exact HQ2.out | apply Grow.drewd | apply Grow.allocd)
                  clear hK K
                  try simp only [Act.put, List.setIfInBounds_toArray, List.set_cons_zero, List.set_cons_succ]
                  refine wpAnyH_ready (rs := [12]) (by kernel_rfl) (by simp) ?_
                  refine' AllReadyH.cons (o := ?o47) (by simp only [List.getElem?_toArray, List.getElem?_cons_succ, List.getElem?_cons_zero]; rfl) (fun K hK => ?s47) ?m47
                  case m47 => exact AllReadyH.nil
                  refine step_append_R rfl (.tmp 72) (.tmp 79) 75 rfl rowIntI Tryz.underlying75 wi.heap.size _ (([] : List Int)) (by first | rfl | simp [Act.eval]) H5.out (r.id) [Value.int .i64 r.id] rfl rfl (one1I _) _ (by first | rfl | simp [Act.eval]) (rdBI ((HK5.out.heapEq (by first | (simp; done) | (simp; omega))).trans (boxAt1 _ _ _))) (by have := HGa.out.size; simp; omega) (by have := HLT.out; first | (simp; done) | (simp; unfold maxLen; omega) | (simp [maxLen]; done) | (simp [maxLen]; omega)) (by have := HLT.out; first | (simp; done) | (simp; omega)) ?_
                  intro v6 w6 k1 k2 k3
                  have H6 := Lib.hid k1; have HGb := Lib.hid (show Grow wi w6 from Grow.since (by repeat first | exact Grow.rfl' _ | exact HGb.out | exact HGa.out | exact HQ2.out | apply Grow.drewd | apply Grow.allocd) k2 (Nat.le_refl _))
                  clear k1 k2 k3
                  refine hK.out _ _ ?_ (fun hHeld => ?_)
                  · exact HS6.out _ (by repeat first | exact Grow.rfl' _ | exact HGb.out | exact HGa.out | exact HQ2.out | apply Grow.drewd | apply Grow.allocd)
                  clear hK K
                  try simp only [Act.put, List.setIfInBounds_toArray, List.set_cons_zero, List.set_cons_succ]
                  refine wpAnyH_ready (rs := [16]) (by kernel_rfl) (by simp) ?_
                  refine' AllReadyH.cons (o := ?o48) (by simp only [List.getElem?_toArray, List.getElem?_cons_succ, List.getElem?_cons_zero]; rfl) (fun K hK => ?s48) ?m48
                  case m48 => exact AllReadyH.nil
                  refine step_append_M rfl (.tmp 80) (.tmp 83) 75 rfl rowIntI Tryz.underlying75 wi.heap.size _ (([] : List Int) ++ [r.id]) (by first | rfl | simp [Act.eval]) H6.out _ (by first | rfl | (simp [Act.eval]; done) | (simp [Act.eval]; intros; omega)) (([] : List Int)) (HDK.out _ HGb.out) idOk HGb.out.size (by have := HLT.out; first | (simp; done) | (simp; unfold maxLen; omega) | (simp [maxLen]; done) | (simp [maxLen]; omega)) (by have := HLT.out; first | (simp; done) | (simp; omega)) ?_
                  intro v7 w7 k1 k2 k3
                  have H7 := Lib.hid k1; have HG7 := Lib.hid (show Grow wi w7 from Grow.since HGb.out k2 (Nat.le_refl _))
                  clear k1 k2 k3
                  refine hK.out _ _ ?_ (fun hHeld => ?_)
                  · exact HS6.out _ HG7.out
                  clear hK K
                  try simp only [Act.put, List.setIfInBounds_toArray, List.set_cons_zero, List.set_cons_succ]
                  refine' wpAnyH_take (i := 17) (oi := ?o49) (v := _) (by simp only [List.getElem?_toArray, List.getElem?_cons_succ, List.getElem?_cons_zero]; rfl) (by kernel_rfl) (by kernel_rfl) (by kernel_rfl) (fun _ _ _ h => h) (Or.inl ⟨by rfl, ?y49⟩) (by assumption) ?r49
                  case y49 =>
                    intro wS hSw
                    try dsimp only at hSw
                    go_simp
                    all_goals with_reducible rfl
                  simp only [Act.put, List.setIfInBounds_toArray, List.set_cons_zero, List.set_cons_succ]
                  refine wpAnyH_done (by kernel_rfl) ?_ _
                  refine NoPanic.normal ?_
                  go_wp2
                  go_roundg (l.length - (i + 1))
                  case measure => omega
                  case rel => exact ⟨i + 1, putL ([] : List Int) r.id, by omega, rfl, by go_num, HSET.out, by have := putL_len ([] : List Int) r.id; have := HLN.out; omega, by rw [HPUT.out]; exact SlR.sub H7.out.toR (fun _ _ => trivial) (fun _ _ _ h => h), fun h => absurd h (by rw [HPUT.out]; simp), HG.out.step (HGI.out.step HG7.out)⟩
                refine step_append_L rfl (.tmp 68) (.tmp 71) 75 rfl rowIntI Tryz.underlying75 wi.heap.size _ (by first | rfl | simp [Act.eval]) _ (by first | rfl | simp [Act.eval]) (([] : List Int)) (HTK.out _ (by repeat first | exact Grow.rfl' _ | exact HGb.out | exact HGa.out | exact HQ2.out | apply Grow.drewd | apply Grow.allocd)) idOk (by first | (simp; done) | (simp; omega)) (by have := HLT.out; first | (simp; done) | (simp; unfold maxLen; omega) | (simp [maxLen]; done) | (simp [maxLen]; omega)) (by have := HLT.out; first | (simp; done) | (simp; omega)) ?_
                intro v5 w5 k1 k2
                have H5 := Lib.hid k1; have HK5 := Lib.hid k2; have HGa := Lib.hid (show Grow wi w5 from Grow.step (by repeat first | exact Grow.rfl' _ | exact HGb.out | exact HGa.out | exact HQ2.out | apply Grow.drewd | apply Grow.allocd) k2)
                clear k1 k2
                refine hK.out _ _ ?_ (fun hHeld => ?_)
                · exact HS6.out _ (by repeat first | exact Grow.rfl' _ | exact HGb.out | exact HGa.out | exact HQ2.out | apply Grow.drewd | apply Grow.allocd)
                clear hK K
                try simp only [Act.put, List.setIfInBounds_toArray, List.set_cons_zero, List.set_cons_succ]
                refine wpAnyH_ready (rs := [11]) (by kernel_rfl) (by simp) ?_
                refine' AllReadyH.cons (o := ?o42) (by simp only [List.getElem?_toArray, List.getElem?_cons_succ, List.getElem?_cons_zero]; rfl) (fun K hK => ?s42) ?m42
                case m42 => exact AllReadyH.nil
                go_simp
                refine hK.out _ _ ?_ (fun hHeld => ?_)
                · exact HS6.out _ (by repeat first | exact Grow.rfl' _ | exact HGb.out | exact HGa.out | exact HQ2.out | apply Grow.drewd | apply Grow.allocd)
                clear hK K
                try simp only [Act.put, List.setIfInBounds_toArray, List.set_cons_zero, List.set_cons_succ]
                refine wpAnyH_ready (rs := [12]) (by kernel_rfl) (by simp) ?_
                refine' AllReadyH.cons (o := ?o43) (by simp only [List.getElem?_toArray, List.getElem?_cons_succ, List.getElem?_cons_zero]; rfl) (fun K hK => ?s43) ?m43
                case m43 => exact AllReadyH.nil
                refine step_append_R rfl (.tmp 72) (.tmp 79) 75 rfl rowIntI Tryz.underlying75 wi.heap.size _ (([] : List Int)) (by first | rfl | simp [Act.eval]) (H5.out.grow ((Grow.rfl' _).allocd _)) (r.id) [Value.int .i64 r.id] rfl rfl (one1I _) _ (by first | rfl | simp [Act.eval]) (rdK _ _ _ 1 rfl rfl) (by have := HGa.out.size; simp; omega) (by have := HLT.out; first | (simp; done) | (simp; unfold maxLen; omega) | (simp [maxLen]; done) | (simp [maxLen]; omega)) (by have := HLT.out; first | (simp; done) | (simp; omega)) ?_
                intro v6 w6 k1 k2 k3
                have H6 := Lib.hid k1; have HGb := Lib.hid (show Grow wi w6 from Grow.since (by repeat first | exact Grow.rfl' _ | exact HGb.out | exact HGa.out | exact HQ2.out | apply Grow.drewd | apply Grow.allocd) k2 (Nat.le_refl _))
                clear k1 k2 k3
                refine hK.out _ _ ?_ (fun hHeld => ?_)
                · exact HS6.out _ (by repeat first | exact Grow.rfl' _ | exact HGb.out | exact HGa.out | exact HQ2.out | apply Grow.drewd | apply Grow.allocd)
                clear hK K
                try simp only [Act.put, List.setIfInBounds_toArray, List.set_cons_zero, List.set_cons_succ]
                refine wpAnyH_ready (rs := [16]) (by kernel_rfl) (by simp) ?_
                refine' AllReadyH.cons (o := ?o44) (by simp only [List.getElem?_toArray, List.getElem?_cons_succ, List.getElem?_cons_zero]; rfl) (fun K hK => ?s44) ?m44
                case m44 => exact AllReadyH.nil
                refine step_append_M rfl (.tmp 80) (.tmp 83) 75 rfl rowIntI Tryz.underlying75 wi.heap.size _ (([] : List Int) ++ [r.id]) (by first | rfl | simp [Act.eval]) H6.out _ (by first | rfl | (simp [Act.eval]; done) | (simp [Act.eval]; intros; omega)) (([] : List Int)) (HDK.out _ HGb.out) idOk HGb.out.size (by have := HLT.out; first | (simp; done) | (simp; unfold maxLen; omega) | (simp [maxLen]; done) | (simp [maxLen]; omega)) (by have := HLT.out; first | (simp; done) | (simp; omega)) ?_
                intro v7 w7 k1 k2 k3
                have H7 := Lib.hid k1; have HG7 := Lib.hid (show Grow wi w7 from Grow.since HGb.out k2 (Nat.le_refl _))
                clear k1 k2 k3
                refine hK.out _ _ ?_ (fun hHeld => ?_)
                · exact HS6.out _ HG7.out
                clear hK K
                try simp only [Act.put, List.setIfInBounds_toArray, List.set_cons_zero, List.set_cons_succ]
                refine' wpAnyH_take (i := 17) (oi := ?o45) (v := _) (by simp only [List.getElem?_toArray, List.getElem?_cons_succ, List.getElem?_cons_zero]; rfl) (by kernel_rfl) (by kernel_rfl) (by kernel_rfl) (fun _ _ _ h => h) (Or.inl ⟨by rfl, ?y45⟩) (by assumption) ?r45
                case y45 =>
                  intro wS hSw
                  try dsimp only at hSw
                  go_simp
                  all_goals with_reducible rfl
                simp only [Act.put, List.setIfInBounds_toArray, List.set_cons_zero, List.set_cons_succ]
                refine wpAnyH_done (by kernel_rfl) ?_ _
                refine NoPanic.normal ?_
                go_wp2
                go_roundg (l.length - (i + 1))
                case measure => omega
                case rel => exact ⟨i + 1, putL ([] : List Int) r.id, by omega, rfl, by go_num, HSET.out, by have := putL_len ([] : List Int) r.id; have := HLN.out; omega, by rw [HPUT.out]; exact SlR.sub H7.out.toR (fun _ _ => trivial) (fun _ _ _ h => h), fun h => absurd h (by rw [HPUT.out]; simp), HG.out.step (HGI.out.step HG7.out)⟩
              · have hpos : 0 < L.length := List.length_pos_iff.2 hl0
                obtain ⟨bo, oo, rfl, -⟩ := HO3.out 0 L[0] (List.getElem?_eq_getElem hpos)
                by_cases hkc : L.length = cK
                · subst hkc
                  have hk0 : (0 : Int) ≤ (L.length : Int) := by omega
                  have HTK := Lib.hid (show ∀ w', Grow wi w' → IdsR (fun _ => True) w' _ L from fun w' g => HIDS.out.growS (HGI.out.step g))
                  have HDK := Lib.hid (show ∀ w', Grow wi w' → IdsR (fun _ => True) w' (.slice (some ⟨bo, oo, none⟩) 0 0) [] from fun w' _ => ⟨_, _, [], rfl, by simp, by first | (simp; done) | (simp; unfold maxLen; omega), rfl, by simp, by simp⟩)
                  have HLT := Lib.hid (show L.length ≤ 4096 by have := HLN.out; have := HBD.out; omega)
                  have HS6 := Lib.hid (show ∀ w', Grow wi w' → _ from fun w' g => HSS.out w' (HGI.out.step g))
                  go_wp2_with fail
                  refine wp_region_grow (by kernel_rfl) (by kernel_rfl) ?_
                  repeat (go_big_quiet_step (fail))
                  refine wpQuiet_nil ?_
                  intro wq1 hq1
                  have HQ1 := Lib.hid hq1
                  clear hq1
                  go_wp2_with fail
                  refine wp_region_grow (by kernel_rfl) (by kernel_rfl) ?_
                  repeat (go_big_quiet_step (fail))
                  refine wpQuiet_nil ?_
                  intro wq2 hq2
                  have HQ2 := Lib.hid (Grow.step HQ1.out hq2)
                  clear hq2
                  have hqs := HQ2.out.size
                  go_wp2_with fail
                  refine wp_region_noPanic ?_
                  refine wp_region_held_drew (S := fun w' => w'.cell? ⟨w.heap.size, 2, none⟩ = some (.slice (some ⟨br, or_, none⟩) l.length cl) ∧ w'.cell? ⟨br, or_ + i * 8, none⟩ = some (.int .i64 r.id)) (by kernel_rfl) ?_ (fun hHeld => ?_)
                  · exact HS6.out _ (by repeat first | exact Grow.rfl' _ | exact HGb.out | exact HGa.out | exact HQ2.out | apply Grow.drewd | apply Grow.allocd)
                  refine' wpAnyH_take (i := 1) (oi := ?o59) (v := _) (by simp only [List.getElem?_toArray, List.getElem?_cons_succ, List.getElem?_cons_zero]; rfl) (by kernel_rfl) (by kernel_rfl) (by kernel_rfl) (fun _ _ _ h => h) (Or.inl ⟨by rfl, ?y59⟩) (by assumption) ?r59
                  case y59 =>
                    intro wS hSw
                    try dsimp only at hSw
                    go_simp
                    all_goals with_reducible rfl
                  simp only [Act.put, List.setIfInBounds_toArray, List.set_cons_zero, List.set_cons_succ]
                  refine' wpAnyH_take (i := 2) (oi := ?o60) (v := _) (by simp only [List.getElem?_toArray, List.getElem?_cons_succ, List.getElem?_cons_zero]; rfl) (by kernel_rfl) (by kernel_rfl) (by kernel_rfl) (fun _ _ _ h => h) (Or.inl ⟨by rfl, ?y60⟩) (by assumption) ?r60
                  case y60 =>
                    intro wS hSw
                    try dsimp only at hSw
                    go_simp
                    all_goals with_reducible rfl
                  simp only [Act.put, List.setIfInBounds_toArray, List.set_cons_zero, List.set_cons_succ]
                  refine' wpAnyH_take (i := 3) (oi := ?o61) (v := _) (by simp only [List.getElem?_toArray, List.getElem?_cons_succ, List.getElem?_cons_zero]; rfl) (by kernel_rfl) (by kernel_rfl) (by kernel_rfl) (fun _ _ _ h => h) (Or.inl ⟨by rfl, ?y61⟩) (by assumption) ?r61
                  case y61 =>
                    intro wS hSw
                    try dsimp only at hSw
                    go_simp
                    all_goals with_reducible rfl
                  simp only [Act.put, List.setIfInBounds_toArray, List.set_cons_zero, List.set_cons_succ]
                  refine' wpAnyH_take (i := 5) (oi := ?o62) (v := _) (by simp only [List.getElem?_toArray, List.getElem?_cons_succ, List.getElem?_cons_zero]; rfl) (by kernel_rfl) (by kernel_rfl) (by kernel_rfl) (fun _ _ _ h => h) (Or.inl ⟨by rfl, ?y62⟩) (by assumption) ?r62
                  case y62 =>
                    intro wS hSw
                    try dsimp only at hSw
                    go_simp
                    all_goals with_reducible rfl
                  simp only [Act.put, List.setIfInBounds_toArray, List.set_cons_zero, List.set_cons_succ]
                  refine' wpAnyH_take (i := 6) (oi := ?o63) (v := _) (by simp only [List.getElem?_toArray, List.getElem?_cons_succ, List.getElem?_cons_zero]; rfl) (by kernel_rfl) (by kernel_rfl) (by kernel_rfl) (fun _ _ _ h => h) (Or.inl ⟨by rfl, ?y63⟩) (by assumption) ?r63
                  case y63 =>
                    intro wS hSw
                    try dsimp only at hSw
                    go_simp
                    all_goals with_reducible rfl
                  simp only [Act.put, List.setIfInBounds_toArray, List.set_cons_zero, List.set_cons_succ]
                  refine' wpAnyH_take (i := 7) (oi := ?o64) (v := _) (by simp only [List.getElem?_toArray, List.getElem?_cons_succ, List.getElem?_cons_zero]; rfl) (by kernel_rfl) (by kernel_rfl) (by kernel_rfl) (fun _ _ _ h => h) (Or.inl ⟨by rfl, ?y64⟩) (by assumption) ?r64
                  case y64 =>
                    intro wS hSw
                    try dsimp only at hSw
                    go_simp
                    all_goals with_reducible rfl
                  simp only [Act.put, List.setIfInBounds_toArray, List.set_cons_zero, List.set_cons_succ]
                  refine' wpAnyH_take (i := 8) (oi := ?o65) (v := _) (by simp only [List.getElem?_toArray, List.getElem?_cons_succ, List.getElem?_cons_zero]; rfl) (by kernel_rfl) (by kernel_rfl) (by kernel_rfl) (fun _ _ _ h => h) (Or.inl ⟨by rfl, ?y65⟩) (by assumption) ?r65
                  case y65 =>
                    intro wS hSw
                    try dsimp only at hSw
                    go_simp
                    all_goals with_reducible rfl
                  simp only [Act.put, List.setIfInBounds_toArray, List.set_cons_zero, List.set_cons_succ]
                  refine' wpAnyH_take (i := 9) (oi := ?o66) (v := _) (by simp only [List.getElem?_toArray, List.getElem?_cons_succ, List.getElem?_cons_zero]; rfl) (by kernel_rfl) (by kernel_rfl) (by kernel_rfl) (fun _ _ _ h => h) (Or.inl ⟨by rfl, ?y66⟩) (by assumption) ?r66
                  case y66 =>
                    intro wS hSw
                    try dsimp only at hSw
                    go_simp
                    all_goals with_reducible rfl
                  simp only [Act.put, List.setIfInBounds_toArray, List.set_cons_zero, List.set_cons_succ]
                  refine' wpAnyH_take (i := 10) (oi := ?o67) (v := _) (by simp only [List.getElem?_toArray, List.getElem?_cons_succ, List.getElem?_cons_zero]; rfl) (by kernel_rfl) (by kernel_rfl) (by kernel_rfl) (fun _ _ _ h => h) (Or.inl ⟨by rfl, ?y67⟩) (by assumption) ?r67
                  case y67 =>
                    intro wS hSw
                    try dsimp only at hSw
                    go_simp
                    all_goals with_reducible rfl
                  simp only [Act.put, List.setIfInBounds_toArray, List.set_cons_zero, List.set_cons_succ]
                  refine' wpAnyH_take (i := 13) (oi := ?o68) (v := _) (by simp only [List.getElem?_toArray, List.getElem?_cons_succ, List.getElem?_cons_zero]; rfl) (by kernel_rfl) (by kernel_rfl) (by kernel_rfl) (fun _ _ _ h => h) (Or.inl ⟨by rfl, ?y68⟩) (by assumption) ?r68
                  case y68 =>
                    intro wS hSw
                    try dsimp only at hSw
                    go_simp
                    all_goals with_reducible rfl
                  simp only [Act.put, List.setIfInBounds_toArray, List.set_cons_zero, List.set_cons_succ]
                  refine' wpAnyH_take (i := 14) (oi := ?o69) (v := _) (by simp only [List.getElem?_toArray, List.getElem?_cons_succ, List.getElem?_cons_zero]; rfl) (by kernel_rfl) (by kernel_rfl) (by kernel_rfl) (fun _ _ _ h => h) (Or.inl ⟨by rfl, ?y69⟩) (by assumption) ?r69
                  case y69 =>
                    intro wS hSw
                    try dsimp only at hSw
                    go_simp
                    all_goals with_reducible rfl
                  simp only [Act.put, List.setIfInBounds_toArray, List.set_cons_zero, List.set_cons_succ]
                  refine' wpAnyH_take (i := 15) (oi := ?o70) (v := _) (by simp only [List.getElem?_toArray, List.getElem?_cons_succ, List.getElem?_cons_zero]; rfl) (by kernel_rfl) (by kernel_rfl) (by kernel_rfl) (fun _ _ _ h => h) (Or.inl ⟨by rfl, ?y70⟩) (by assumption) ?r70
                  case y70 =>
                    intro wS hSw
                    try dsimp only at hSw
                    go_simp
                    all_goals with_reducible rfl
                  simp only [Act.put, List.setIfInBounds_toArray, List.set_cons_zero, List.set_cons_succ]
                  refine wpAnyH_ready (rs := [0, 11]) (by kernel_rfl) (by simp) ?_
                  refine' AllReadyH.cons (o := ?o86) (by simp only [List.getElem?_toArray, List.getElem?_cons_zero]; rfl) (fun K hK => ?s86) ?m86
                  rotate_left
                  · refine' AllReadyH.cons (o := ?o87) (by simp only [List.getElem?_toArray, List.getElem?_cons_succ, List.getElem?_cons_zero]; rfl) (fun K hK => ?s87) ?m87
                    case m87 => exact AllReadyH.nil
                    go_simp
                    refine hK.out _ _ ?_ (fun hHeld => ?_)
                    · exact HS6.out _ (by repeat first | exact Grow.rfl' _ | exact HGb.out | exact HGa.out | exact HQ2.out | apply Grow.drewd | apply Grow.allocd)
                    clear hK K
                    try simp only [Act.put, List.setIfInBounds_toArray, List.set_cons_zero, List.set_cons_succ]
                    refine wpAnyH_ready (rs := [0]) (by kernel_rfl) (by simp) ?_
                    refine' AllReadyH.cons (o := ?o81) (by simp only [List.getElem?_toArray, List.getElem?_cons_zero]; rfl) (fun K hK => ?s81) ?m81
                    case m81 => exact AllReadyH.nil
                    go_simp
                    refine hK.out _ _ ?_ (fun hHeld => ?_)
                    · exact HS6.out _ (by repeat first | exact Grow.rfl' _ | exact HGb.out | exact HGa.out | exact HQ2.out | apply Grow.drewd | apply Grow.allocd)
                    clear hK K
                    try simp only [Act.put, List.setIfInBounds_toArray, List.set_cons_zero, List.set_cons_succ]
                    refine wpAnyH_ready (rs := [4]) (by kernel_rfl) (by simp) ?_
                    refine' AllReadyH.cons (o := ?o82) (by simp only [List.getElem?_toArray, List.getElem?_cons_succ, List.getElem?_cons_zero]; rfl) (fun K hK => ?s82) ?m82
                    case m82 => exact AllReadyH.nil
                    refine step_append_L rfl (.tmp 68) (.tmp 71) 75 rfl rowIntI Tryz.underlying75 wi.heap.size _ (by first | rfl | simp [Act.eval]) _ (by first | rfl | simp [Act.eval]) (L) (HTK.out _ (by repeat first | exact Grow.rfl' _ | exact HGb.out | exact HGa.out | exact HQ2.out | apply Grow.drewd | apply Grow.allocd)) idOk (by first | (simp; done) | (simp; omega)) (by have := HLT.out; first | (simp; done) | (simp; unfold maxLen; omega) | (simp [maxLen]; done) | (simp [maxLen]; omega)) (by have := HLT.out; first | (simp; done) | (simp; omega)) ?_
                    intro v5 w5 k1 k2
                    have H5 := Lib.hid k1; have HK5 := Lib.hid k2; have HGa := Lib.hid (show Grow wi w5 from Grow.step (by repeat first | exact Grow.rfl' _ | exact HGb.out | exact HGa.out | exact HQ2.out | apply Grow.drewd | apply Grow.allocd) k2)
                    clear k1 k2
                    refine hK.out _ _ ?_ (fun hHeld => ?_)
                    · exact HS6.out _ (by repeat first | exact Grow.rfl' _ | exact HGb.out | exact HGa.out | exact HQ2.out | apply Grow.drewd | apply Grow.allocd)
                    clear hK K
                    try simp only [Act.put, List.setIfInBounds_toArray, List.set_cons_zero, List.set_cons_succ]
                    refine wpAnyH_ready (rs := [12]) (by kernel_rfl) (by simp) ?_
                    refine' AllReadyH.cons (o := ?o83) (by simp only [List.getElem?_toArray, List.getElem?_cons_succ, List.getElem?_cons_zero]; rfl) (fun K hK => ?s83) ?m83
                    case m83 => exact AllReadyH.nil
                    refine step_append_R rfl (.tmp 72) (.tmp 79) 75 rfl rowIntI Tryz.underlying75 wi.heap.size _ (L) (by first | rfl | simp [Act.eval]) H5.out (r.id) [Value.int .i64 r.id] rfl rfl (one1I _) _ (by first | rfl | simp [Act.eval]) (rdBI ((HK5.out.heapEq (by first | (simp; done) | (simp; omega))).trans (boxAt0 _ _ _))) (by have := HGa.out.size; simp; omega) (by have := HLT.out; first | (simp; done) | (simp; unfold maxLen; omega) | (simp [maxLen]; done) | (simp [maxLen]; omega)) (by have := HLT.out; first | (simp; done) | (simp; omega)) ?_
                    intro v6 w6 k1 k2 k3
                    have H6 := Lib.hid k1; have HGb := Lib.hid (show Grow wi w6 from Grow.since (by repeat first | exact Grow.rfl' _ | exact HGb.out | exact HGa.out | exact HQ2.out | apply Grow.drewd | apply Grow.allocd) k2 (Nat.le_refl _))
                    clear k1 k2 k3
                    refine hK.out _ _ ?_ (fun hHeld => ?_)
                    · exact HS6.out _ (by repeat first | exact Grow.rfl' _ | exact HGb.out | exact HGa.out | exact HQ2.out | apply Grow.drewd | apply Grow.allocd)
                    clear hK K
                    try simp only [Act.put, List.setIfInBounds_toArray, List.set_cons_zero, List.set_cons_succ]
                    refine wpAnyH_ready (rs := [16]) (by kernel_rfl) (by simp) ?_
                    refine' AllReadyH.cons (o := ?o84) (by simp only [List.getElem?_toArray, List.getElem?_cons_succ, List.getElem?_cons_zero]; rfl) (fun K hK => ?s84) ?m84
                    case m84 => exact AllReadyH.nil
                    refine step_append_M rfl (.tmp 80) (.tmp 83) 75 rfl rowIntI Tryz.underlying75 wi.heap.size _ (L ++ [r.id]) (by first | rfl | simp [Act.eval]) H6.out _ (by first | rfl | (simp [Act.eval]; done) | (simp [Act.eval]; intros; omega)) (([] : List Int)) (HDK.out _ HGb.out) idOk HGb.out.size (by have := HLT.out; first | (simp; done) | (simp; unfold maxLen; omega) | (simp [maxLen]; done) | (simp [maxLen]; omega)) (by have := HLT.out; first | (simp; done) | (simp; omega)) ?_
                    intro v7 w7 k1 k2 k3
                    have H7 := Lib.hid k1; have HG7 := Lib.hid (show Grow wi w7 from Grow.since HGb.out k2 (Nat.le_refl _))
                    clear k1 k2 k3
                    refine hK.out _ _ ?_ (fun hHeld => ?_)
                    · exact HS6.out _ HG7.out
                    clear hK K
                    try simp only [Act.put, List.setIfInBounds_toArray, List.set_cons_zero, List.set_cons_succ]
                    refine' wpAnyH_take (i := 17) (oi := ?o85) (v := _) (by simp only [List.getElem?_toArray, List.getElem?_cons_succ, List.getElem?_cons_zero]; rfl) (by kernel_rfl) (by kernel_rfl) (by kernel_rfl) (fun _ _ _ h => h) (Or.inl ⟨by rfl, ?y85⟩) (by assumption) ?r85
                    case y85 =>
                      intro wS hSw
                      try dsimp only at hSw
                      go_simp
                      all_goals with_reducible rfl
                    simp only [Act.put, List.setIfInBounds_toArray, List.set_cons_zero, List.set_cons_succ]
                    refine wpAnyH_done (by kernel_rfl) ?_ _
                    refine NoPanic.normal ?_
                    go_wp2
                    go_roundg (l.length - (i + 1))
                    case measure => omega
                    case rel => exact ⟨i + 1, putL L r.id, by omega, rfl, by go_num, HSET.out, by have := putL_len L r.id; have := HLN.out; omega, by rw [HPUT.out]; exact SlR.sub H7.out.toR (fun _ _ => trivial) (fun _ _ _ h => h), fun h => absurd h (by rw [HPUT.out]; simp), HG.out.step (HGI.out.step HG7.out)⟩
                  go_simp
                  refine hK.out _ _ ?_ (fun hHeld => ?_)
                  · exact HS6.out _ (by repeat first | exact Grow.rfl' _ | exact HGb.out | exact HGa.out | exact HQ2.out | apply Grow.drewd | apply Grow.allocd)
                  clear hK K
                  try simp only [Act.put, List.setIfInBounds_toArray, List.set_cons_zero, List.set_cons_succ]
                  refine wpAnyH_ready (rs := [4, 11]) (by kernel_rfl) (by simp) ?_
                  refine' AllReadyH.cons (o := ?o79) (by simp only [List.getElem?_toArray, List.getElem?_cons_succ, List.getElem?_cons_zero]; rfl) (fun K hK => ?s79) ?m79
                  rotate_left
                  · refine' AllReadyH.cons (o := ?o80) (by simp only [List.getElem?_toArray, List.getElem?_cons_succ, List.getElem?_cons_zero]; rfl) (fun K hK => ?s80) ?m80
                    case m80 => exact AllReadyH.nil
                    go_simp
                    refine hK.out _ _ ?_ (fun hHeld => ?_)
                    · exact HS6.out _ (by repeat first | exact Grow.rfl' _ | exact HGb.out | exact HGa.out | exact HQ2.out | apply Grow.drewd | apply Grow.allocd)
                    clear hK K
                    try simp only [Act.put, List.setIfInBounds_toArray, List.set_cons_zero, List.set_cons_succ]
                    refine wpAnyH_ready (rs := [4]) (by kernel_rfl) (by simp) ?_
                    refine' AllReadyH.cons (o := ?o75) (by simp only [List.getElem?_toArray, List.getElem?_cons_succ, List.getElem?_cons_zero]; rfl) (fun K hK => ?s75) ?m75
                    case m75 => exact AllReadyH.nil
                    refine step_append_L rfl (.tmp 68) (.tmp 71) 75 rfl rowIntI Tryz.underlying75 wi.heap.size _ (by first | rfl | simp [Act.eval]) _ (by first | rfl | simp [Act.eval]) (L) (HTK.out _ (by repeat first | exact Grow.rfl' _ | exact HGb.out | exact HGa.out | exact HQ2.out | apply Grow.drewd | apply Grow.allocd)) idOk (by first | (simp; done) | (simp; omega)) (by have := HLT.out; first | (simp; done) | (simp; unfold maxLen; omega) | (simp [maxLen]; done) | (simp [maxLen]; omega)) (by have := HLT.out; first | (simp; done) | (simp; omega)) ?_
                    intro v5 w5 k1 k2
                    have H5 := Lib.hid k1; have HK5 := Lib.hid k2; have HGa := Lib.hid (show Grow wi w5 from Grow.step (by repeat first | exact Grow.rfl' _ | exact HGb.out | exact HGa.out | exact HQ2.out | apply Grow.drewd | apply Grow.allocd) k2)
                    clear k1 k2
                    refine hK.out _ _ ?_ (fun hHeld => ?_)
                    · exact HS6.out _ (by repeat first | exact Grow.rfl' _ | exact HGb.out | exact HGa.out | exact HQ2.out | apply Grow.drewd | apply Grow.allocd)
                    clear hK K
                    try simp only [Act.put, List.setIfInBounds_toArray, List.set_cons_zero, List.set_cons_succ]
                    refine wpAnyH_ready (rs := [12]) (by kernel_rfl) (by simp) ?_
                    refine' AllReadyH.cons (o := ?o76) (by simp only [List.getElem?_toArray, List.getElem?_cons_succ, List.getElem?_cons_zero]; rfl) (fun K hK => ?s76) ?m76
                    case m76 => exact AllReadyH.nil
                    refine step_append_R rfl (.tmp 72) (.tmp 79) 75 rfl rowIntI Tryz.underlying75 wi.heap.size _ (L) (by first | rfl | simp [Act.eval]) H5.out (r.id) [Value.int .i64 r.id] rfl rfl (one1I _) _ (by first | rfl | simp [Act.eval]) (rdBI ((HK5.out.heapEq (by first | (simp; done) | (simp; omega))).trans (boxAt1 _ _ _))) (by have := HGa.out.size; simp; omega) (by have := HLT.out; first | (simp; done) | (simp; unfold maxLen; omega) | (simp [maxLen]; done) | (simp [maxLen]; omega)) (by have := HLT.out; first | (simp; done) | (simp; omega)) ?_
                    intro v6 w6 k1 k2 k3
                    have H6 := Lib.hid k1; have HGb := Lib.hid (show Grow wi w6 from Grow.since (by repeat first | exact Grow.rfl' _ | exact HGb.out | exact HGa.out | exact HQ2.out | apply Grow.drewd | apply Grow.allocd) k2 (Nat.le_refl _))
                    clear k1 k2 k3
                    refine hK.out _ _ ?_ (fun hHeld => ?_)
                    · exact HS6.out _ (by repeat first | exact Grow.rfl' _ | exact HGb.out | exact HGa.out | exact HQ2.out | apply Grow.drewd | apply Grow.allocd)
                    clear hK K
                    try simp only [Act.put, List.setIfInBounds_toArray, List.set_cons_zero, List.set_cons_succ]
                    refine wpAnyH_ready (rs := [16]) (by kernel_rfl) (by simp) ?_
                    refine' AllReadyH.cons (o := ?o77) (by simp only [List.getElem?_toArray, List.getElem?_cons_succ, List.getElem?_cons_zero]; rfl) (fun K hK => ?s77) ?m77
                    case m77 => exact AllReadyH.nil
                    refine step_append_M rfl (.tmp 80) (.tmp 83) 75 rfl rowIntI Tryz.underlying75 wi.heap.size _ (L ++ [r.id]) (by first | rfl | simp [Act.eval]) H6.out _ (by first | rfl | (simp [Act.eval]; done) | (simp [Act.eval]; intros; omega)) (([] : List Int)) (HDK.out _ HGb.out) idOk HGb.out.size (by have := HLT.out; first | (simp; done) | (simp; unfold maxLen; omega) | (simp [maxLen]; done) | (simp [maxLen]; omega)) (by have := HLT.out; first | (simp; done) | (simp; omega)) ?_
                    intro v7 w7 k1 k2 k3
                    have H7 := Lib.hid k1; have HG7 := Lib.hid (show Grow wi w7 from Grow.since HGb.out k2 (Nat.le_refl _))
                    clear k1 k2 k3
                    refine hK.out _ _ ?_ (fun hHeld => ?_)
                    · exact HS6.out _ HG7.out
                    clear hK K
                    try simp only [Act.put, List.setIfInBounds_toArray, List.set_cons_zero, List.set_cons_succ]
                    refine' wpAnyH_take (i := 17) (oi := ?o78) (v := _) (by simp only [List.getElem?_toArray, List.getElem?_cons_succ, List.getElem?_cons_zero]; rfl) (by kernel_rfl) (by kernel_rfl) (by kernel_rfl) (fun _ _ _ h => h) (Or.inl ⟨by rfl, ?y78⟩) (by assumption) ?r78
                    case y78 =>
                      intro wS hSw
                      try dsimp only at hSw
                      go_simp
                      all_goals with_reducible rfl
                    simp only [Act.put, List.setIfInBounds_toArray, List.set_cons_zero, List.set_cons_succ]
                    refine wpAnyH_done (by kernel_rfl) ?_ _
                    refine NoPanic.normal ?_
                    go_wp2
                    go_roundg (l.length - (i + 1))
                    case measure => omega
                    case rel => exact ⟨i + 1, putL L r.id, by omega, rfl, by go_num, HSET.out, by have := putL_len L r.id; have := HLN.out; omega, by rw [HPUT.out]; exact SlR.sub H7.out.toR (fun _ _ => trivial) (fun _ _ _ h => h), fun h => absurd h (by rw [HPUT.out]; simp), HG.out.step (HGI.out.step HG7.out)⟩
                  refine step_append_L rfl (.tmp 68) (.tmp 71) 75 rfl rowIntI Tryz.underlying75 wi.heap.size _ (by first | rfl | simp [Act.eval]) _ (by first | rfl | simp [Act.eval]) (L) (HTK.out _ (by repeat first | exact Grow.rfl' _ | exact HGb.out | exact HGa.out | exact HQ2.out | apply Grow.drewd | apply Grow.allocd)) idOk (by first | (simp; done) | (simp; omega)) (by have := HLT.out; first | (simp; done) | (simp; unfold maxLen; omega) | (simp [maxLen]; done) | (simp [maxLen]; omega)) (by have := HLT.out; first | (simp; done) | (simp; omega)) ?_
                  intro v5 w5 k1 k2
                  have H5 := Lib.hid k1; have HK5 := Lib.hid k2; have HGa := Lib.hid (show Grow wi w5 from Grow.step (by repeat first | exact Grow.rfl' _ | exact HGb.out | exact HGa.out | exact HQ2.out | apply Grow.drewd | apply Grow.allocd) k2)
                  clear k1 k2
                  refine hK.out _ _ ?_ (fun hHeld => ?_)
                  · exact HS6.out _ (by repeat first | exact Grow.rfl' _ | exact HGb.out | exact HGa.out | exact HQ2.out | apply Grow.drewd | apply Grow.allocd)
                  clear hK K
                  try simp only [Act.put, List.setIfInBounds_toArray, List.set_cons_zero, List.set_cons_succ]
                  refine wpAnyH_ready (rs := [11]) (by kernel_rfl) (by simp) ?_
                  refine' AllReadyH.cons (o := ?o71) (by simp only [List.getElem?_toArray, List.getElem?_cons_succ, List.getElem?_cons_zero]; rfl) (fun K hK => ?s71) ?m71
                  case m71 => exact AllReadyH.nil
                  go_simp
                  refine hK.out _ _ ?_ (fun hHeld => ?_)
                  · exact HS6.out _ (by repeat first | exact Grow.rfl' _ | exact HGb.out | exact HGa.out | exact HQ2.out | apply Grow.drewd | apply Grow.allocd)
                  clear hK K
                  try simp only [Act.put, List.setIfInBounds_toArray, List.set_cons_zero, List.set_cons_succ]
                  refine wpAnyH_ready (rs := [12]) (by kernel_rfl) (by simp) ?_
                  refine' AllReadyH.cons (o := ?o72) (by simp only [List.getElem?_toArray, List.getElem?_cons_succ, List.getElem?_cons_zero]; rfl) (fun K hK => ?s72) ?m72
                  case m72 => exact AllReadyH.nil
                  refine step_append_R rfl (.tmp 72) (.tmp 79) 75 rfl rowIntI Tryz.underlying75 wi.heap.size _ (L) (by first | rfl | simp [Act.eval]) (H5.out.grow ((Grow.rfl' _).allocd _)) (r.id) [Value.int .i64 r.id] rfl rfl (one1I _) _ (by first | rfl | simp [Act.eval]) (rdK _ _ _ 1 rfl rfl) (by have := HGa.out.size; simp; omega) (by have := HLT.out; first | (simp; done) | (simp; unfold maxLen; omega) | (simp [maxLen]; done) | (simp [maxLen]; omega)) (by have := HLT.out; first | (simp; done) | (simp; omega)) ?_
                  intro v6 w6 k1 k2 k3
                  have H6 := Lib.hid k1; have HGb := Lib.hid (show Grow wi w6 from Grow.since (by repeat first | exact Grow.rfl' _ | exact HGb.out | exact HGa.out | exact HQ2.out | apply Grow.drewd | apply Grow.allocd) k2 (Nat.le_refl _))
                  clear k1 k2 k3
                  refine hK.out _ _ ?_ (fun hHeld => ?_)
                  · exact HS6.out _ (by repeat first | exact Grow.rfl' _ | exact HGb.out | exact HGa.out | exact HQ2.out | apply Grow.drewd | apply Grow.allocd)
                  clear hK K
                  try simp only [Act.put, List.setIfInBounds_toArray, List.set_cons_zero, List.set_cons_succ]
                  refine wpAnyH_ready (rs := [16]) (by kernel_rfl) (by simp) ?_
                  refine' AllReadyH.cons (o := ?o73) (by simp only [List.getElem?_toArray, List.getElem?_cons_succ, List.getElem?_cons_zero]; rfl) (fun K hK => ?s73) ?m73
                  case m73 => exact AllReadyH.nil
                  refine step_append_M rfl (.tmp 80) (.tmp 83) 75 rfl rowIntI Tryz.underlying75 wi.heap.size _ (L ++ [r.id]) (by first | rfl | simp [Act.eval]) H6.out _ (by first | rfl | (simp [Act.eval]; done) | (simp [Act.eval]; intros; omega)) (([] : List Int)) (HDK.out _ HGb.out) idOk HGb.out.size (by have := HLT.out; first | (simp; done) | (simp; unfold maxLen; omega) | (simp [maxLen]; done) | (simp [maxLen]; omega)) (by have := HLT.out; first | (simp; done) | (simp; omega)) ?_
                  intro v7 w7 k1 k2 k3
                  have H7 := Lib.hid k1; have HG7 := Lib.hid (show Grow wi w7 from Grow.since HGb.out k2 (Nat.le_refl _))
                  clear k1 k2 k3
                  refine hK.out _ _ ?_ (fun hHeld => ?_)
                  · exact HS6.out _ HG7.out
                  clear hK K
                  try simp only [Act.put, List.setIfInBounds_toArray, List.set_cons_zero, List.set_cons_succ]
                  refine' wpAnyH_take (i := 17) (oi := ?o74) (v := _) (by simp only [List.getElem?_toArray, List.getElem?_cons_succ, List.getElem?_cons_zero]; rfl) (by kernel_rfl) (by kernel_rfl) (by kernel_rfl) (fun _ _ _ h => h) (Or.inl ⟨by rfl, ?y74⟩) (by assumption) ?r74
                  case y74 =>
                    intro wS hSw
                    try dsimp only at hSw
                    go_simp
                    all_goals with_reducible rfl
                  simp only [Act.put, List.setIfInBounds_toArray, List.set_cons_zero, List.set_cons_succ]
                  refine wpAnyH_done (by kernel_rfl) ?_ _
                  refine NoPanic.normal ?_
                  go_wp2
                  go_roundg (l.length - (i + 1))
                  case measure => omega
                  case rel => exact ⟨i + 1, putL L r.id, by omega, rfl, by go_num, HSET.out, by have := putL_len L r.id; have := HLN.out; omega, by rw [HPUT.out]; exact SlR.sub H7.out.toR (fun _ _ => trivial) (fun _ _ _ h => h), fun h => absurd h (by rw [HPUT.out]; simp), HG.out.step (HGI.out.step HG7.out)⟩
                · have hlt : L.length < cK := by omega
                  have hk0 : (0 : Int) ≤ (L.length : Int) := by omega
                  have hk2 : (L.length : Int) ≤ (cK : Int) := by omega
                  have hk3 : (L.length : Int) < (cK : Int) := by omega
                  have HTK := Lib.hid (show ∀ w', Grow wi w' → IdsR (fun _ => True) w' _ L from fun w' g => HIDS.out.growS (HGI.out.step g))
                  have HDK := Lib.hid (show ∀ w', Grow wi w' → IdsR (fun _ => True) w' (.slice (some ⟨bo, oo + L.length * 1, none⟩) 0 (cK - L.length)) [] from fun w' _ => ⟨_, _, [], rfl, by simp, by first | (simp; done) | (simp; unfold maxLen; omega), rfl, by simp, by simp⟩)
                  have HLT := Lib.hid (show L.length ≤ 4096 by have := HLN.out; have := HBD.out; omega)
                  have HS6 := Lib.hid (show ∀ w', Grow wi w' → _ from fun w' g => HSS.out w' (HGI.out.step g))
                  go_wp2_with fail
                  refine wp_region_grow (by kernel_rfl) (by kernel_rfl) ?_
                  repeat (go_big_quiet_step (fail))
                  refine wpQuiet_nil ?_
                  intro wq1 hq1
                  have HQ1 := Lib.hid hq1
                  clear hq1
                  go_wp2_with fail
                  refine wp_region_grow (by kernel_rfl) (by kernel_rfl) ?_
                  repeat (go_big_quiet_step (fail))
                  refine wpQuiet_nil ?_
                  intro wq2 hq2
                  have HQ2 := Lib.hid (Grow.step HQ1.out hq2)
                  clear hq2
                  have hqs := HQ2.out.size
                  go_wp2_with fail
                  refine wp_region_noPanic ?_
                  refine wp_region_held_drew (S := fun w' => w'.cell? ⟨w.heap.size, 2, none⟩ = some (.slice (some ⟨br, or_, none⟩) l.length cl) ∧ w'.cell? ⟨br, or_ + i * 8, none⟩ = some (.int .i64 r.id)) (by kernel_rfl) ?_ (fun hHeld => ?_)
                  · exact HS6.out _ (by repeat first | exact Grow.rfl' _ | exact HGb.out | exact HGa.out | exact HQ2.out | apply Grow.drewd | apply Grow.allocd)
                  refine' wpAnyH_take (i := 1) (oi := ?o88) (v := _) (by simp only [List.getElem?_toArray, List.getElem?_cons_succ, List.getElem?_cons_zero]; rfl) (by kernel_rfl) (by kernel_rfl) (by kernel_rfl) (fun _ _ _ h => h) (Or.inl ⟨by rfl, ?y88⟩) (by assumption) ?r88
                  case y88 =>
                    intro wS hSw
                    try dsimp only at hSw
                    go_simp
                    all_goals with_reducible rfl
                  simp only [Act.put, List.setIfInBounds_toArray, List.set_cons_zero, List.set_cons_succ]
                  refine' wpAnyH_take (i := 2) (oi := ?o89) (v := _) (by simp only [List.getElem?_toArray, List.getElem?_cons_succ, List.getElem?_cons_zero]; rfl) (by kernel_rfl) (by kernel_rfl) (by kernel_rfl) (fun _ _ _ h => h) (Or.inl ⟨by rfl, ?y89⟩) (by assumption) ?r89
                  case y89 =>
                    intro wS hSw
                    try dsimp only at hSw
                    go_simp
                    all_goals with_reducible rfl
                  simp only [Act.put, List.setIfInBounds_toArray, List.set_cons_zero, List.set_cons_succ]
                  refine' wpAnyH_take (i := 3) (oi := ?o90) (v := _) (by simp only [List.getElem?_toArray, List.getElem?_cons_succ, List.getElem?_cons_zero]; rfl) (by kernel_rfl) (by kernel_rfl) (by kernel_rfl) (fun _ _ _ h => h) (Or.inl ⟨by rfl, ?y90⟩) (by assumption) ?r90
                  case y90 =>
                    intro wS hSw
                    try dsimp only at hSw
                    go_simp
                    all_goals with_reducible rfl
                  simp only [Act.put, List.setIfInBounds_toArray, List.set_cons_zero, List.set_cons_succ]
                  refine' wpAnyH_take (i := 5) (oi := ?o91) (v := _) (by simp only [List.getElem?_toArray, List.getElem?_cons_succ, List.getElem?_cons_zero]; rfl) (by kernel_rfl) (by kernel_rfl) (by kernel_rfl) (fun _ _ _ h => h) (Or.inl ⟨by rfl, ?y91⟩) (by assumption) ?r91
                  case y91 =>
                    intro wS hSw
                    try dsimp only at hSw
                    go_simp
                    all_goals with_reducible rfl
                  simp only [Act.put, List.setIfInBounds_toArray, List.set_cons_zero, List.set_cons_succ]
                  refine' wpAnyH_take (i := 6) (oi := ?o92) (v := _) (by simp only [List.getElem?_toArray, List.getElem?_cons_succ, List.getElem?_cons_zero]; rfl) (by kernel_rfl) (by kernel_rfl) (by kernel_rfl) (fun _ _ _ h => h) (Or.inl ⟨by rfl, ?y92⟩) (by assumption) ?r92
                  case y92 =>
                    intro wS hSw
                    try dsimp only at hSw
                    go_simp
                    all_goals with_reducible rfl
                  simp only [Act.put, List.setIfInBounds_toArray, List.set_cons_zero, List.set_cons_succ]
                  refine' wpAnyH_take (i := 7) (oi := ?o93) (v := _) (by simp only [List.getElem?_toArray, List.getElem?_cons_succ, List.getElem?_cons_zero]; rfl) (by kernel_rfl) (by kernel_rfl) (by kernel_rfl) (fun _ _ _ h => h) (Or.inl ⟨by rfl, ?y93⟩) (by assumption) ?r93
                  case y93 =>
                    intro wS hSw
                    try dsimp only at hSw
                    go_simp
                    all_goals with_reducible rfl
                  simp only [Act.put, List.setIfInBounds_toArray, List.set_cons_zero, List.set_cons_succ]
                  refine' wpAnyH_take (i := 8) (oi := ?o94) (v := _) (by simp only [List.getElem?_toArray, List.getElem?_cons_succ, List.getElem?_cons_zero]; rfl) (by kernel_rfl) (by kernel_rfl) (by kernel_rfl) (fun _ _ _ h => h) (Or.inl ⟨by rfl, ?y94⟩) (by assumption) ?r94
                  case y94 =>
                    intro wS hSw
                    try dsimp only at hSw
                    go_simp
                    all_goals with_reducible rfl
                  simp only [Act.put, List.setIfInBounds_toArray, List.set_cons_zero, List.set_cons_succ]
                  refine' wpAnyH_take (i := 9) (oi := ?o95) (v := _) (by simp only [List.getElem?_toArray, List.getElem?_cons_succ, List.getElem?_cons_zero]; rfl) (by kernel_rfl) (by kernel_rfl) (by kernel_rfl) (fun _ _ _ h => h) (Or.inl ⟨by rfl, ?y95⟩) (by assumption) ?r95
                  case y95 =>
                    intro wS hSw
                    try dsimp only at hSw
                    go_simp
                    all_goals with_reducible rfl
                  simp only [Act.put, List.setIfInBounds_toArray, List.set_cons_zero, List.set_cons_succ]
                  refine' wpAnyH_take (i := 10) (oi := ?o96) (v := _) (by simp only [List.getElem?_toArray, List.getElem?_cons_succ, List.getElem?_cons_zero]; rfl) (by kernel_rfl) (by kernel_rfl) (by kernel_rfl) (fun _ _ _ h => h) (Or.inl ⟨by rfl, ?y96⟩) (by assumption) ?r96
                  case y96 =>
                    intro wS hSw
                    try dsimp only at hSw
                    go_simp
                    all_goals with_reducible rfl
                  simp only [Act.put, List.setIfInBounds_toArray, List.set_cons_zero, List.set_cons_succ]
                  refine' wpAnyH_take (i := 13) (oi := ?o97) (v := _) (by simp only [List.getElem?_toArray, List.getElem?_cons_succ, List.getElem?_cons_zero]; rfl) (by kernel_rfl) (by kernel_rfl) (by kernel_rfl) (fun _ _ _ h => h) (Or.inl ⟨by rfl, ?y97⟩) (by assumption) ?r97
                  case y97 =>
                    intro wS hSw
                    try dsimp only at hSw
                    go_simp
                    all_goals with_reducible rfl
                  simp only [Act.put, List.setIfInBounds_toArray, List.set_cons_zero, List.set_cons_succ]
                  refine' wpAnyH_take (i := 14) (oi := ?o98) (v := _) (by simp only [List.getElem?_toArray, List.getElem?_cons_succ, List.getElem?_cons_zero]; rfl) (by kernel_rfl) (by kernel_rfl) (by kernel_rfl) (fun _ _ _ h => h) (Or.inl ⟨by rfl, ?y98⟩) (by assumption) ?r98
                  case y98 =>
                    intro wS hSw
                    try dsimp only at hSw
                    go_simp
                    all_goals with_reducible rfl
                  simp only [Act.put, List.setIfInBounds_toArray, List.set_cons_zero, List.set_cons_succ]
                  refine' wpAnyH_take (i := 15) (oi := ?o99) (v := _) (by simp only [List.getElem?_toArray, List.getElem?_cons_succ, List.getElem?_cons_zero]; rfl) (by kernel_rfl) (by kernel_rfl) (by kernel_rfl) (fun _ _ _ h => h) (Or.inl ⟨by rfl, ?y99⟩) (by assumption) ?r99
                  case y99 =>
                    intro wS hSw
                    try dsimp only at hSw
                    go_simp
                    all_goals with_reducible rfl
                  simp only [Act.put, List.setIfInBounds_toArray, List.set_cons_zero, List.set_cons_succ]
                  refine wpAnyH_ready (rs := [0, 11]) (by kernel_rfl) (by simp) ?_
                  refine' AllReadyH.cons (o := ?o115) (by simp only [List.getElem?_toArray, List.getElem?_cons_zero]; rfl) (fun K hK => ?s115) ?m115
                  rotate_left
                  · refine' AllReadyH.cons (o := ?o116) (by simp only [List.getElem?_toArray, List.getElem?_cons_succ, List.getElem?_cons_zero]; rfl) (fun K hK => ?s116) ?m116
                    case m116 => exact AllReadyH.nil
                    go_simp
                    refine hK.out _ _ ?_ (fun hHeld => ?_)
                    · exact HS6.out _ (by repeat first | exact Grow.rfl' _ | exact HGb.out | exact HGa.out | exact HQ2.out | apply Grow.drewd | apply Grow.allocd)
                    clear hK K
                    try simp only [Act.put, List.setIfInBounds_toArray, List.set_cons_zero, List.set_cons_succ]
                    refine wpAnyH_ready (rs := [0]) (by kernel_rfl) (by simp) ?_
                    refine' AllReadyH.cons (o := ?o110) (by simp only [List.getElem?_toArray, List.getElem?_cons_zero]; rfl) (fun K hK => ?s110) ?m110
                    case m110 => exact AllReadyH.nil
                    go_simp
                    refine hK.out _ _ ?_ (fun hHeld => ?_)
                    · exact HS6.out _ (by repeat first | exact Grow.rfl' _ | exact HGb.out | exact HGa.out | exact HQ2.out | apply Grow.drewd | apply Grow.allocd)
                    clear hK K
                    try simp only [Act.put, List.setIfInBounds_toArray, List.set_cons_zero, List.set_cons_succ]
                    refine wpAnyH_ready (rs := [4]) (by kernel_rfl) (by simp) ?_
                    refine' AllReadyH.cons (o := ?o111) (by simp only [List.getElem?_toArray, List.getElem?_cons_succ, List.getElem?_cons_zero]; rfl) (fun K hK => ?s111) ?m111
                    case m111 => exact AllReadyH.nil
                    refine step_append_L rfl (.tmp 68) (.tmp 71) 75 rfl rowIntI Tryz.underlying75 wi.heap.size _ (by first | rfl | simp [Act.eval]) _ (by first | rfl | simp [Act.eval]) (L) (HTK.out _ (by repeat first | exact Grow.rfl' _ | exact HGb.out | exact HGa.out | exact HQ2.out | apply Grow.drewd | apply Grow.allocd)) idOk (by first | (simp; done) | (simp; omega)) (by have := HLT.out; first | (simp; done) | (simp; unfold maxLen; omega) | (simp [maxLen]; done) | (simp [maxLen]; omega)) (by have := HLT.out; first | (simp; done) | (simp; omega)) ?_
                    intro v5 w5 k1 k2
                    have H5 := Lib.hid k1; have HK5 := Lib.hid k2; have HGa := Lib.hid (show Grow wi w5 from Grow.step (by repeat first | exact Grow.rfl' _ | exact HGb.out | exact HGa.out | exact HQ2.out | apply Grow.drewd | apply Grow.allocd) k2)
                    clear k1 k2
                    refine hK.out _ _ ?_ (fun hHeld => ?_)
                    · exact HS6.out _ (by repeat first | exact Grow.rfl' _ | exact HGb.out | exact HGa.out | exact HQ2.out | apply Grow.drewd | apply Grow.allocd)
                    clear hK K
                    try simp only [Act.put, List.setIfInBounds_toArray, List.set_cons_zero, List.set_cons_succ]
                    refine wpAnyH_ready (rs := [12]) (by kernel_rfl) (by simp) ?_
                    refine' AllReadyH.cons (o := ?o112) (by simp only [List.getElem?_toArray, List.getElem?_cons_succ, List.getElem?_cons_zero]; rfl) (fun K hK => ?s112) ?m112
                    case m112 => exact AllReadyH.nil
                    refine step_append_R rfl (.tmp 72) (.tmp 79) 75 rfl rowIntI Tryz.underlying75 wi.heap.size _ (L) (by first | rfl | simp [Act.eval]) H5.out (r.id) [Value.int .i64 r.id] rfl rfl (one1I _) _ (by first | rfl | simp [Act.eval]) (rdBI ((HK5.out.heapEq (by first | (simp; done) | (simp; omega))).trans (boxAt0 _ _ _))) (by have := HGa.out.size; simp; omega) (by have := HLT.out; first | (simp; done) | (simp; unfold maxLen; omega) | (simp [maxLen]; done) | (simp [maxLen]; omega)) (by have := HLT.out; first | (simp; done) | (simp; omega)) ?_
                    intro v6 w6 k1 k2 k3
                    have H6 := Lib.hid k1; have HGb := Lib.hid (show Grow wi w6 from Grow.since (by repeat first | exact Grow.rfl' _ | exact HGb.out | exact HGa.out | exact HQ2.out | apply Grow.drewd | apply Grow.allocd) k2 (Nat.le_refl _))
                    clear k1 k2 k3
                    refine hK.out _ _ ?_ (fun hHeld => ?_)
                    · exact HS6.out _ (by repeat first | exact Grow.rfl' _ | exact HGb.out | exact HGa.out | exact HQ2.out | apply Grow.drewd | apply Grow.allocd)
                    clear hK K
                    try simp only [Act.put, List.setIfInBounds_toArray, List.set_cons_zero, List.set_cons_succ]
                    refine wpAnyH_ready (rs := [16]) (by kernel_rfl) (by simp) ?_
                    refine' AllReadyH.cons (o := ?o113) (by simp only [List.getElem?_toArray, List.getElem?_cons_succ, List.getElem?_cons_zero]; rfl) (fun K hK => ?s113) ?m113
                    case m113 => exact AllReadyH.nil
                    refine step_append_M rfl (.tmp 80) (.tmp 83) 75 rfl rowIntI Tryz.underlying75 wi.heap.size _ (L ++ [r.id]) (by first | rfl | simp [Act.eval]) H6.out _ (by first | rfl | (simp [Act.eval]; done) | (simp [Act.eval]; intros; omega)) (([] : List Int)) (HDK.out _ HGb.out) idOk HGb.out.size (by have := HLT.out; first | (simp; done) | (simp; unfold maxLen; omega) | (simp [maxLen]; done) | (simp [maxLen]; omega)) (by have := HLT.out; first | (simp; done) | (simp; omega)) ?_
                    intro v7 w7 k1 k2 k3
                    have H7 := Lib.hid k1; have HG7 := Lib.hid (show Grow wi w7 from Grow.since HGb.out k2 (Nat.le_refl _))
                    clear k1 k2 k3
                    refine hK.out _ _ ?_ (fun hHeld => ?_)
                    · exact HS6.out _ HG7.out
                    clear hK K
                    try simp only [Act.put, List.setIfInBounds_toArray, List.set_cons_zero, List.set_cons_succ]
                    refine' wpAnyH_take (i := 17) (oi := ?o114) (v := _) (by simp only [List.getElem?_toArray, List.getElem?_cons_succ, List.getElem?_cons_zero]; rfl) (by kernel_rfl) (by kernel_rfl) (by kernel_rfl) (fun _ _ _ h => h) (Or.inl ⟨by rfl, ?y114⟩) (by assumption) ?r114
                    case y114 =>
                      intro wS hSw
                      try dsimp only at hSw
                      go_simp
                      all_goals with_reducible rfl
                    simp only [Act.put, List.setIfInBounds_toArray, List.set_cons_zero, List.set_cons_succ]
                    refine wpAnyH_done (by kernel_rfl) ?_ _
                    refine NoPanic.normal ?_
                    go_wp2
                    go_roundg (l.length - (i + 1))
                    case measure => omega
                    case rel => exact ⟨i + 1, putL L r.id, by omega, rfl, by go_num, HSET.out, by have := putL_len L r.id; have := HLN.out; omega, by rw [HPUT.out]; exact SlR.sub H7.out.toR (fun _ _ => trivial) (fun _ _ _ h => h), fun h => absurd h (by rw [HPUT.out]; simp), HG.out.step (HGI.out.step HG7.out)⟩
                  go_simp
                  refine hK.out _ _ ?_ (fun hHeld => ?_)
                  · exact HS6.out _ (by repeat first | exact Grow.rfl' _ | exact HGb.out | exact HGa.out | exact HQ2.out | apply Grow.drewd | apply Grow.allocd)
                  clear hK K
                  try simp only [Act.put, List.setIfInBounds_toArray, List.set_cons_zero, List.set_cons_succ]
                  refine wpAnyH_ready (rs := [4, 11]) (by kernel_rfl) (by simp) ?_
                  refine' AllReadyH.cons (o := ?o108) (by simp only [List.getElem?_toArray, List.getElem?_cons_succ, List.getElem?_cons_zero]; rfl) (fun K hK => ?s108) ?m108
                  rotate_left
                  · refine' AllReadyH.cons (o := ?o109) (by simp only [List.getElem?_toArray, List.getElem?_cons_succ, List.getElem?_cons_zero]; rfl) (fun K hK => ?s109) ?m109
                    case m109 => exact AllReadyH.nil
                    go_simp
                    refine hK.out _ _ ?_ (fun hHeld => ?_)
                    · exact HS6.out _ (by repeat first | exact Grow.rfl' _ | exact HGb.out | exact HGa.out | exact HQ2.out | apply Grow.drewd | apply Grow.allocd)
                    clear hK K
                    try simp only [Act.put, List.setIfInBounds_toArray, List.set_cons_zero, List.set_cons_succ]
                    refine wpAnyH_ready (rs := [4]) (by kernel_rfl) (by simp) ?_
                    refine' AllReadyH.cons (o := ?o104) (by simp only [List.getElem?_toArray, List.getElem?_cons_succ, List.getElem?_cons_zero]; rfl) (fun K hK => ?s104) ?m104
                    case m104 => exact AllReadyH.nil
                    refine step_append_L rfl (.tmp 68) (.tmp 71) 75 rfl rowIntI Tryz.underlying75 wi.heap.size _ (by first | rfl | simp [Act.eval]) _ (by first | rfl | simp [Act.eval]) (L) (HTK.out _ (by repeat first | exact Grow.rfl' _ | exact HGb.out | exact HGa.out | exact HQ2.out | apply Grow.drewd | apply Grow.allocd)) idOk (by first | (simp; done) | (simp; omega)) (by have := HLT.out; first | (simp; done) | (simp; unfold maxLen; omega) | (simp [maxLen]; done) | (simp [maxLen]; omega)) (by have := HLT.out; first | (simp; done) | (simp; omega)) ?_
                    intro v5 w5 k1 k2
                    have H5 := Lib.hid k1; have HK5 := Lib.hid k2; have HGa := Lib.hid (show Grow wi w5 from Grow.step (by repeat first | exact Grow.rfl' _ | exact HGb.out | exact HGa.out | exact HQ2.out | apply Grow.drewd | apply Grow.allocd) k2)
                    clear k1 k2
                    refine hK.out _ _ ?_ (fun hHeld => ?_)
                    · exact HS6.out _ (by repeat first | exact Grow.rfl' _ | exact HGb.out | exact HGa.out | exact HQ2.out | apply Grow.drewd | apply Grow.allocd)
                    clear hK K
                    try simp only [Act.put, List.setIfInBounds_toArray, List.set_cons_zero, List.set_cons_succ]
                    refine wpAnyH_ready (rs := [12]) (by kernel_rfl) (by simp) ?_
                    refine' AllReadyH.cons (o := ?o105) (by simp only [List.getElem?_toArray, List.getElem?_cons_succ, List.getElem?_cons_zero]; rfl) (fun K hK => ?s105) ?m105
                    case m105 => exact AllReadyH.nil
                    refine step_append_R rfl (.tmp 72) (.tmp 79) 75 rfl rowIntI Tryz.underlying75 wi.heap.size _ (L) (by first | rfl | simp [Act.eval]) H5.out (r.id) [Value.int .i64 r.id] rfl rfl (one1I _) _ (by first | rfl | simp [Act.eval]) (rdBI ((HK5.out.heapEq (by first | (simp; done) | (simp; omega))).trans (boxAt1 _ _ _))) (by have := HGa.out.size; simp; omega) (by have := HLT.out; first | (simp; done) | (simp; unfold maxLen; omega) | (simp [maxLen]; done) | (simp [maxLen]; omega)) (by have := HLT.out; first | (simp; done) | (simp; omega)) ?_
                    intro v6 w6 k1 k2 k3
                    have H6 := Lib.hid k1; have HGb := Lib.hid (show Grow wi w6 from Grow.since (by repeat first | exact Grow.rfl' _ | exact HGb.out | exact HGa.out | exact HQ2.out | apply Grow.drewd | apply Grow.allocd) k2 (Nat.le_refl _))
                    clear k1 k2 k3
                    refine hK.out _ _ ?_ (fun hHeld => ?_)
                    · exact HS6.out _ (by repeat first | exact Grow.rfl' _ | exact HGb.out | exact HGa.out | exact HQ2.out | apply Grow.drewd | apply Grow.allocd)
                    clear hK K
                    try simp only [Act.put, List.setIfInBounds_toArray, List.set_cons_zero, List.set_cons_succ]
                    refine wpAnyH_ready (rs := [16]) (by kernel_rfl) (by simp) ?_
                    refine' AllReadyH.cons (o := ?o106) (by simp only [List.getElem?_toArray, List.getElem?_cons_succ, List.getElem?_cons_zero]; rfl) (fun K hK => ?s106) ?m106
                    case m106 => exact AllReadyH.nil
                    refine step_append_M rfl (.tmp 80) (.tmp 83) 75 rfl rowIntI Tryz.underlying75 wi.heap.size _ (L ++ [r.id]) (by first | rfl | simp [Act.eval]) H6.out _ (by first | rfl | (simp [Act.eval]; done) | (simp [Act.eval]; intros; omega)) (([] : List Int)) (HDK.out _ HGb.out) idOk HGb.out.size (by have := HLT.out; first | (simp; done) | (simp; unfold maxLen; omega) | (simp [maxLen]; done) | (simp [maxLen]; omega)) (by have := HLT.out; first | (simp; done) | (simp; omega)) ?_
                    intro v7 w7 k1 k2 k3
                    have H7 := Lib.hid k1; have HG7 := Lib.hid (show Grow wi w7 from Grow.since HGb.out k2 (Nat.le_refl _))
                    clear k1 k2 k3
                    refine hK.out _ _ ?_ (fun hHeld => ?_)
                    · exact HS6.out _ HG7.out
                    clear hK K
                    try simp only [Act.put, List.setIfInBounds_toArray, List.set_cons_zero, List.set_cons_succ]
                    refine' wpAnyH_take (i := 17) (oi := ?o107) (v := _) (by simp only [List.getElem?_toArray, List.getElem?_cons_succ, List.getElem?_cons_zero]; rfl) (by kernel_rfl) (by kernel_rfl) (by kernel_rfl) (fun _ _ _ h => h) (Or.inl ⟨by rfl, ?y107⟩) (by assumption) ?r107
                    case y107 =>
                      intro wS hSw
                      try dsimp only at hSw
                      go_simp
                      all_goals with_reducible rfl
                    simp only [Act.put, List.setIfInBounds_toArray, List.set_cons_zero, List.set_cons_succ]
                    refine wpAnyH_done (by kernel_rfl) ?_ _
                    refine NoPanic.normal ?_
                    go_wp2
                    go_roundg (l.length - (i + 1))
                    case measure => omega
                    case rel => exact ⟨i + 1, putL L r.id, by omega, rfl, by go_num, HSET.out, by have := putL_len L r.id; have := HLN.out; omega, by rw [HPUT.out]; exact SlR.sub H7.out.toR (fun _ _ => trivial) (fun _ _ _ h => h), fun h => absurd h (by rw [HPUT.out]; simp), HG.out.step (HGI.out.step HG7.out)⟩
                  refine step_append_L rfl (.tmp 68) (.tmp 71) 75 rfl rowIntI Tryz.underlying75 wi.heap.size _ (by first | rfl | simp [Act.eval]) _ (by first | rfl | simp [Act.eval]) (L) (HTK.out _ (by repeat first | exact Grow.rfl' _ | exact HGb.out | exact HGa.out | exact HQ2.out | apply Grow.drewd | apply Grow.allocd)) idOk (by first | (simp; done) | (simp; omega)) (by have := HLT.out; first | (simp; done) | (simp; unfold maxLen; omega) | (simp [maxLen]; done) | (simp [maxLen]; omega)) (by have := HLT.out; first | (simp; done) | (simp; omega)) ?_
                  intro v5 w5 k1 k2
                  have H5 := Lib.hid k1; have HK5 := Lib.hid k2; have HGa := Lib.hid (show Grow wi w5 from Grow.step (by repeat first | exact Grow.rfl' _ | exact HGb.out | exact HGa.out | exact HQ2.out | apply Grow.drewd | apply Grow.allocd) k2)
                  clear k1 k2
                  refine hK.out _ _ ?_ (fun hHeld => ?_)
                  · exact HS6.out _ (by repeat first | exact Grow.rfl' _ | exact HGb.out | exact HGa.out | exact HQ2.out | apply Grow.drewd | apply Grow.allocd)
                  clear hK K
                  try simp only [Act.put, List.setIfInBounds_toArray, List.set_cons_zero, List.set_cons_succ]
                  refine wpAnyH_ready (rs := [11]) (by kernel_rfl) (by simp) ?_
                  refine' AllReadyH.cons (o := ?o100) (by simp only [List.getElem?_toArray, List.getElem?_cons_succ, List.getElem?_cons_zero]; rfl) (fun K hK => ?s100) ?m100
                  case m100 => exact AllReadyH.nil
                  go_simp
                  refine hK.out _ _ ?_ (fun hHeld => ?_)
                  · exact HS6.out _ (by repeat first | exact Grow.rfl' _ | exact HGb.out | exact HGa.out | exact HQ2.out | apply Grow.drewd | apply Grow.allocd)
                  clear hK K
                  try simp only [Act.put, List.setIfInBounds_toArray, List.set_cons_zero, List.set_cons_succ]
                  refine wpAnyH_ready (rs := [12]) (by kernel_rfl) (by simp) ?_
                  refine' AllReadyH.cons (o := ?o101) (by simp only [List.getElem?_toArray, List.getElem?_cons_succ, List.getElem?_cons_zero]; rfl) (fun K hK => ?s101) ?m101
                  case m101 => exact AllReadyH.nil
                  refine step_append_R rfl (.tmp 72) (.tmp 79) 75 rfl rowIntI Tryz.underlying75 wi.heap.size _ (L) (by first | rfl | simp [Act.eval]) (H5.out.grow ((Grow.rfl' _).allocd _)) (r.id) [Value.int .i64 r.id] rfl rfl (one1I _) _ (by first | rfl | simp [Act.eval]) (rdK _ _ _ 1 rfl rfl) (by have := HGa.out.size; simp; omega) (by have := HLT.out; first | (simp; done) | (simp; unfold maxLen; omega) | (simp [maxLen]; done) | (simp [maxLen]; omega)) (by have := HLT.out; first | (simp; done) | (simp; omega)) ?_
                  intro v6 w6 k1 k2 k3
                  have H6 := Lib.hid k1; have HGb := Lib.hid (show Grow wi w6 from Grow.since (by repeat first | exact Grow.rfl' _ | exact HGb.out | exact HGa.out | exact HQ2.out | apply Grow.drewd | apply Grow.allocd) k2 (Nat.le_refl _))
                  clear k1 k2 k3
                  refine hK.out _ _ ?_ (fun hHeld => ?_)
                  · exact HS6.out _ (by repeat first | exact Grow.rfl' _ | exact HGb.out | exact HGa.out | exact HQ2.out | apply Grow.drewd | apply Grow.allocd)
                  clear hK K
                  try simp only [Act.put, List.setIfInBounds_toArray, List.set_cons_zero, List.set_cons_succ]
                  refine wpAnyH_ready (rs := [16]) (by kernel_rfl) (by simp) ?_
                  refine' AllReadyH.cons (o := ?o102) (by simp only [List.getElem?_toArray, List.getElem?_cons_succ, List.getElem?_cons_zero]; rfl) (fun K hK => ?s102) ?m102
                  case m102 => exact AllReadyH.nil
                  refine step_append_M rfl (.tmp 80) (.tmp 83) 75 rfl rowIntI Tryz.underlying75 wi.heap.size _ (L ++ [r.id]) (by first | rfl | simp [Act.eval]) H6.out _ (by first | rfl | (simp [Act.eval]; done) | (simp [Act.eval]; intros; omega)) (([] : List Int)) (HDK.out _ HGb.out) idOk HGb.out.size (by have := HLT.out; first | (simp; done) | (simp; unfold maxLen; omega) | (simp [maxLen]; done) | (simp [maxLen]; omega)) (by have := HLT.out; first | (simp; done) | (simp; omega)) ?_
                  intro v7 w7 k1 k2 k3
                  have H7 := Lib.hid k1; have HG7 := Lib.hid (show Grow wi w7 from Grow.since HGb.out k2 (Nat.le_refl _))
                  clear k1 k2 k3
                  refine hK.out _ _ ?_ (fun hHeld => ?_)
                  · exact HS6.out _ HG7.out
                  clear hK K
                  try simp only [Act.put, List.setIfInBounds_toArray, List.set_cons_zero, List.set_cons_succ]
                  refine' wpAnyH_take (i := 17) (oi := ?o103) (v := _) (by simp only [List.getElem?_toArray, List.getElem?_cons_succ, List.getElem?_cons_zero]; rfl) (by kernel_rfl) (by kernel_rfl) (by kernel_rfl) (fun _ _ _ h => h) (Or.inl ⟨by rfl, ?y103⟩) (by assumption) ?r103
                  case y103 =>
                    intro wS hSw
                    try dsimp only at hSw
                    go_simp
                    all_goals with_reducible rfl
                  simp only [Act.put, List.setIfInBounds_toArray, List.set_cons_zero, List.set_cons_succ]
                  refine wpAnyH_done (by kernel_rfl) ?_ _
                  refine NoPanic.normal ?_
                  go_wp2
                  go_roundg (l.length - (i + 1))
                  case measure => omega
                  case rel => exact ⟨i + 1, putL L r.id, by omega, rfl, by go_num, HSET.out, by have := putL_len L r.id; have := HLN.out; omega, by rw [HPUT.out]; exact SlR.sub H7.out.toR (fun _ _ => trivial) (fun _ _ _ h => h), fun h => absurd h (by rw [HPUT.out]; simp), HG.out.step (HGI.out.step HG7.out)⟩
    · have hkk : l.take i = l := List.take_of_length_le (by omega)
      rw [hkk] at HSETL
      clear hg
      go_wp2
      go_ret
      exact ⟨_, L, rfl, HSETL.out, HIDS.out, HG1.out.step HG0.out⟩
end Go.Hg
