/- hedgerowkeep.Longs, Texts, Rule, Cats of equal ones: true; hedgerowkeep.LargeRule, LargeCat, CopyCat; A law's row: nodes, edges, catalogs, opened; Arguments: rules, catalogs (the rules' Ids are numbers of 64 bits), spots; hedgerowkeep.CopyCat: the same in new memory. Conditions: those that each theorem names. -/
import Derived.WalkKit
import Derived.WalkSpells
import Derived.WalkLawsBesides
import Derived.Lib.Hide
import Derived.BigQuiet
import Derived.Deep.LoopGhost
import Derived.Test.YtanijffgogpmdaaGreatRows
import Derived.Lib.SliceRun
import Derived.WideMake
import Derived.Deep.RegionLaw
import Derived.Lib.Overlaps
import Derived.Deep.RegionHeld3
import Derived.Laws.ResultCell
import Derived.Laws.EntriesVeiled
import Derived.Maps.OwnOps
import Derived.Maps.OwnSet
import Derived.Carry
import Derived.Lib.SlKeysI
import Derived.Maps.RangeWalk
import Derived.Lib.SlMapFilter
import Derived.Deep.DeepCutAuto
import Derived.RowKit
import Derived.ReadAgain
import Derived.ChangeOld
import Derived.Deep.Slices
import Derived.OpenShut
import Derived.Test.YtanijffgogpmdaaGreatDirN
import Derived.Test.YtanijffgogpmdaaGreatDirP
import Derived.Test.YtanijffgogpmdaaGreatDirR
import Derived.Test.YtanijffgogpmdaaGreatDirT
import Derived.Test.YtanijffgogpmdaaGreatDirW
namespace Go.Hg
open Go.RowKit Go.Proofs

theorem ruleCells {w wr : World} {x : PRule} {r : List Value} {b o : Nat} (h : RRule x r) (hb : b < w.heap.size) (g : Grow w wr) (hc : ∀ (j : Nat) c, r[j]? = some c → w.cell? ⟨b, o + j, none⟩ = some c) :
    b < wr.heap.size ∧ wr.cell? ⟨b, o, none⟩ = some (.int .i64 x.id) ∧ wr.cell? ⟨b, o + 1, none⟩ = some (.int .i64 x.kind) ∧ wr.cell? ⟨b, o + 2, none⟩ = some (.string x.typ) ∧ wr.cell? ⟨b, o + 3, none⟩ = some (.string x.name) ∧ wr.cell? ⟨b, o + 4, none⟩ = some (.string x.from_) ∧ wr.cell? ⟨b, o + 5, none⟩ = some (.string x.to_) ∧ wr.cell? ⟨b, o + 6, none⟩ = some (.int .i64 x.n) ∧ wr.cell? ⟨b, o + 7, none⟩ = some (.int .i64 x.state) := by
  unfold RRule at h
  subst h
  have e : ∀ o', wr.cell? ⟨b, o', none⟩ = w.cell? ⟨b, o', none⟩ := fun o' => World.cell?_of_block (w := w) (g.heapEq hb)
  have hs := g.size
  refine ⟨by omega, ?_, ?_, ?_, ?_, ?_, ?_, ?_, ?_⟩ <;> rw [e]
  · exact hc 0 _ rfl
  · exact hc 1 _ rfl
  · exact hc 2 _ rfl
  · exact hc 3 _ rfl
  · exact hc 4 _ rfl
  · exact hc 5 _ rfl
  · exact hc 6 _ rfl
  · exact hc 7 _ rfl
theorem indexCells {w wr : World} {x : PIndex} {r : List Value} {b o : Nat} (h : RIndex x r) (hb : b < w.heap.size) (g : Grow w wr) (hc : ∀ (j : Nat) c, r[j]? = some c → w.cell? ⟨b, o + j, none⟩ = some c) :
    b < wr.heap.size ∧ wr.cell? ⟨b, o, none⟩ = some (.string x.typ) ∧ wr.cell? ⟨b, o + 1, none⟩ = some (.string x.name) := by
  unfold RIndex at h
  subst h
  have e : ∀ o', wr.cell? ⟨b, o', none⟩ = w.cell? ⟨b, o', none⟩ := fun o' => World.cell?_of_block (w := w) (g.heapEq hb)
  have hs := g.size
  refine ⟨by omega, ?_, ?_⟩ <;> rw [e]
  · exact hc 0 _ rfl
  · exact hc 1 _ rfl
theorem boxes2 (w : World) (nv ev rv iv nv' ev' rv' iv' : Value) (n n' : Int) (T : TypeId) : (∀ w', Grow ((w.alloc (.cells #[nv, ev, rv, iv, .int .i64 n] T)).alloc (.cells #[nv', ev', rv', iv', .int .i64 n'] T)) w' → w'.heap[w.heap.size]? = some (.cells #[nv, ev, rv, iv, .int .i64 n] T (0, 0))) ∧
    (∀ w', Grow ((w.alloc (.cells #[nv, ev, rv, iv, .int .i64 n] T)).alloc (.cells #[nv', ev', rv', iv', .int .i64 n'] T)) w' → w'.heap[w.heap.size + 1]? = some (.cells #[nv', ev', rv', iv', .int .i64 n'] T (0, 0))) := by
  refine ⟨fun w' hg => ?_, fun w' hg => ?_⟩
  · rw [hg.heapEq (by simp; omega), heap_alloc_old (o := _) (h := by simp)]
    exact heap_alloc_new w _
  · rw [hg.heapEq (by simp)]
    have := heap_alloc_new (w.alloc (.cells #[nv, ev, rv, iv, .int .i64 n] T)) (.cells #[nv', ev', rv', iv', .int .i64 n'] T)
    rw [World.size_alloc] at this
    exact this

end Go.Hg

namespace Go.Hg
open Go.RowKit Go.Proofs

set_option maxRecDepth 100000 in
set_option maxHeartbeats 4000000 in
theorem keepLargeCat (S : Nat → Prop) (nv ev rv iv : Value) (c : PCat) (w : World) (hc : CatR S w nv ev rv iv c) :
    Calls Tryz.prog 26 #[c.arg nv ev rv iv] w fun e w' => ∃ b, e = .returned (.bool b) ∧ (b = false → c.nodes.length ≤ 100 ∧ c.edges.length ≤ 100 ∧ c.rules.length ≤ 100 ∧ c.indexes.length ≤ 100) ∧ Grow w w' := by
  obtain ⟨na, nc, ea, ec, ra, rc, ia, ic, rfl, rfl, rfl, rfl⟩ := hc.slices
  obtain ⟨_, _, hv, hnl, hnc, hN⟩ := SlR.open hc.1
  simp only [Value.slice.injEq, true_and] at hv
  obtain ⟨rfl, rfl⟩ := hv
  obtain ⟨_, _, hv, hel, hec, hE⟩ := SlR.open hc.2.1
  simp only [Value.slice.injEq, true_and] at hv
  obtain ⟨rfl, rfl⟩ := hv
  obtain ⟨_, _, hv, hrl, hrc, hR⟩ := SlR.open hc.2.2.1
  simp only [Value.slice.injEq, true_and] at hv
  obtain ⟨rfl, rfl⟩ := hv
  obtain ⟨_, _, hv, hil, hic, hI⟩ := SlR.open hc.2.2.2
  simp only [Value.slice.injEq, true_and] at hv
  obtain ⟨rfl, rfl⟩ := hv
  unfold maxLen at hnc hec hrc hic
  have HN := Lib.hid hN; have HE := Lib.hid hE; have HR := Lib.hid hR; have HI := Lib.hid hI
  have HW := Lib.hid (show ∀ o1, Grow w (w.alloc o1) from fun o1 => (Grow.rfl' w).allocd o1)
  have HNB := Lib.hid (heap_alloc_new w (.cells #[.slice na c.nodes.length nc, .slice ea c.edges.length ec, .slice ra c.rules.length rc, .slice ia c.indexes.length ic, .int .i64 c.nextRule] 52))
  have HX := Lib.hid (show ∀ w', Grow (w.alloc (.cells #[.slice na c.nodes.length nc, .slice ea c.edges.length ec, .slice ra c.rules.length rc, .slice ia c.indexes.length ic, .int .i64 c.nextRule] 52)) w' → w.heap.size < w'.heap.size ∧ w'.cell? ⟨w.heap.size, 0, none⟩ = some (.slice na c.nodes.length nc) ∧ w'.cell? ⟨w.heap.size, 1, none⟩ = some (.slice ea c.edges.length ec) ∧ w'.cell? ⟨w.heap.size, 2, none⟩ = some (.slice ra c.rules.length rc) ∧ w'.cell? ⟨w.heap.size, 3, none⟩ = some (.slice ia c.indexes.length ic) from fun w' hg => by
    have hx := (hg.heapEq (by simp)).trans HNB.out
    exact ⟨blk_lt hx, by rw [blk_cell hx]; rfl, by rw [blk_cell hx]; rfl, by rw [blk_cell hx]; rfl, by rw [blk_cell hx]; rfl⟩)
  clear hc hN hE hR hI
  cases q0 : decide ((100 : Int) < (c.nodes.length : Int))
  rotate_left
  · go_enter Tryz.func26, Tryz.ntmps26
    go_wp2
    go_ret
    exact ⟨true, rfl, by simp, HW.out _⟩
  cases q1 : decide ((100 : Int) < (c.edges.length : Int))
  rotate_left
  · go_enter Tryz.func26, Tryz.ntmps26
    go_wp2
    go_ret
    exact ⟨true, rfl, by simp, HW.out _⟩
  cases q2 : decide ((100 : Int) < (c.rules.length : Int))
  rotate_left
  · go_enter Tryz.func26, Tryz.ntmps26
    go_wp2
    go_ret
    exact ⟨true, rfl, by simp, HW.out _⟩
  cases q3 : decide ((100 : Int) < (c.indexes.length : Int))
  rotate_left
  · go_enter Tryz.func26, Tryz.ntmps26
    go_wp2
    go_ret
    exact ⟨true, rfl, by simp, HW.out _⟩
  go_enter Tryz.func26, Tryz.ntmps26
  go_wp2
  have HQ := Lib.hid (show c.nodes.length ≤ 100 ∧ c.edges.length ≤ 100 ∧ c.rules.length ≤ 100 ∧ c.indexes.length ≤ 100 by
    have h0 := of_decide_eq_false q0; have h1 := of_decide_eq_false q1; have h2 := of_decide_eq_false q2; have h3 := of_decide_eq_false q3
    omega)
  clear q0 q1 q2 q3
  go_loopg [3] c.nodes.length (fun g i wz => ∃ k : Nat, k ≤ c.nodes.length ∧ g = c.nodes.length - k ∧ i = .int .i64 k ∧ Grow (w.alloc (.cells #[.slice na c.nodes.length nc, .slice ea c.edges.length ec, .slice ra c.rules.length rc, .slice ia c.indexes.length ic, .int .i64 c.nextRule] 52)) wz)
  case atStart => exact ⟨0, by omega, by omega, rfl, Grow.rfl' _⟩
  case round =>
    obtain ⟨k, hk, rfl, rfl, hgr⟩ := hrel
    have HGRa := Lib.hid hgr
    have hgw := (HW.out _).step hgr
    obtain ⟨hxl, x0, x1, x2, x3⟩ := HX.out _ hgr
    by_cases hkl : k < c.nodes.length
    · obtain ⟨ba, oa, r1, rfl, hSa, hba, hRa, hca⟩ := HN.out k c.nodes[k] (List.getElem?_eq_getElem hkl)
      have ha2 : ba < wr.heap.size := Nat.lt_of_lt_of_le hba hgw.size
      have hca0 := (hgw.cell (p := ⟨ba, oa + k * 1 + 0, none⟩) hba).trans (hca 0 (.string c.nodes[k]) (by rw [show r1 = [.string c.nodes[k]] from hRa]; rfl))
      rw [Nat.mul_one, Nat.add_zero] at hca0
      clear hca hRa hSa hba hgr hgw
      generalize c.nodes[k] = x at *
      cases q : decide ((1000 : Int) < (x.size : Int))
      · go_wp2_with fail
        go_roundg (c.nodes.length - (k + 1))
        case measure => omega
        case rel => exact ⟨k + 1, by omega, rfl, by go_num, HGRa.out⟩
      · go_wp2
        go_ret
        exact ⟨true, rfl, by simp, (HW.out _).step HGRa.out⟩
    · clear hgr hgw
      go_wp2
      clear hxl x0 x1 x2 x3
      go_loopg [4] c.edges.length (fun g i wz => ∃ k : Nat, k ≤ c.edges.length ∧ g = c.edges.length - k ∧ i = .int .i64 k ∧ Grow (w.alloc (.cells #[.slice na c.nodes.length nc, .slice ea c.edges.length ec, .slice ra c.rules.length rc, .slice ia c.indexes.length ic, .int .i64 c.nextRule] 52)) wz)
      case atStart => exact ⟨0, by omega, by omega, rfl, HGRa.out⟩
      case round =>
        obtain ⟨k, hk, rfl, rfl, hgr⟩ := hrel
        have HGRb := Lib.hid hgr
        have hgw := (HW.out _).step hgr
        obtain ⟨hxl, x0, x1, x2, x3⟩ := HX.out _ hgr
        by_cases hkl : k < c.edges.length
        · obtain ⟨ba, oa, r1, rfl, hSa, hba, hRa, hca⟩ := HE.out k c.edges[k] (List.getElem?_eq_getElem hkl)
          have ha2 : ba < wr.heap.size := Nat.lt_of_lt_of_le hba hgw.size
          have hca0 := (hgw.cell (p := ⟨ba, oa + k * 1 + 0, none⟩) hba).trans (hca 0 (.string c.edges[k]) (by rw [show r1 = [.string c.edges[k]] from hRa]; rfl))
          rw [Nat.mul_one, Nat.add_zero] at hca0
          clear hca hRa hSa hba hgr hgw
          generalize c.edges[k] = x at *
          cases q : decide ((1000 : Int) < (x.size : Int))
          · go_wp2_with fail
            go_roundg (c.edges.length - (k + 1))
            case measure => omega
            case rel => exact ⟨k + 1, by omega, rfl, by go_num, HGRb.out⟩
          · go_wp2
            go_ret
            exact ⟨true, rfl, by simp, (HW.out _).step HGRb.out⟩
        · clear hgr hgw
          go_wp2
          clear hxl x0 x1 x2 x3
          go_loopg [5] c.rules.length (fun g i wz => ∃ k : Nat, k ≤ c.rules.length ∧ g = c.rules.length - k ∧ i = .int .i64 k ∧ Grow (w.alloc (.cells #[.slice na c.nodes.length nc, .slice ea c.edges.length ec, .slice ra c.rules.length rc, .slice ia c.indexes.length ic, .int .i64 c.nextRule] 52)) wz)
          case atStart => exact ⟨0, by omega, by omega, rfl, HGRb.out⟩
          case round =>
            obtain ⟨k, hk, rfl, rfl, hgr⟩ := hrel
            have HGRc := Lib.hid hgr
            have hgw := (HW.out _).step hgr
            obtain ⟨hxl, x0, x1, x2, x3⟩ := HX.out _ hgr
            by_cases hkl : k < c.rules.length
            · obtain ⟨ba, oa, r1, rfl, hSa, hba, hRa, hca⟩ := HR.out k c.rules[k] (List.getElem?_eq_getElem hkl)
              obtain ⟨ha0, a0, a1, a2, a3, a4, a5, a6, a7⟩ := ruleCells hRa hba hgw hca
              clear hca hRa hSa hba hgr hgw
              generalize c.rules[k] = x at *
              go_wp2_with fail
              refine (keepLargeRule x _).mono ?_
              rintro e w4 ⟨b, rfl, hg4⟩
              have HG4 := Lib.hid (HGRc.out.step hg4)
              clear hg4
              cases b
              · go_wp2_with fail
                go_roundg (c.rules.length - (k + 1))
                case measure => omega
                case rel => exact ⟨k + 1, by omega, rfl, by go_num, HG4.out⟩
              · go_wp2
                go_ret
                exact ⟨true, rfl, by simp, (HW.out _).step HG4.out⟩
            · clear hgr hgw
              go_wp2
              clear hxl x0 x1 x2 x3
              go_loopg [6] c.indexes.length (fun g i wz => ∃ k : Nat, k ≤ c.indexes.length ∧ g = c.indexes.length - k ∧ i = .int .i64 k ∧ Grow (w.alloc (.cells #[.slice na c.nodes.length nc, .slice ea c.edges.length ec, .slice ra c.rules.length rc, .slice ia c.indexes.length ic, .int .i64 c.nextRule] 52)) wz)
              case atStart => exact ⟨0, by omega, by omega, rfl, HGRc.out⟩
              case round =>
                obtain ⟨k, hk, rfl, rfl, hgr⟩ := hrel
                have HGRd := Lib.hid hgr
                have hgw := (HW.out _).step hgr
                obtain ⟨hxl, x0, x1, x2, x3⟩ := HX.out _ hgr
                by_cases hkl : k < c.indexes.length
                · obtain ⟨ba, oa, r1, rfl, hSa, hba, hRa, hca⟩ := HI.out k c.indexes[k] (List.getElem?_eq_getElem hkl)
                  obtain ⟨ha0, a0, a1⟩ := indexCells hRa hba hgw hca
                  clear hca hRa hSa hba hgr hgw
                  generalize c.indexes[k] = x at *
                  cases q1 : decide ((1000 : Int) < (x.typ.size : Int))
                  · cases q2 : decide ((1000 : Int) < (x.name.size : Int))
                    · go_wp2_with fail
                      go_roundg (c.indexes.length - (k + 1))
                      case measure => omega
                      case rel => exact ⟨k + 1, by omega, rfl, by go_num, HGRd.out⟩
                    · go_wp2
                      go_ret
                      exact ⟨true, rfl, by simp, (HW.out _).step HGRd.out⟩
                  · go_wp2
                    go_ret
                    exact ⟨true, rfl, by simp, (HW.out _).step HGRd.out⟩
                · clear hgr hgw
                  go_wp2
                  go_ret
                  exact ⟨false, rfl, fun _ => HQ.out, (HW.out _).step HGRd.out⟩

theorem SlR.rows {α : Type} {S : Nat → Prop} {w : World} {sz : Nat} {R : α → List Value → Prop} {v : Value} {l : List α} (h : SlR S w sz R v l) (hz : ∀ x r, R x r → r.length = sz) (h1 : ∀ x r, R x r → ∀ u ∈ r, u.oneCell' = true) :
    ∃ rows : List (List Value), rows.length = l.length ∧ (∀ (k : Nat) x r, l[k]? = some x → rows[k]? = some r → R x r ∧ r.length = sz) ∧ (∀ u ∈ rows.flatten, u.oneCell' = true) ∧ ∀ w', Grow w w' → Rd w' sz v l.length rows.flatten := by
  obtain ⟨a, cap, rows, rfl, hl, hc, hr, hR, h⟩ := h
  have hRR : ∀ (k : Nat) x r, l[k]? = some x → rows[k]? = some r → R x r ∧ r.length = sz := fun k x r hx hk => ⟨hR k x r hx hk, hz _ _ (hR k x r hx hk)⟩
  have hrz : ∀ r ∈ rows, r.length = sz := fun r hr' => by
    obtain ⟨k, hk⟩ := List.getElem?_of_mem hr'
    have hkl : k < l.length := by have := (List.getElem?_eq_some_iff.1 hk).1; omega
    exact (hRR k _ r (List.getElem?_eq_getElem hkl) hk).2
  refine ⟨rows, hr, hRR, fun u hu => ?_, fun w' hg => ⟨by rw [flatten_len _ sz hrz, hr], a, cap, rfl, ?_⟩⟩
  · obtain ⟨r, hr', hur⟩ := List.mem_flatten.1 hu
    obtain ⟨k, hk⟩ := List.getElem?_of_mem hr'
    have hkl : k < l.length := by have := (List.getElem?_eq_some_iff.1 hk).1; omega
    exact h1 _ _ (hR k _ r (List.getElem?_eq_getElem hkl) hk) u hur
  · by_cases h0 : l.length = 0
    · exact .inl h0
    · obtain ⟨b, off, rfl, -, hb, hcell⟩ := h (by omega)
      refine .inr ⟨_, rfl, fun j u hu => ?_⟩
      have hsz : 0 < sz := by
        rcases Nat.eq_zero_or_pos sz with hz0 | hz0
        · subst hz0
          have : rows.flatten.length = 0 := by rw [flatten_len _ 0 hrz]; omega
          have := (List.getElem?_eq_some_iff.1 hu).1
          omega
        · exact hz0
      have hjl : j < rows.length * sz := by have := (List.getElem?_eq_some_iff.1 hu).1; rwa [flatten_len _ sz hrz] at this
      have hk : j / sz < rows.length := Nat.div_lt_of_lt_mul (by rw [Nat.mul_comm]; exact hjl)
      have hm : j % sz < sz := Nat.mod_lt _ hsz
      have hrow : rows[j / sz]? = some rows[j / sz] := List.getElem?_eq_getElem hk
      have hlen := hrz _ (List.getElem_mem hk)
      have hel : rows[j / sz][j % sz]? = some (rows[j / sz][j % sz]'(by omega)) := List.getElem?_eq_getElem _
      have hf := flatten_at rows sz (j / sz) (j % sz) _ _ hrz hrow hel
      have hdm : j / sz * sz + j % sz = j := by rw [Nat.mul_comm]; exact Nat.div_add_mod j sz
      rw [hdm, hu] at hf
      have hc' := hcell (j / sz) _ (j % sz) _ hrow hel
      rw [Addr.add_lit, hg.cell (p := ⟨b, off + j, none⟩) hb, ← hdm, ← Nat.add_assoc, hc']
      exact hf.symm
theorem rows_own {α : Type} {w : World} {E : TypeId} {sz : Nat} {R : α → List Value → Prop} {v : Value} {l : List α} {rows : List (List Value)} {ob : Option Nat} (h1 : rows.length = l.length) (h2 : ∀ (k : Nat) x r, l[k]? = some x → rows[k]? = some r → R x r ∧ r.length = sz)
    (h : OwnS w E sz v l.length rows.flatten ob) : OwnL w E sz R v l ob := ⟨rows, h1, h2, h⟩
theorem infoStr : (Tryz.prog.info? 9).map (fun i => (i.zero, i.size, i.bytes)) = some (some (.string ByteArray.empty), 1, 16) := by kernel_rfl
theorem infoRule : (Tryz.prog.info? 24).map (fun i => (i.zero, i.size, i.bytes)) = some (some (.agg #[.int .i64 0, .int .i64 0, .string ByteArray.empty, .string ByteArray.empty, .string ByteArray.empty, .string ByteArray.empty, .int .i64 0, .int .i64 0]), 8, 96) := by kernel_rfl
theorem infoIndex : (Tryz.prog.info? 134).map (fun i => (i.zero, i.size, i.bytes)) = some (some (.agg #[.string ByteArray.empty, .string ByteArray.empty]), 2, 32) := by kernel_rfl
theorem oneStr : ∀ x r, RStr x r → ∀ u ∈ r, u.oneCell' = true := by
  rintro x r rfl u hu
  simp only [List.mem_cons, List.not_mem_nil, or_false] at hu
  subst hu; rfl
theorem oneRule : ∀ x r, RRule x r → ∀ u ∈ r, u.oneCell' = true := by
  rintro x r rfl u hu
  simp only [List.mem_cons, List.not_mem_nil, or_false] at hu
  rcases hu with rfl | rfl | rfl | rfl | rfl | rfl | rfl | rfl <;> rfl
theorem oneIndex : ∀ x r, RIndex x r → ∀ u ∈ r, u.oneCell' = true := by
  rintro x r rfl u hu
  simp only [List.mem_cons, List.not_mem_nil, or_false] at hu
  rcases hu with rfl | rfl <;> rfl
end Go.Hg

namespace Go.Hg
open Go.RowKit Go.ChangeShapes Go.WideShapes Go.Deep Go.Proofs

theorem cellsStrS : Tryz.prog.cellsOf 48 = 1 := by kernel_rfl
theorem cellsRuleS : Tryz.prog.cellsOf 49 = 1 := by kernel_rfl
theorem cellsIndex : Tryz.prog.cellsOf 134 = 2 := by kernel_rfl
theorem cellsIndexS : Tryz.prog.cellsOf 50 = 1 := by kernel_rfl
theorem cellsCat : Tryz.prog.cellsOf 52 = 5 := by kernel_rfl
theorem list2 {α : Type} {l : List α} (h : l.length = 2) : ∃ a b, l = [a, b] := by
  match l, h with
  | [a, b], _ => exact ⟨a, b, rfl⟩
theorem list5 {α : Type} {l : List α} (h : l.length = 5) : ∃ a b c d e, l = [a, b, c, d, e] := by
  match l, h with
  | [a, b, c, d, e], _ => exact ⟨a, b, c, d, e, rfl⟩
section
variable {H : Type} {enc : TypeId × Value → H} {W : World} {base : Nat} {sp : Nat → Bool} {held : Bool}
theorem openListC {α : Type} {tS tE : TypeId} {sz : Nat} (R : α → List Value → Prop) (ht : Tryz.prog.underlying tS = some (.slice tE)) (hcz : Tryz.prog.cellsOf tE = sz) (hsz : 0 < sz)
    (open1 : ∀ (n : Nat) (cs : List Value) x, DataW.trod enc Tryz.prog W base sp held n tE cs = some x → ∃ o, R o cs) {n : Nat} {cs : List Value} {x : DataW H × List MemPlace} (h : DataW.trod enc Tryz.prog W base sp held n tS cs = some x) :
    ∃ v, ∃ l : List α, cs = [v] ∧ SlR (fun _ => True) W sz R v l := by
  rcases open_slice ht h with ⟨hc, -⟩ | ⟨a, len, cap, m, n, D, Pl, hc, -, hlc, hcm, hm, -, hel⟩
  · exact ⟨_, [], hc, (OwnL.nil W tE sz R).toSl (by simp)⟩
  · rw [hcz] at hel
    have hlm : len ≤ m := by rw [hm]; split <;> omega
    have key : ∀ i, i < len → ∃ (o : α) (r : List Value), R o r ∧ r.length = sz ∧ ∀ (j : Nat) c, r[j]? = some c → W.cell? ((a.add (i * sz)).add j) = some c := by
      intro i hi
      obtain ⟨cs', h1, h2⟩ := hel i (by omega)
      obtain ⟨o, ho⟩ := open1 _ _ _ h2
      exact ⟨o, cs', ho, (cells?_at h1).1, (cells?_at h1).2⟩
    obtain ⟨l, hl, hcells⟩ : ∃ l : List (α × List Value), l.length = len ∧ ∀ i p, l[i]? = some p → R p.1 p.2 ∧ p.2.length = sz ∧ ∀ (j : Nat) c, p.2[j]? = some c → W.cell? ((a.add (i * sz)).add j) = some c := by
      have build : ∀ n, n ≤ len → ∃ l : List (α × List Value), l.length = n ∧ ∀ i p, l[i]? = some p → R p.1 p.2 ∧ p.2.length = sz ∧ ∀ (j : Nat) c, p.2[j]? = some c → W.cell? ((a.add (i * sz)).add j) = some c := by
        intro n
        induction n with
        | zero => intro _; exact ⟨[], rfl, by simp⟩
        | succ n ih =>
          intro hn
          obtain ⟨l, hl, hc⟩ := ih (by omega)
          obtain ⟨o, r, ho⟩ := key n (by omega)
          refine ⟨l ++ [(o, r)], by simp [hl], fun i o' hi => ?_⟩
          by_cases hin : i < n
          · rw [List.getElem?_append_left (by omega)] at hi
            exact hc i o' hi
          · rw [List.getElem?_append_right (by omega), hl] at hi
            have e : i - n = 0 := by have := (List.getElem?_eq_some_iff.1 hi).1; simp at this; omega
            rw [e] at hi
            simp at hi
            subst hi
            obtain rfl : i = n := by omega
            exact ho
      exact build len (Nat.le_refl _)
    subst hl
    refine ⟨_, l.map (·.1), hc, some a, cap, l.map (·.2), by simp, by simpa using hlc, hcm, by simp, fun k x r hx hr => ?_, fun h0 => ?_⟩
    · rw [List.getElem?_map] at hx hr
      cases hk : l[k]? with
      | none => rw [hk] at hx; simp at hx
      | some p =>
        rw [hk] at hx hr
        simp only [Option.map_some, Option.some.injEq] at hx hr
        subst hx; subst hr
        exact (hcells k p hk).1
    · have h0' : 0 < l.length := by simpa using h0
      obtain ⟨-, hz, hc0⟩ := hcells 0 l[0] (List.getElem?_eq_getElem h0')
      have hc0 := hc0 0 _ (List.getElem?_eq_getElem (by omega))
      rw [Nat.zero_mul] at hc0
      have ha : a = ⟨a.block, a.off, none⟩ := by
        obtain ⟨b, o, s⟩ := a
        cases s with
        | none => rfl
        | some s =>
          exfalso
          simp only [Addr.add, if_pos] at hc0
          unfold World.cell? at hc0
          simp at hc0
          split at hc0 <;> cases hc0
      have hblt : a.block < W.heap.size := by
        have := World.block_lt_of_cell? W _ hc0
        simpa [Addr.add] using this
      refine ⟨a.block, a.off, by rw [← ha], trivial, hblt, fun k r j c hr hj => ?_⟩
      rw [List.getElem?_map] at hr
      obtain ⟨p, hp, rfl⟩ := Option.map_eq_some_iff.1 hr
      have := (hcells k p hp).2.2 j c hj
      rw [ha, Addr.add_lit, Addr.add_lit] at this
      exact this
theorem openStrs {n : Nat} {cs : List Value} {x : DataW H × List MemPlace} (h : DataW.trod enc Tryz.prog W base sp held n 48 cs = some x) : ∃ v, ∃ l : List ByteArray, cs = [v] ∧ StrsR (fun _ => True) W v l :=
  openListC RStr Tryz.underlying48 cellsStr (by decide) (fun _ _ _ h => by
    obtain ⟨s, e, -⟩ := DataW.trod_string Tryz.underlying9 h
    exact ⟨s, e⟩) h
theorem openIndex {n : Nat} {cs : List Value} {x : DataW H × List MemPlace} (h : DataW.trod enc Tryz.prog W base sp held n 134 cs = some x) : ∃ o : PIndex, RIndex o cs := by
  obtain ⟨xs, m, -, -, hl, hsz, hf⟩ := DataW.trod_struct Tryz.underlying134 h
  rw [cellsIndex] at hl
  obtain ⟨c0, c1, rfl⟩ := list2 hl
  obtain ⟨y0, h0⟩ := field_at hsz hf 0 rfl rfl cellsStr rfl
  obtain ⟨y1, h1⟩ := field_at hsz hf 1 rfl rfl cellsStr rfl
  obtain ⟨a0, e0, -⟩ := DataW.trod_string Tryz.underlying9 h0
  obtain ⟨a1, e1, -⟩ := DataW.trod_string Tryz.underlying9 h1
  simp at e0 e1
  exact ⟨⟨a0, a1⟩, by unfold RIndex; rw [e0, e1]⟩
theorem openIndexes {n : Nat} {cs : List Value} {x : DataW H × List MemPlace} (h : DataW.trod enc Tryz.prog W base sp held n 50 cs = some x) : ∃ v, ∃ l : List PIndex, cs = [v] ∧ IndexesR (fun _ => True) W v l :=
  openListC RIndex Tryz.underlying50 cellsIndex (by decide) (fun _ _ _ h => openIndex h) h
end
end Go.Hg

namespace Go.Hg
open Go.RowKit Go.ChangeShapes Go.WideShapes Go.Deep Go.Proofs
variable {H : Type} {enc : TypeId × Value → H} {W : World} {base : Nat} {sp : Nat → Bool} {held : Bool}

theorem slWf {S : Nat → Prop} {v : Value} {l : List PRule} (h : SlR S W 8 (fun r c => RRule r c ∧ WfId r) v l) : RulesR S W v l ∧ ∀ r ∈ l, WfId r := by
  refine ⟨SlR.sub h (fun _ h => h) (fun _ _ _ h => h.1), fun r hr => ?_⟩
  obtain ⟨_, _, _, _, _, hA⟩ := SlR.open h
  obtain ⟨k, hk, e⟩ := List.getElem_of_mem hr
  obtain ⟨_, _, _, _, _, _, hR, _⟩ := hA k r (by rw [List.getElem?_eq_getElem hk, e])
  exact hR.2
set_option maxRecDepth 100000 in
theorem openRulesW {n : Nat} {cs : List Value} {x : DataW H × List MemPlace} (h : DataW.trod enc Tryz.prog W base sp held n 49 cs = some x) : ∃ v, ∃ l : List PRule, cs = [v] ∧ RulesR (fun _ => True) W v l ∧ ∀ r ∈ l, WfId r := by
  obtain ⟨v, l, h1, h2⟩ := openListC (fun r c => RRule r c ∧ WfId r) Tryz.underlying49 cellsRule (by omega) (fun _ _ _ h => openRuleW h) h
  exact ⟨v, l, h1, slWf h2⟩
set_option maxRecDepth 100000 in
theorem openCatW {v : Value} {d : DataW H} {ps : List MemPlace} {r : Reach} {b0 : Nat} (hval : Value.okWide Tryz.prog W r b0 52 v) (h : DataW.Trod enc Tryz.prog W base sp held 52 v d ps) :
    ∃ (c : PCat) (nv ev rv iv : Value), v = c.arg nv ev rv iv ∧ CatR (fun _ => True) W nv ev rv iv c ∧ ∀ r ∈ c.rules, WfId r := by
  obtain ⟨cs, rfl, -⟩ := okWide_struct Tryz.underlying52 hval
  obtain ⟨n, hn⟩ := h
  obtain ⟨xs, m, -, -, hl, hsz, hf⟩ := DataW.trod_struct Tryz.underlying52 hn
  rw [cellsCat] at hl
  obtain ⟨c0, c1, c2, c3, c4, hcs⟩ := list5 hl
  have e : cs.toList = [c0, c1, c2, c3, c4] := hcs
  rw [hcs] at hf
  obtain ⟨y0, h0⟩ := field_at hsz hf 0 rfl rfl cellsStrS rfl
  obtain ⟨y1, h1⟩ := field_at hsz hf 1 rfl rfl cellsStrS rfl
  obtain ⟨y2, h2⟩ := field_at hsz hf 2 rfl rfl cellsRuleS rfl
  obtain ⟨y3, h3⟩ := field_at hsz hf 3 rfl rfl cellsIndexS rfl
  obtain ⟨y4, h4⟩ := field_at hsz hf 4 rfl rfl cellsI rfl
  obtain ⟨nv, ln, e0, hn⟩ := openStrs h0
  obtain ⟨ev, le, e1, he⟩ := openStrs h1
  obtain ⟨rv, lr, e2, hr, hwf⟩ := openRulesW h2
  obtain ⟨iv, li, e3, hi⟩ := openIndexes h3
  obtain ⟨i, e4, -⟩ := DataW.trod_int Tryz.underlying3 h4
  simp at e0 e1 e2 e3 e4
  refine ⟨⟨ln, le, lr, li, i⟩, nv, ev, rv, iv, ?_, ⟨hn, he, hr, hi⟩, hwf⟩
  have e5 : cs = #[c0, c1, c2, c3, c4] := by rw [← Array.toList_inj, e]
  rw [e5, e0, e1, e2, e3, e4]
end Go.Hg

namespace Go.Hg
open Go.RowKit Go.Proofs

set_option maxRecDepth 100000 in
set_option maxHeartbeats 4000000 in
theorem keepCopyCat (S : Nat → Prop) (nv ev rv iv : Value) (c : PCat) (w : World) (hc : CatR S w nv ev rv iv c) (hb : c.nodes.length ≤ 100 ∧ c.edges.length ≤ 100 ∧ c.rules.length ≤ 100 ∧ c.indexes.length ≤ 100) :
    Calls Tryz.prog 28 #[c.arg nv ev rv iv] w fun e w' => ∃ nv' ev' rv' iv', e = .returned (c.arg nv' ev' rv' iv') ∧ CatR (fun b => w.heap.size ≤ b) w' nv' ev' rv' iv' c ∧ Grow w w' := by
  obtain ⟨na, nc, ea, ec, ra, rc, ia, ic, rfl, rfl, rfl, rfl⟩ := hc.slices
  obtain ⟨iS, hiS, hzS0, hzS1, hzS2⟩ := info_parts infoStr
  obtain ⟨iR, hiR, hzR0, hzR1, hzR2⟩ := info_parts infoRule
  obtain ⟨iI, hiI, hzI0, hzI1, hzI2⟩ := info_parts infoIndex
  obtain ⟨rows0, hl0, hr0, ho0, hd0⟩ := SlR.rows (R := RStr) hc.1 (by rintro x r rfl; rfl) oneStr
  have HL0 := Lib.hid hl0; have HR0 := Lib.hid hr0; have HO0 := Lib.hid ho0; have HD0 := Lib.hid hd0
  clear hl0 hr0 ho0 hd0
  obtain ⟨rows1, hl1, hr1, ho1, hd1⟩ := SlR.rows (R := RStr) hc.2.1 (by rintro x r rfl; rfl) oneStr
  have HL1 := Lib.hid hl1; have HR1 := Lib.hid hr1; have HO1 := Lib.hid ho1; have HD1 := Lib.hid hd1
  clear hl1 hr1 ho1 hd1
  obtain ⟨rows2, hl2, hr2, ho2, hd2⟩ := SlR.rows (R := RRule) hc.2.2.1 (by rintro x r rfl; rfl) oneRule
  have HL2 := Lib.hid hl2; have HR2 := Lib.hid hr2; have HO2 := Lib.hid ho2; have HD2 := Lib.hid hd2
  clear hl2 hr2 ho2 hd2
  obtain ⟨rows3, hl3, hr3, ho3, hd3⟩ := SlR.rows (R := RIndex) hc.2.2.2 (by rintro x r rfl; rfl) oneIndex
  have HL3 := Lib.hid hl3; have HR3 := Lib.hid hr3; have HO3 := Lib.hid ho3; have HD3 := Lib.hid hd3
  clear hl3 hr3 ho3 hd3
  have HBD := Lib.hid hb
  have HW := Lib.hid (show ∀ o1 o2, Grow w ((w.alloc o1).alloc o2) from fun o1 o2 => ((Grow.rfl' w).allocd o1).allocd o2)
  have HBX := Lib.hid (boxes2 w (.slice na c.nodes.length nc) (.slice ea c.edges.length ec) (.slice ra c.rules.length rc) (.slice ia c.indexes.length ic) (.slice none 0 0) (.slice none 0 0) (.slice none 0 0) (.slice none 0 0) c.nextRule 0 52)
  clear hc hb
  go_enter Tryz.func28, Tryz.ntmps28

  have HLA0 := Lib.hid (show ∀ o1 o2, OwnS (((w.alloc o1).alloc o2).alloc (.cells #[] 9)) 9 1 (.slice (some ⟨w.heap.size + 1 + 1, 0, none⟩) 0 0) 0 [] (some (w.heap.size + 1 + 1)) from fun o1 o2 => by
    have := OwnS.lit ((w.alloc o1).alloc o2) #[] 9 1 0 (by unfold maxLen; omega) (by simp)
    simpa using this)
  have HGA0 := Lib.hid (show ∀ o1 o2 o3, Grow w (((w.alloc o1).alloc o2).alloc o3) from fun o1 o2 o3 => (HW.out o1 o2).allocd o3)
  go_wp2_with (at_builtin; go_must (refine wpList_append_S _ rfl (.tmp 3) (.tmp 5) 48 rfl 9 iS _ 1 16 Tryz.underlying48 hiS hzS0 hzS1 hzS2 rfl (by decide) (.slice (some ⟨w.heap.size + 1 + 1, 0, none⟩) 0 0) 0 [] (some (w.heap.size + 1 + 1)) rfl (HLA0.out _ _) (.slice na c.nodes.length nc) rfl c.nodes.length _ (HD0.out _ (HGA0.out _ _ _)) HO0.out (by have := HBD.out; unfold maxLen; omega) (by have := HBD.out; omega) ?_))
  intro v0 wb0 ob0 k1 k2 k3 _
  have hlo0 : ∀ g, ob0 = some g → w.heap.size + 2 ≤ g := fun g hg => by
    rcases k3 with k3 | ⟨g', k3, hge⟩
    · rw [k3] at hg; cases hg; omega
    · rw [k3] at hg; cases hg; first | omega | (simp at hge; omega)
  have HGW0 := Lib.hid (show Grow w wb0 from (HGA0.out _ _ _).modd k2 (fun b hb => by have hb' : _ = b := hb; omega))
  have HB0 := Lib.hid (show wb0.heap[w.heap.size]? = some (.cells #[.slice na c.nodes.length nc, .slice ea c.edges.length ec, .slice ra c.rules.length rc, .slice ia c.indexes.length ic, .int .i64 c.nextRule] 52 (0, 0)) from (k2.block _ (by simp <;> omega) (fun hb => by omega)).trans (HBX.out.1 _ ((Grow.rfl' _).allocd _)))
  have HZ0 := Lib.hid (show wb0.heap[w.heap.size + 1]? = some (.cells #[.slice none 0 0, .slice none 0 0, .slice none 0 0, .slice none 0 0, .int .i64 0] 52 (0, 0)) from (k2.block _ (by simp <;> omega) (fun hb => by omega)).trans (HBX.out.2 _ ((Grow.rfl' _).allocd _)))
  have HLO0 := Lib.hid (show w.heap.size + 2 ≤ wb0.heap.size by have := k2.size; simp at this; omega)
  have hO0 := rows_own HL0.out HR0.out k1
  have SR0 := Lib.hid (show SlR (fun b => w.heap.size + 2 ≤ b) wb0 1 RStr v0 c.nodes from hO0.toSl hlo0)
  obtain ⟨a0, c0, rfl⟩ : ∃ a cc, v0 = .slice a c.nodes.length cc := by obtain ⟨_, _, _, h⟩ := hO0; obtain ⟨oa, cap, h, _⟩ := h.isSlice; exact ⟨oa, cap, h⟩
  clear k1 k2 k3 hlo0 hO0
  have zl0 : w.heap.size < wb0.heap.size := blk_lt HB0.out
  have z0 : wb0.cell? ⟨w.heap.size, 0, none⟩ = some (.slice na c.nodes.length nc) := by rw [blk_cell HB0.out]; rfl
  have zf0 := blk_free HB0.out 0
  have y0 : wb0.cell? ⟨w.heap.size, 1, none⟩ = some (.slice ea c.edges.length ec) := by rw [blk_cell HB0.out]; rfl
  have HLA1 := Lib.hid (show ∀ u, OwnS ((wb0.setCell ⟨w.heap.size, 0, none⟩ u).alloc (.cells #[] 9)) 9 1 (.slice (some ⟨wb0.heap.size, 0, none⟩) 0 0) 0 [] (some wb0.heap.size) from fun u => by
    have := OwnS.lit (wb0.setCell ⟨w.heap.size, 0, none⟩ u) #[] 9 1 0 (by unfold maxLen; omega) (by simp)
    simpa using this)
  have HGA1 := Lib.hid (show ∀ u o3, Grow w ((wb0.setCell ⟨w.heap.size, 0, none⟩ u).alloc o3) from fun u o3 => (HGW0.out.setd (p := ⟨w.heap.size, 0, none⟩) (Nat.le_refl _) u).allocd o3)
  go_wp2_with (at_builtin; go_must (refine wpList_append_S _ rfl (.tmp 8) (.tmp 10) 48 rfl 9 iS _ 1 16 Tryz.underlying48 hiS hzS0 hzS1 hzS2 rfl (by decide) (.slice (some ⟨wb0.heap.size, 0, none⟩) 0 0) 0 [] (some (wb0.heap.size)) rfl (HLA1.out _) (.slice ea c.edges.length ec) rfl c.edges.length _ (HD1.out _ (HGA1.out _ _)) HO1.out (by have := HBD.out; unfold maxLen; omega) (by have := HBD.out; omega) ?_))
  intro v1 wb1 ob1 k1 k2 k3 _
  have hlo1 : ∀ g, ob1 = some g → w.heap.size + 2 ≤ g := fun g hg => by
    rcases k3 with k3 | ⟨g', k3, hge⟩
    · rw [k3] at hg; cases hg; exact HLO0.out
    · rw [k3] at hg; cases hg; have := HLO0.out; first | omega | (simp at hge; omega)
  have hm1 : ∀ u, Mod (fun b => b = w.heap.size) (wb0.setCell ⟨w.heap.size, 0, none⟩ u) ((wb0.setCell ⟨w.heap.size, 0, none⟩ u).alloc (.cells #[] 9)) := fun u => Mod.of_grow ((Grow.rfl' _).allocd _)
  have HM1 := Lib.hid (show Mod (fun b => b = w.heap.size) wb0 wb1 from (((Mod.rfl' (fun b => b = w.heap.size) wb0).setd (p := ⟨w.heap.size, 0, none⟩) (.inl rfl) _).allocd _).step' k2 (fun b hb => .inr (by have hb' : _ = b := hb; omega)))
  have HGW1 := Lib.hid (HGW0.out.modd HM1.out (fun b hb => by omega))
  have HLO1 := Lib.hid (show w.heap.size + 2 ≤ wb1.heap.size from Nat.le_trans HLO0.out HM1.out.size)
  have HB1 := Lib.hid (show wb1.heap[w.heap.size]? = some (.cells #[.slice a0 c.nodes.length c0, .slice ea c.edges.length ec, .slice ra c.rules.length rc, .slice ia c.indexes.length ic, .int .i64 c.nextRule] 52 (0, 0)) from (k2.block _ (by have := HLO0.out; simp <;> omega) (fun hb => by have := HLO0.out; omega)).trans (((Grow.rfl' (wb0.setCell ⟨w.heap.size, 0, none⟩ _)).allocd _ |>.heapEq (by have := HLO0.out; simp <;> omega)).trans ((heap_setCell_same wb0 w.heap.size 0 _ _ _ HB0.out).trans rfl)))
  have HZ1 := Lib.hid ((HM1.out.block (w.heap.size + 1) (by have := HLO0.out; omega) (by omega)).trans HZ0.out)
  clear hm1
  have SR0 := Lib.hid (SlR.modS SR0.out HM1.out (fun b hb e => by omega))
  have hO1 := rows_own HL1.out HR1.out k1
  have SR1 := Lib.hid (show SlR (fun b => w.heap.size + 2 ≤ b) wb1 1 RStr v1 c.edges from hO1.toSl hlo1)
  obtain ⟨a1, c1, rfl⟩ : ∃ a cc, v1 = .slice a c.edges.length cc := by obtain ⟨_, _, _, h⟩ := hO1; obtain ⟨oa, cap, h, _⟩ := h.isSlice; exact ⟨oa, cap, h⟩
  clear k1 k2 k3 hlo1 hO1
  have zl1 : w.heap.size < wb1.heap.size := blk_lt HB1.out
  have z1 : wb1.cell? ⟨w.heap.size, 1, none⟩ = some (.slice ea c.edges.length ec) := by rw [blk_cell HB1.out]; rfl
  have zf1 := blk_free HB1.out 1
  have y1 : wb1.cell? ⟨w.heap.size, 2, none⟩ = some (.slice ra c.rules.length rc) := by rw [blk_cell HB1.out]; rfl
  have HLA2 := Lib.hid (show ∀ u, OwnS ((wb1.setCell ⟨w.heap.size, 1, none⟩ u).alloc (.cells #[] 24)) 24 8 (.slice (some ⟨wb1.heap.size, 0, none⟩) 0 0) 0 [] (some wb1.heap.size) from fun u => by
    have := OwnS.lit (wb1.setCell ⟨w.heap.size, 1, none⟩ u) #[] 24 8 0 (by unfold maxLen; omega) (by simp)
    simpa using this)
  have HGA2 := Lib.hid (show ∀ u o3, Grow w ((wb1.setCell ⟨w.heap.size, 1, none⟩ u).alloc o3) from fun u o3 => (HGW1.out.setd (p := ⟨w.heap.size, 1, none⟩) (Nat.le_refl _) u).allocd o3)
  go_wp2_with (at_builtin; go_must (refine wpList_append_S _ rfl (.tmp 13) (.tmp 15) 49 rfl 24 iR _ 8 96 Tryz.underlying49 hiR hzR0 hzR1 hzR2 rfl (by decide) (.slice (some ⟨wb1.heap.size, 0, none⟩) 0 0) 0 [] (some (wb1.heap.size)) rfl (HLA2.out _) (.slice ra c.rules.length rc) rfl c.rules.length _ (HD2.out _ (HGA2.out _ _)) HO2.out (by have := HBD.out; unfold maxLen; omega) (by have := HBD.out; omega) ?_))
  intro v2 wb2 ob2 k1 k2 k3 _
  have hlo2 : ∀ g, ob2 = some g → w.heap.size + 2 ≤ g := fun g hg => by
    rcases k3 with k3 | ⟨g', k3, hge⟩
    · rw [k3] at hg; cases hg; exact HLO1.out
    · rw [k3] at hg; cases hg; have := HLO1.out; first | omega | (simp at hge; omega)
  have hm2 : ∀ u, Mod (fun b => b = w.heap.size) (wb1.setCell ⟨w.heap.size, 1, none⟩ u) ((wb1.setCell ⟨w.heap.size, 1, none⟩ u).alloc (.cells #[] 24)) := fun u => Mod.of_grow ((Grow.rfl' _).allocd _)
  have HM2 := Lib.hid (show Mod (fun b => b = w.heap.size) wb1 wb2 from (((Mod.rfl' (fun b => b = w.heap.size) wb1).setd (p := ⟨w.heap.size, 1, none⟩) (.inl rfl) _).allocd _).step' k2 (fun b hb => .inr (by have hb' : _ = b := hb; omega)))
  have HGW2 := Lib.hid (HGW1.out.modd HM2.out (fun b hb => by omega))
  have HLO2 := Lib.hid (show w.heap.size + 2 ≤ wb2.heap.size from Nat.le_trans HLO1.out HM2.out.size)
  have HB2 := Lib.hid (show wb2.heap[w.heap.size]? = some (.cells #[.slice a0 c.nodes.length c0, .slice a1 c.edges.length c1, .slice ra c.rules.length rc, .slice ia c.indexes.length ic, .int .i64 c.nextRule] 52 (0, 0)) from (k2.block _ (by have := HLO1.out; simp <;> omega) (fun hb => by have := HLO1.out; omega)).trans (((Grow.rfl' (wb1.setCell ⟨w.heap.size, 1, none⟩ _)).allocd _ |>.heapEq (by have := HLO1.out; simp <;> omega)).trans ((heap_setCell_same wb1 w.heap.size 1 _ _ _ HB1.out).trans rfl)))
  have HZ2 := Lib.hid ((HM2.out.block (w.heap.size + 1) (by have := HLO1.out; omega) (by omega)).trans HZ1.out)
  clear hm2
  have SR0 := Lib.hid (SlR.modS SR0.out HM2.out (fun b hb e => by omega))
  have SR1 := Lib.hid (SlR.modS SR1.out HM2.out (fun b hb e => by omega))
  have hO2 := rows_own HL2.out HR2.out k1
  have SR2 := Lib.hid (show SlR (fun b => w.heap.size + 2 ≤ b) wb2 8 RRule v2 c.rules from hO2.toSl hlo2)
  obtain ⟨a2, c2, rfl⟩ : ∃ a cc, v2 = .slice a c.rules.length cc := by obtain ⟨_, _, _, h⟩ := hO2; obtain ⟨oa, cap, h, _⟩ := h.isSlice; exact ⟨oa, cap, h⟩
  clear k1 k2 k3 hlo2 hO2
  have zl2 : w.heap.size < wb2.heap.size := blk_lt HB2.out
  have z2 : wb2.cell? ⟨w.heap.size, 2, none⟩ = some (.slice ra c.rules.length rc) := by rw [blk_cell HB2.out]; rfl
  have zf2 := blk_free HB2.out 2
  have y2 : wb2.cell? ⟨w.heap.size, 3, none⟩ = some (.slice ia c.indexes.length ic) := by rw [blk_cell HB2.out]; rfl
  have HLA3 := Lib.hid (show ∀ u, OwnS ((wb2.setCell ⟨w.heap.size, 2, none⟩ u).alloc (.cells #[] 134)) 134 2 (.slice (some ⟨wb2.heap.size, 0, none⟩) 0 0) 0 [] (some wb2.heap.size) from fun u => by
    have := OwnS.lit (wb2.setCell ⟨w.heap.size, 2, none⟩ u) #[] 134 2 0 (by unfold maxLen; omega) (by simp)
    simpa using this)
  have HGA3 := Lib.hid (show ∀ u o3, Grow w ((wb2.setCell ⟨w.heap.size, 2, none⟩ u).alloc o3) from fun u o3 => (HGW2.out.setd (p := ⟨w.heap.size, 2, none⟩) (Nat.le_refl _) u).allocd o3)
  go_wp2_with (at_builtin; go_must (refine wpList_append_S _ rfl (.tmp 18) (.tmp 20) 50 rfl 134 iI _ 2 32 Tryz.underlying50 hiI hzI0 hzI1 hzI2 rfl (by decide) (.slice (some ⟨wb2.heap.size, 0, none⟩) 0 0) 0 [] (some (wb2.heap.size)) rfl (HLA3.out _) (.slice ia c.indexes.length ic) rfl c.indexes.length _ (HD3.out _ (HGA3.out _ _)) HO3.out (by have := HBD.out; unfold maxLen; omega) (by have := HBD.out; omega) ?_))
  intro v3 wb3 ob3 k1 k2 k3 _
  have hlo3 : ∀ g, ob3 = some g → w.heap.size + 2 ≤ g := fun g hg => by
    rcases k3 with k3 | ⟨g', k3, hge⟩
    · rw [k3] at hg; cases hg; exact HLO2.out
    · rw [k3] at hg; cases hg; have := HLO2.out; first | omega | (simp at hge; omega)
  have hm3 : ∀ u, Mod (fun b => b = w.heap.size) (wb2.setCell ⟨w.heap.size, 2, none⟩ u) ((wb2.setCell ⟨w.heap.size, 2, none⟩ u).alloc (.cells #[] 134)) := fun u => Mod.of_grow ((Grow.rfl' _).allocd _)
  have HM3 := Lib.hid (show Mod (fun b => b = w.heap.size) wb2 wb3 from (((Mod.rfl' (fun b => b = w.heap.size) wb2).setd (p := ⟨w.heap.size, 2, none⟩) (.inl rfl) _).allocd _).step' k2 (fun b hb => .inr (by have hb' : _ = b := hb; omega)))
  have HGW3 := Lib.hid (HGW2.out.modd HM3.out (fun b hb => by omega))
  have HLO3 := Lib.hid (show w.heap.size + 2 ≤ wb3.heap.size from Nat.le_trans HLO2.out HM3.out.size)
  have HB3 := Lib.hid (show wb3.heap[w.heap.size]? = some (.cells #[.slice a0 c.nodes.length c0, .slice a1 c.edges.length c1, .slice a2 c.rules.length c2, .slice ia c.indexes.length ic, .int .i64 c.nextRule] 52 (0, 0)) from (k2.block _ (by have := HLO2.out; simp <;> omega) (fun hb => by have := HLO2.out; omega)).trans (((Grow.rfl' (wb2.setCell ⟨w.heap.size, 2, none⟩ _)).allocd _ |>.heapEq (by have := HLO2.out; simp <;> omega)).trans ((heap_setCell_same wb2 w.heap.size 2 _ _ _ HB2.out).trans rfl)))
  have HZ3 := Lib.hid ((HM3.out.block (w.heap.size + 1) (by have := HLO2.out; omega) (by omega)).trans HZ2.out)
  clear hm3
  have SR0 := Lib.hid (SlR.modS SR0.out HM3.out (fun b hb e => by omega))
  have SR1 := Lib.hid (SlR.modS SR1.out HM3.out (fun b hb e => by omega))
  have SR2 := Lib.hid (SlR.modS SR2.out HM3.out (fun b hb e => by omega))
  have hO3 := rows_own HL3.out HR3.out k1
  have SR3 := Lib.hid (show SlR (fun b => w.heap.size + 2 ≤ b) wb3 2 RIndex v3 c.indexes from hO3.toSl hlo3)
  obtain ⟨a3, c3, rfl⟩ : ∃ a cc, v3 = .slice a c.indexes.length cc := by obtain ⟨_, _, _, h⟩ := hO3; obtain ⟨oa, cap, h, _⟩ := h.isSlice; exact ⟨oa, cap, h⟩
  clear k1 k2 k3 hlo3 hO3
  have zl3 : w.heap.size < wb3.heap.size := blk_lt HB3.out
  have z3 : wb3.cell? ⟨w.heap.size, 3, none⟩ = some (.slice ia c.indexes.length ic) := by rw [blk_cell HB3.out]; rfl
  have zf3 := blk_free HB3.out 3
  have e0 : wb3.cell? ⟨w.heap.size, 0, none⟩ = some (.slice a0 c.nodes.length c0) := by rw [blk_cell HB3.out]; rfl
  have e1 : wb3.cell? ⟨w.heap.size, 1, none⟩ = some (.slice a1 c.edges.length c1) := by rw [blk_cell HB3.out]; rfl
  have e2 : wb3.cell? ⟨w.heap.size, 2, none⟩ = some (.slice a2 c.rules.length c2) := by rw [blk_cell HB3.out]; rfl
  have e4 : wb3.cell? ⟨w.heap.size, 4, none⟩ = some (.int .i64 c.nextRule) := by rw [blk_cell HB3.out]; rfl
  have t0 : wb3.cell? ⟨w.heap.size + 1, 0, none⟩ = some (.slice none 0 0) := by rw [blk_cell HZ3.out]; rfl
  have tf0 := blk_free HZ3.out 0
  have t1 : wb3.cell? ⟨w.heap.size + 1, 1, none⟩ = some (.slice none 0 0) := by rw [blk_cell HZ3.out]; rfl
  have tf1 := blk_free HZ3.out 1
  have t2 : wb3.cell? ⟨w.heap.size + 1, 2, none⟩ = some (.slice none 0 0) := by rw [blk_cell HZ3.out]; rfl
  have tf2 := blk_free HZ3.out 2
  have t3 : wb3.cell? ⟨w.heap.size + 1, 3, none⟩ = some (.slice none 0 0) := by rw [blk_cell HZ3.out]; rfl
  have tf3 := blk_free HZ3.out 3
  have t4 : wb3.cell? ⟨w.heap.size + 1, 4, none⟩ = some (.int .i64 0) := by rw [blk_cell HZ3.out]; rfl
  have tf4 := blk_free HZ3.out 4
  have tl : w.heap.size + 1 < wb3.heap.size := blk_lt HZ3.out
  go_wp2
  have HF := Lib.hid (show Mod (fun b => b = w.heap.size ∨ b = w.heap.size + 1) wb3 _ from ((((((Mod.rfl' (fun b => b = w.heap.size ∨ b = w.heap.size + 1) wb3).setd (p := ⟨w.heap.size, 3, none⟩) (.inl (.inl rfl)) (.slice a3 c.indexes.length c3)).setd (p := ⟨w.heap.size + 1, 0, none⟩) (.inl (.inr rfl)) (.slice a0 c.nodes.length c0)).setd (p := ⟨w.heap.size + 1, 1, none⟩) (.inl (.inr rfl)) (.slice a1 c.edges.length c1)).setd (p := ⟨w.heap.size + 1, 2, none⟩) (.inl (.inr rfl)) (.slice a2 c.rules.length c2)).setd (p := ⟨w.heap.size + 1, 3, none⟩) (.inl (.inr rfl)) (.slice a3 c.indexes.length c3)).setd (p := ⟨w.heap.size + 1, 4, none⟩) (.inl (.inr rfl)) (.int .i64 c.nextRule))
  refine bodyPost_ret (v := c.arg (.slice a0 c.nodes.length c0) (.slice a1 c.edges.length c1) (.slice a2 c.rules.length c2) (.slice a3 c.indexes.length c3)) ?_ rfl ⟨_, _, _, _, rfl, ⟨?_, ?_, ?_, ?_⟩, HGW3.out.modd HF.out (fun b hb => by omega)⟩
  · rw [results_cell1 rfl]
    go_simp
  · exact SlR.sub (SlR.modS SR0.out HF.out (fun b hb e => by omega)) (fun b hb => by omega) (fun _ _ _ h => h)
  · exact SlR.sub (SlR.modS SR1.out HF.out (fun b hb e => by omega)) (fun b hb => by omega) (fun _ _ _ h => h)
  · exact SlR.sub (SlR.modS SR2.out HF.out (fun b hb e => by omega)) (fun b hb => by omega) (fun _ _ _ h => h)
  · exact SlR.sub (SlR.modS SR3.out HF.out (fun b hb e => by omega)) (fun b hb => by omega) (fun _ _ _ h => h)
end Go.Hg
