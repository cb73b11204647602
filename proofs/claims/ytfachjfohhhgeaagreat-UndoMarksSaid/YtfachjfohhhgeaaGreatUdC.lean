/- slices.Insert at []api.Prop, one value; val.Set: properties with one of them set; graph.at and its closures; slices.IndexFunc, ContainsFunc at edges; slices.Index, Contains at texts; schema.names, Has; hedgerowref14.list, Has; What changes do to a graph, in plain words: errors, Ids, what is there; graph.mayAddNode, mayDropNode, mayAddEdge, mayDropEdge. Conditions: those that each theorem names. -/
import Derived.WalkKit
import Derived.WalkSpells
import Derived.WalkLawsBesides
import Derived.Lib.Hide
import Derived.BigQuiet
import Derived.Deep.LoopGhost
import Derived.Test.YtfachjfohhhgeaaGreatRows
import Derived.Lib.SliceRun
import Derived.WideMake
import Derived.Deep.RegionLaw
import Derived.Lib.Overlaps
import Derived.Test.YtfachjfohhhgeaaGreatUdB
namespace Go.Hg
open Go.RowKit Go.Proofs

theorem sizeProp (w : World) : (Go.sizeOf 105).run Tryz.prog w = .ok 4 w := by kernel_rfl

theorem ins_take {α : Type} (cur xs xc : List α) (i n cap : Nat) (h1 : cur.length = cap * 4) (h2 : cur.take (n * 4) = xs) (h3 : i < n) (h4 : n + 1 ≤ cap) (h5 : xc.length = 4) (cur1 cur2 : List α)
    (e1 : cur1 = cur.take ((i + 1) * 4) ++ xs.drop (i * 4) ++ cur.drop ((i + 1) * 4 + (xs.drop (i * 4)).length)) (e2 : cur2 = cur1.take (i * 4) ++ xc ++ cur1.drop (i * 4 + xc.length)) :
    cur1.length = cap * 4 ∧ cur2.length = cap * 4 ∧ cur2.take ((n + 1) * 4) = xs.take (i * 4) ++ xc ++ xs.drop (i * 4) := by
  have hxs : xs.length = n * 4 := by rw [← h2, List.length_take]; omega
  have hA : (cur.take ((i + 1) * 4)).length = (i + 1) * 4 := by rw [List.length_take]; omega
  have hB : (xs.drop (i * 4)).length = (n - i) * 4 := by rw [List.length_drop]; omega
  have l1 : cur1.length = cap * 4 := by
    rw [e1, List.length_append, List.length_append, hA, hB, List.length_drop, h1]; omega
  have t1 : cur1.take (i * 4) = xs.take (i * 4) := by
    rw [e1, List.append_assoc, List.take_append_of_le_length (by omega), List.take_take, ← h2, List.take_take]
    congr 1
    omega
  have d1 : cur1.drop (i * 4 + xc.length) = xs.drop (i * 4) ++ cur.drop ((i + 1) * 4 + (xs.drop (i * 4)).length) := by
    rw [e1, List.append_assoc, h5]
    have : i * 4 + 4 = (cur.take ((i + 1) * 4)).length := by omega
    rw [this, List.drop_left]
  have e3 : cur2 = (xs.take (i * 4) ++ xc ++ xs.drop (i * 4)) ++ cur.drop ((i + 1) * 4 + (xs.drop (i * 4)).length) := by
    rw [e2, t1, d1]; simp [List.append_assoc]
  have l3 : (xs.take (i * 4) ++ xc ++ xs.drop (i * 4)).length = (n + 1) * 4 := by
    rw [List.length_append, List.length_append, List.length_take, hB]; omega
  refine ⟨l1, ?_, ?_⟩
  · rw [e3, List.length_append, l3, List.length_drop, h1, hB]; omega
  · rw [e3, ← l3, List.take_left]

theorem ins_grow {α : Type} (cur0 xs xc : List α) (i n cap : Nat) (h1 : cur0.length = cap * 4) (h2 : cur0.take (i * 4) = xs.take (i * 4)) (hx : xs.length = n * 4) (h3 : i < n) (h4 : n + 1 ≤ cap) (h5 : xc.length = 4) (cur1 cur2 : List α)
    (e1 : cur1 = cur0.take (i * 4) ++ xc ++ cur0.drop (i * 4 + xc.length)) (e2 : cur2 = cur1.take ((i + 1) * 4) ++ xs.drop (i * 4) ++ cur1.drop ((i + 1) * 4 + (xs.drop (i * 4)).length)) :
    cur1.length = cap * 4 ∧ cur2.length = cap * 4 ∧ cur2.take ((n + 1) * 4) = xs.take (i * 4) ++ xc ++ xs.drop (i * 4) := by
  have hA : (cur0.take (i * 4)).length = i * 4 := by rw [List.length_take]; omega
  have hB : (xs.drop (i * 4)).length = (n - i) * 4 := by rw [List.length_drop]; omega
  have l1 : cur1.length = cap * 4 := by
    rw [e1, List.length_append, List.length_append, hA, h5, List.length_drop, h1]; omega
  have t1 : cur1.take ((i + 1) * 4) = xs.take (i * 4) ++ xc := by
    rw [e1, ← h2]
    have : (i + 1) * 4 = (cur0.take (i * 4) ++ xc).length := by rw [List.length_append, hA, h5]; omega
    rw [this, List.take_left]
  have l3 : (xs.take (i * 4) ++ xc ++ xs.drop (i * 4)).length = (n + 1) * 4 := by
    rw [List.length_append, List.length_append, List.length_take, hB]; omega
  rw [t1] at e2
  refine ⟨l1, ?_, ?_⟩
  · rw [e2, List.length_append, l3, List.length_drop, l1, hB]; omega
  · rw [e2, ← l3, List.take_left]

set_option maxRecDepth 100000 in
set_option maxHeartbeats 2000000 in
theorem insertProp (v : Value) (n : Nat) (xs xc : List Value) (ob : Option Nat) (vb i : Nat) (w : World) (hown : OwnS w 105 4 v n xs ob) (hn : n ≤ 1099511627776)
    (hvb : w.heap[vb]? = some (.cells xc.toArray 105 (0, 0))) (hxl : xc.length = 4) (hne : ob ≠ some vb) (hi : i ≤ n) (h1x : ∀ u ∈ xs, u.oneCell' = true) (h1c : ∀ u ∈ xc, u.oneCell' = true) :
    Calls Tryz.prog 138 #[v, .int .i64 i, .slice (some ⟨vb, 0, none⟩) 1 1] w fun e w' =>
      ∃ v' ob', e = .returned v' ∧ OwnS w' 105 4 v' (n + 1) (xs.take (i * 4) ++ xc ++ xs.drop (i * 4)) ob' ∧ Mod (fun k => ob = some k) w w' ∧ (ob' = ob ∨ ∃ g, ob' = some g ∧ w.heap.size ≤ g) := by
  obtain ⟨iP, hiP, hzP0, hzP1, hzP2⟩ := info_parts infoProp
  have hrd : Rd w 4 (.slice (some ⟨vb, 0, none⟩) 1 1) 1 xc := ⟨by omega, _, _, rfl, .inr ⟨_, rfl, fun j u hu => by
    have hadd : (⟨vb, 0, none⟩ : Addr).add j = ⟨vb, j, none⟩ := by unfold Addr.add; split <;> simp_all
    rw [hadd, blk_cell hvb]; simpa using hu⟩⟩
  have HN := Lib.hid hn; have HOWN := Lib.hid hown; have HRD := Lib.hid hrd; have HVB := Lib.hid hvb; have HXL := Lib.hid hxl; have H1X := Lib.hid h1x; have H1C := Lib.hid h1c; have HNE := Lib.hid hne
  have hxsl := hown.1
  have HXS := Lib.hid hxsl
  obtain ⟨oa, cap, rfl, hcap, hcm⟩ := hown.isSlice
  unfold maxLen at hcm
  clear hn hown hrd hvb hxl h1x h1c hne hxsl
  by_cases hin : i = n
  · subst hin
    by_cases hce : cap = i
    all_goals
      go_enter Tryz.func138, Tryz.ntmps138
      go_wp2_with (at_builtin; go_must (refine wpList_append_S _ rfl (.tmp 23) (.tmp 24) 87 rfl 105 iP _ 4 48 Tryz.underlying87 hiP hzP0 hzP1 hzP2 rfl (by decide) (.slice oa i _) i xs ob rfl HOWN.out (.slice (some ⟨vb, 0, none⟩) 1 1) rfl 1 xc HRD.out H1C.out (by have := HN.out; unfold maxLen; omega) (by have := HN.out; omega) ?_))
      intro v' w' ob' h1 h2 h3
      have H1 := Lib.hid h1; have H2 := Lib.hid h2; have H3 := Lib.hid h3; clear h1 h2 h3
      go_wp2_with fail
      go_ret
      refine ⟨v', ob', rfl, ?_, H2.out, H3.out⟩
      have h4 := HXS.out
      rw [List.take_of_length_le (by omega), List.drop_of_length_le (by omega), List.append_nil]
      exact H1.out
  · have hlt : i < n := by omega
    obtain ⟨g, cap', cur, hv, hob, hblk, h1, h2, hcs, htake⟩ : ∃ g cap' cur, Value.slice oa n cap = .slice (some ⟨g, 0, none⟩) n cap' ∧ ob = some g ∧ w.heap[g]? = some (.cells cur 105 (0, 0)) ∧ n ≤ cap' ∧ cap' ≤ maxLen ∧ cur.size = cap' * 4 ∧ cur.toList.take (n * 4) = xs := by
      rcases HOWN.out.2 with ⟨_, _, h, _⟩ | h
      · omega
      · exact h
    simp only [Value.slice.injEq, true_and] at hv
    obtain ⟨rfl, rfl⟩ := hv
    subst hob
    have HBLK := Lib.hid hblk; have HCS := Lib.hid hcs; have HTK := Lib.hid htake
    clear hblk hcs htake h1 h2
    have hnb : n ≤ 2 ^ 62 := by have := HN.out; omega
    have hTP : Tryz.prog.underlying 87 = some (.slice 105) := Tryz.underlying87
    by_cases hroom : n + 1 ≤ cap
    · have hbv : vb < w.heap.size := blk_lt HVB.out
      have hgv : vb ≠ g := fun e => HNE.out (by rw [e])
      have hov : ∀ lb cb, (callFunc 159 #[.slice (some ⟨vb, 0, none⟩) 1 1, .slice (some ⟨g, (i + 1) * 4, none⟩) lb cb]).run Tryz.prog w = .ok (.value (.bool false)) w := fun lb cb => by
        rw [run_callFunc_extern Tryz.func159 (by kernel_rfl) (by kernel_rfl) (by kernel_rfl) (e := Extern.SlicesOverlaps.overlaps #[87, 87] #[4]) (by kernel_rfl),
          Lib.run_overlaps_apart w 87 4 105 hTP 4 sizeProp ⟨vb, 0, none⟩ ⟨g, (i + 1) * 4, none⟩ 1 1 lb cb hgv 105 105 4 cur.size (by simp [World.shape?, HVB.out, HXL.out]) (by simp [World.shape?, HBLK.out]) (by have := HCS.out; omega) (blk_free HVB.out 0) (blk_free HVB.out 4)]
        rfl
      have hxl4 : (xs.drop (i * 4)).length = (n - i) * 4 := by rw [List.length_drop, HXS.out]; omega
      have hcp1 : ∀ ty dc sc, (Builtin.copy_ #[87, 87] ty #[.slice (some ⟨g, (i + 1) * 4, none⟩) (n - i) dc, .slice (some ⟨g, i * 4, none⟩) (n + 1 - i) sc]).run Tryz.prog w.drew = .ok (goInt ((n - i : Nat) : Int)) (w.drew.setRow g (cur.toList.take ((i + 1) * 4) ++ xs.drop (i * 4) ++ cur.toList.drop ((i + 1) * 4 + (xs.drop (i * 4)).length)).toArray) := fun ty dc sc =>
        run_copy_row w.drew 87 87 ty 105 iP hTP hiP g ((i + 1) * 4) cur 105 HBLK.out (n - i) dc (some ⟨g, i * 4, none⟩) (n + 1 - i) sc (n - i) (by simp only [Nat.min_def]; split <;> omega) (xs.drop (i * 4)) (by rw [hzP1]; exact hxl4)
          (.inr ⟨_, rfl, fun j u hu => by
            rw [Addr.add_lit]
            show w.cell? _ = _
            rw [blk_cell HBLK.out, ← Array.getElem?_toList]
            rw [← HTK.out, List.getElem?_drop, List.getElem?_take] at hu
            split at hu
            · exact hu
            · cases hu⟩) (by rw [hxl4, HCS.out]; omega) (fun u hu => H1X.out u (List.mem_of_mem_drop hu))
      obtain ⟨cur1, hcur1⟩ : ∃ c, c = cur.toList.take ((i + 1) * 4) ++ xs.drop (i * 4) ++ cur.toList.drop ((i + 1) * 4 + (xs.drop (i * 4)).length) := ⟨_, rfl⟩
      obtain ⟨cur2, hcur2⟩ : ∃ c, c = cur1.take (i * 4) ++ xc ++ cur1.drop (i * 4 + xc.length) := ⟨_, rfl⟩
      rw [← hcur1] at hcp1
      obtain ⟨hl1, hl2, htk2⟩ := ins_take cur.toList xs xc i n cap (by simpa using HCS.out) HTK.out hlt hroom HXL.out cur1 cur2 hcur1 hcur2
      have hb1 : (w.drew.setRow g cur1.toArray).heap[g]? = some (.cells cur1.toArray 105 (0, 0)) := setRow_heap w.drew g cur _ 105 (0, 0) HBLK.out
      have hb2 : ((w.drew.setRow g cur1.toArray).setRow g cur2.toArray).heap[g]? = some (.cells cur2.toArray 105 (0, 0)) := setRow_heap _ g _ _ 105 (0, 0) hb1
      have hvb1 : (w.drew.setRow g cur1.toArray).heap[vb]? = some (.cells xc.toArray 105 (0, 0)) := by rw [setRow_other _ _ _ _ hgv]; exact HVB.out
      have hcp2 : ∀ ty dc, (Builtin.copy_ #[87, 87] ty #[.slice (some ⟨g, i * 4, none⟩) (n + 1 - i) dc, .slice (some ⟨vb, 0, none⟩) 1 1]).run Tryz.prog (w.drew.setRow g cur1.toArray) = .ok (goInt ((1 : Nat) : Int)) ((w.drew.setRow g cur1.toArray).setRow g cur2.toArray) := fun ty dc => by
        have h := run_copy_row (P := Tryz.prog) (w.drew.setRow g cur1.toArray) 87 87 ty 105 iP hTP hiP g (i * 4) cur1.toArray 105 hb1 (n + 1 - i) dc (some ⟨vb, 0, none⟩) 1 1 1 (by simp only [Nat.min_def]; split <;> omega) xc (by rw [hzP1, HXL.out])
          (.inr ⟨_, rfl, fun j u hu => by rw [Addr.add_lit, blk_cell hvb1]; simpa using hu⟩) (by rw [HXL.out]; simp [hl1]; omega) H1C.out
        rw [hcur2]; simpa using h
      have hfin : OwnS ((w.drew.setRow g cur1.toArray).setRow g cur2.toArray) 105 4 (.slice (some ⟨g, 0, none⟩) (n + 1) cap) (n + 1) (xs.take (i * 4) ++ xc ++ xs.drop (i * 4)) (some g) :=
        ⟨by rw [← htk2, List.length_take, hl2]; omega, .inr ⟨g, cap, cur2.toArray, rfl, rfl, hb2, hroom, hcm, by simpa using hl2, htk2⟩⟩
      have hmod : Mod (fun k => some g = some k) w ((w.drew.setRow g cur1.toArray).setRow g cur2.toArray) :=
        ⟨rfl, rfl, rfl, by simp, fun k _ hk => by rw [setRow_other _ _ _ _ (fun e => hk (by rw [e])), setRow_other _ _ _ _ (fun e => hk (by rw [e]))]; rfl⟩
      have HFIN := Lib.hid hfin; have HMOD := Lib.hid hmod
      clear hfin hmod hb1 hb2 hvb1 hl1 hl2 htk2 hcur1 hcur2 hxl4
      have hcge : ¬ cap = i := by omega
      have hcge2 : ¬ cap = i + 1 := by omega
      have hw1 : IntKind.i64.wrap ((i : Int) + 1) = (i : Int) + 1 := by rw [IntKind.wrap_i64]; omega
      have hq1 : (0 : Int) ≤ (i : Int) + 1 := by omega
      have hq2 : (i : Int) + 1 ≤ (n : Int) + 1 := by omega
      have hq3 : ((i : Int) + 1).toNat = i + 1 := by omega
      have hq4 : (i : Int) ≤ (n : Int) + 1 := by omega
      go_enter Tryz.func138, Tryz.ntmps138
      go_wp2_with (simp only [hov])
      go_region_law (refine step_run rfl (exec_copy _ _ _ 87 87 rfl (by simp [Act.eval, Act.put]) (by simp [Act.eval, Act.put]) (fun ty => hcp1 ty _ _)) ?_)
      go_wp2_with (at_builtin; refine wpList_run _ rfl (exec_copy _ _ _ 87 87 rfl rfl rfl (fun ty => hcp2 ty _)) ?_)
      go_ret
      exact ⟨_, _, rfl, HFIN.out, HMOD.out, .inl rfl⟩
    · have hcn : cap = n := by omega
      subst hcn
      have hbv : vb < w.heap.size := blk_lt HVB.out
      have hbg : g < w.heap.size := blk_lt HBLK.out
      have hxt : (xs.take (i * 4)).length = i * 4 := by rw [List.length_take, HXS.out]; omega
      have hap0 := fun ty => run_append_zeros (P := Tryz.prog) w 87 3 ty 105 iP _ .i64 .i64 hTP Tryz.underlying3 hiP hzP0 ⟨g, 0, none⟩ i cap (cap + 1 - i) (xs.take (i * 4)) (by rw [hzP1]; exact hxt) (fun j u hu => by
          rw [Addr.add_lit, Nat.zero_add, blk_cell HBLK.out, ← Array.getElem?_toList]
          rw [← HTK.out, List.take_take, List.getElem?_take] at hu
          split at hu
          · exact hu
          · cases hu) (by omega) (by rw [hzP1]; omega) (by omega) (by omega) (by rw [hzP2]; have := HN.out; omega) (by rw [hzP2]; exact growslice_fits (by omega) (by have := HN.out; omega))
      rw [show i + (cap + 1 - i) = cap + 1 by omega, show (((cap + 1 - i : Nat) : Int)) = (cap : Int) + 1 - (i : Int) by omega] at hap0
      have hge := grownCap_ge w (cap + 1) cap 105
      have hgm := grownCap_le_maxLen w (cap + 1) cap 105 (by have := HN.out; unfold maxLen; omega)
      generalize grownCap w (cap + 1) cap 105 = gc at *
      obtain ⟨cur0, hcur0⟩ : ∃ c, c = (xs.take (i * 4)).toArray ++ Builtin.zeroCells (Value.agg #[.string ByteArray.empty, .int .i64 0, .int .i64 0, .string ByteArray.empty]).cells (cap + 1 - i) ++ Builtin.zeroCells (Value.agg #[.string ByteArray.empty, .int .i64 0, .int .i64 0, .string ByteArray.empty]).cells (gc - (cap + 1)) := ⟨_, rfl⟩
      rw [← hcur0] at hap0
      have hsz0 : cur0.toList.length = gc * 4 := by
        have : (Value.agg #[.string ByteArray.empty, .int .i64 0, .int .i64 0, .string ByteArray.empty]).cells.size = 4 := rfl
        rw [hcur0]
        simp only [Array.length_toList, Array.size_append, List.size_toArray, size_zeroCells, this, hxt]
        omega
      have htk0 : cur0.toList.take (i * 4) = xs.take (i * 4) := by
        rw [hcur0]
        simp only [Array.toList_append, List.append_assoc]
        have h := List.take_left (l₁ := xs.take (i * 4)) (l₂ := (Builtin.zeroCells (Value.agg #[.string ByteArray.empty, .int .i64 0, .int .i64 0, .string ByteArray.empty]).cells (cap + 1 - i)).toList ++ (Builtin.zeroCells (Value.agg #[.string ByteArray.empty, .int .i64 0, .int .i64 0, .string ByteArray.empty]).cells (gc - (cap + 1))).toList)
        rw [hxt] at h
        exact h
      clear hcur0
      obtain ⟨W1, hW1⟩ : ∃ W1, W1 = w.drew.alloc (.cells cur0 105) := ⟨_, rfl⟩
      rw [← hW1] at hap0
      have hg1 : Grow w W1 := by rw [hW1]; exact ((Grow.rfl' w).drewd).allocd _
      have hb0 : W1.heap[w.heap.size]? = some (.cells cur0 105 (0, 0)) := by rw [hW1]; exact heap_alloc_new w.drew _
      clear hW1
      obtain ⟨cur1, hcur1⟩ : ∃ c, c = cur0.toList.take (i * 4) ++ xc ++ cur0.toList.drop (i * 4 + xc.length) := ⟨_, rfl⟩
      obtain ⟨cur2, hcur2⟩ : ∃ c, c = cur1.take ((i + 1) * 4) ++ xs.drop (i * 4) ++ cur1.drop ((i + 1) * 4 + (xs.drop (i * 4)).length) := ⟨_, rfl⟩
      obtain ⟨hl1, hl2, htk2⟩ := ins_grow cur0.toList xs xc i cap gc hsz0 htk0 HXS.out hlt hge HXL.out cur1 cur2 hcur1 hcur2
      have hxl4 : (xs.drop (i * 4)).length = (cap - i) * 4 := by rw [List.length_drop, HXS.out]; omega
      have hcp1 : ∀ ty dc, (Builtin.copy_ #[87, 87] ty #[.slice (some ⟨w.heap.size, i * 4, none⟩) (cap + 1 - i) dc, .slice (some ⟨vb, 0, none⟩) 1 1]).run Tryz.prog W1 = .ok (goInt ((1 : Nat) : Int)) (W1.setRow w.heap.size cur1.toArray) := fun ty dc => by
        have h := run_copy_row (P := Tryz.prog) W1 87 87 ty 105 iP hTP hiP w.heap.size (i * 4) cur0 105 hb0 (cap + 1 - i) dc (some ⟨vb, 0, none⟩) 1 1 1 (by simp only [Nat.min_def]; split <;> omega) xc (by rw [hzP1, HXL.out])
          (.inr ⟨_, rfl, fun j u hu => by rw [Addr.add_lit, blk_cell ((hg1.heapEq hbv).trans HVB.out)]; simpa using hu⟩) (by rw [HXL.out, ← Array.length_toList, hsz0]; omega) H1C.out
        rw [hcur1]; exact h
      have hb1 : (W1.setRow w.heap.size cur1.toArray).heap[w.heap.size]? = some (.cells cur1.toArray 105 (0, 0)) := setRow_heap W1 w.heap.size cur0 _ 105 (0, 0) hb0
      have hgb1 : (W1.setRow w.heap.size cur1.toArray).heap[g]? = some (.cells cur 105 (0, 0)) := by rw [setRow_other _ _ _ _ (by omega)]; exact (hg1.heapEq hbg).trans HBLK.out
      have hcp2 : ∀ ty dc sc, (Builtin.copy_ #[87, 87] ty #[.slice (some ⟨w.heap.size, (i + 1) * 4, none⟩) (cap - i) dc, .slice (some ⟨g, i * 4, none⟩) (cap - i) sc]).run Tryz.prog (W1.setRow w.heap.size cur1.toArray).drew = .ok (goInt ((cap - i : Nat) : Int)) ((W1.setRow w.heap.size cur1.toArray).drew.setRow w.heap.size cur2.toArray) := fun ty dc sc => by
        have h := run_copy_row (P := Tryz.prog) (W1.setRow w.heap.size cur1.toArray).drew 87 87 ty 105 iP hTP hiP w.heap.size ((i + 1) * 4) cur1.toArray 105 hb1 (cap - i) dc (some ⟨g, i * 4, none⟩) (cap - i) sc (cap - i) (by simp) (xs.drop (i * 4)) (by rw [hzP1]; exact hxl4)
          (.inr ⟨_, rfl, fun j u hu => by
            rw [Addr.add_lit]
            show (W1.setRow w.heap.size cur1.toArray).cell? _ = _
            rw [blk_cell hgb1, ← Array.getElem?_toList]
            rw [← HTK.out, List.getElem?_drop, List.getElem?_take] at hu
            split at hu
            · exact hu
            · cases hu⟩) (by rw [hxl4]; simp [hl1]; omega) (fun u hu => H1X.out u (List.mem_of_mem_drop hu))
        rw [hcur2]; simpa using h
      obtain ⟨W2, hW2⟩ : ∃ W2, W2 = W1.setRow w.heap.size cur1.toArray := ⟨_, rfl⟩
      rw [← hW2] at hcp1 hcp2
      have hg2 : Grow w W2 := by
        rw [hW2]
        exact ⟨hg1.os, hg1.tape, hg1.output, by simpa using hg1.size, fun k hk => by rw [setRow_other _ _ _ _ (by omega)]; exact hg1.heapEq hk⟩
      have hb2 : (W2.drew.setRow w.heap.size cur2.toArray).heap[w.heap.size]? = some (.cells cur2.toArray 105 (0, 0)) := setRow_heap _ _ cur1.toArray _ 105 (0, 0) (by rw [hW2]; exact hb1)
      have hfin : OwnS (W2.drew.setRow w.heap.size cur2.toArray) 105 4 (.slice (some ⟨w.heap.size, 0, none⟩) (cap + 1) gc) (cap + 1) (xs.take (i * 4) ++ xc ++ xs.drop (i * 4)) (some w.heap.size) :=
        ⟨by rw [← htk2, List.length_take, hl2]; omega, .inr ⟨w.heap.size, gc, cur2.toArray, rfl, rfl, hb2, hge, hgm, by simpa using hl2, htk2⟩⟩
      have hmod : Mod (fun k => some g = some k) w (W2.drew.setRow w.heap.size cur2.toArray) :=
        ⟨hg2.os, hg2.tape, hg2.output, by simpa using hg2.size, fun k hk _ => by rw [setRow_other _ _ _ _ (by omega)]; exact hg2.heapEq hk⟩
      have HFIN := Lib.hid hfin; have HMOD := Lib.hid hmod
      clear hfin hmod hb0 hb1 hb2 hgb1 hl1 hl2 htk2 hcur1 hcur2 hxl4 hsz0 htk0 hg1 hg2 hW2 hxt
      have hw1 : IntKind.i64.wrap ((i : Int) + 1) = (i : Int) + 1 := by rw [IntKind.wrap_i64]; omega
      have hq1 : (0 : Int) ≤ (i : Int) + 1 := by omega
      have hq2 : (i : Int) + 1 ≤ (cap : Int) + 1 := by omega
      have hq3 : ((i : Int) + 1).toNat = i + 1 := by omega
      have hq4 : (i : Int) ≤ (cap : Int) := by omega
      have hr1 : ¬ gc = i := by omega
      have hr2 : ¬ gc = i + 1 := by omega
      have hr3 : ¬ cap = i := by omega
      unfold maxLen at hgm
      go_enter Tryz.func138, Tryz.ntmps138
      go_wp2_with (at_builtin; go_must (refine wpList_run _ rfl (exec_append _ (.tmp 34) (.tmp 39) 87 3 rfl rfl rfl hap0) ?_))
      go_wp2_with (at_builtin; go_must (refine wpList_run _ rfl (exec_copy _ (.tmp 43) (.tmp 44) 87 87 rfl rfl rfl (fun ty => hcp1 ty _)) ?_))
      go_region_law (refine step_run rfl (exec_copy _ (.tmp 50) (.tmp 53) 87 87 rfl (by simp [Act.eval, Act.put]) (by simp [Act.eval, Act.put]) (fun ty => hcp2 ty _ _)) ?_)
      go_wp2_with fail
      go_ret
      exact ⟨_, _, rfl, HFIN.out, HMOD.out, .inr ⟨_, rfl, Nat.le_refl _⟩⟩
end Go.Hg

namespace Go.Hg
open Go.RowKit Go.Proofs

theorem flat_snoc (o : List PProp) (p : PProp) : ((o ++ [p]).map PProp.cells).flatten = (o.map PProp.cells).flatten ++ p.cells := by simp
theorem flat_len (o : List PProp) : (o.map PProp.cells).flatten.length = o.length * 4 := by
  simp [List.length_flatten, Function.comp_def, List.map_const', List.sum_replicate_nat]
theorem flat_take (o : List PProp) (k : Nat) (hk : k ≤ o.length) : (o.map PProp.cells).flatten.take (k * 4) = ((o.take k).map PProp.cells).flatten ∧ (o.map PProp.cells).flatten.drop (k * 4) = ((o.drop k).map PProp.cells).flatten := by
  have e : (o.map PProp.cells).flatten = ((o.take k).map PProp.cells).flatten ++ ((o.drop k).map PProp.cells).flatten := by
    rw [← List.flatten_append, ← List.map_append, List.take_append_drop]
  have hl : ((o.take k).map PProp.cells).flatten.length = k * 4 := by rw [flat_len, List.length_take]; congr 1; omega
  rw [e, ← hl]
  exact ⟨List.take_left, List.drop_left⟩
abbrev PropsO (w : World) (v : Value) (ps : List PProp) (ob : Option Nat) : Prop := OwnS w 105 4 v ps.length (ps.map PProp.cells).flatten ob

set_option maxRecDepth 100000 in
set_option maxHeartbeats 2000000 in
theorem valSet (S : Nat → Prop) (v : Value) (l : List PProp) (name : ByteArray) (x : PVal) (w : World) (hl : PropsR S w v l) (hb : l.length ≤ 1073741824) :
    Calls Tryz.prog 118 #[v, .string name, .agg #[.int .i64 x.kind, .int .i64 x.n, .string x.s]] w fun e w' =>
      ∃ v', e = .returned v' ∧ PropsR (fun b => w.heap.size ≤ b) w' v' (setP l name x) ∧ Grow w w' := by
  obtain ⟨aa, ca, rfl, hal, hac, hA⟩ := SlR.open hl
  clear hl
  unfold maxLen at hac
  have HA := Lib.hid hA; clear hA
  have HB := Lib.hid hb; clear hb
  obtain ⟨iP, hiP, hzP0, hzP1, hzP2⟩ := info_parts infoProp
  -- the two boxes
  have hbx : ∀ w', Grow ((w.alloc (.cells #[.string name] 9)).alloc (.cells #[.int .i64 x.kind, .int .i64 x.n, .string x.s] 33)) w' →
      w'.heap[w.heap.size]? = some (.cells #[.string name] 9 (0, 0)) ∧ w'.heap[w.heap.size + 1]? = some (.cells #[.int .i64 x.kind, .int .i64 x.n, .string x.s] 33 (0, 0)) := by
    intro w' hg
    refine ⟨?_, ?_⟩
    · rw [hg.heapEq (by simp; omega), Below.heap_alloc _ _ _ (by simp)]
      exact heap_alloc_new w _
    · rw [hg.heapEq (by simp)]
      have := heap_alloc_new (w.alloc (.cells #[.string name] 9)) (.cells #[.int .i64 x.kind, .int .i64 x.n, .string x.s] 33)
      simpa using this
  have HBX := Lib.hid hbx; clear hbx
  have hg0 : Grow w ((w.alloc (.cells #[.string name] 9)).alloc (.cells #[.int .i64 x.kind, .int .i64 x.n, .string x.s] 33)) := ((Grow.rfl' w).allocd _).allocd _
  have HG0 := Lib.hid hg0
  have hs0 : ((w.alloc (.cells #[.string name] 9)).alloc (.cells #[.int .i64 x.kind, .int .i64 x.n, .string x.s] 33)).heap.size = w.heap.size + 2 := by simp
  have HS0 := Lib.hid hs0
  clear hg0 hs0
  go_enter Tryz.func118, Tryz.ntmps118
  go_wp2
  generalize (w.alloc (.cells #[.string name] 9)).alloc (.cells #[.int .i64 x.kind, .int .i64 x.n, .string x.s] 33) = W0 at *
  go_loopg [7, 13] l.length (fun g vo i wr => ∃ (k : Nat) (ob : Option Nat), k ≤ l.length ∧ g = l.length - k ∧ i = .int .i64 k ∧ PropsO wr vo (fil (l.take k) name) ob ∧ (∀ b, ob = some b → W0.heap.size ≤ b) ∧ Grow W0 wr)
  case atStart => exact ⟨0, none, by omega, by omega, rfl, OwnS.nil _ _ _, by simp, Grow.rfl' W0⟩
  case round =>
    obtain ⟨k, ob, hk, rfl, rfl, hown, hob, hgr⟩ := hrel
    have hgw : Grow w wr := HG0.out.step hgr
    have HGW := Lib.hid hgw; have HGR := Lib.hid hgr; have HOB := Lib.hid hob; have HOWN := Lib.hid hown
    obtain ⟨hn0, hv0⟩ := HBX.out wr hgr
    have hnb : w.heap.size < wr.heap.size := by have := hgr.size; have := HS0.out; omega
    have hvb : w.heap.size + 1 < wr.heap.size := by have := hgr.size; have := HS0.out; omega
    have n0 : wr.cell? ⟨w.heap.size, 0, none⟩ = some (.string name) := by rw [blk_cell hn0]; rfl
    have v0 : wr.cell? ⟨w.heap.size + 1, 0, none⟩ = some (.int .i64 x.kind) := by rw [blk_cell hv0]; rfl
    have v1 : wr.cell? ⟨w.heap.size + 1, 1, none⟩ = some (.int .i64 x.n) := by rw [blk_cell hv0]; rfl
    have v2 : wr.cell? ⟨w.heap.size + 1, 2, none⟩ = some (.string x.s) := by rw [blk_cell hv0]; rfl
    obtain ⟨oo, co, rfl, -, -⟩ := hown.isSlice
    clear hn0 hv0 hown hob hgr
    by_cases hkl : k < l.length
    · obtain ⟨ba, oa, ra, rfl, hSa, hba, hRa, hca⟩ := HA.out k l[k] (List.getElem?_eq_getElem hkl)
      obtain ⟨hba', a0, a1, a2, a3⟩ := hRa.at hba hgw hca
      clear hca hRa hSa hba hgw
      have HT := Lib.hid (show l.take (k + 1) = l.take k ++ [l[k]] from List.take_succ_eq_append_getElem hkl)
      generalize l[k] = p at *
      have hba1 : ba < wr.heap.size + 1 := by omega
      cases hn : decide (p.name = name)
      · have hW : Grow wr ((wr.alloc (.cells #[.string p.name, .int .i64 p.v.kind, .int .i64 p.v.n, .string p.v.s] 105)).alloc (.cells #[.string p.name, .int .i64 p.v.kind, .int .i64 p.v.n, .string p.v.s] 105)) := ((Grow.rfl' wr).allocd _).allocd _
        have hrd := Rd.lit (wr.alloc (.cells #[.string p.name, .int .i64 p.v.kind, .int .i64 p.v.n, .string p.v.s] 105)) #[.string p.name, .int .i64 p.v.kind, .int .i64 p.v.n, .string p.v.s] 105 4 1 rfl
        simp only [World.size_alloc] at hrd
        have HW := Lib.hid hW; have HRD := Lib.hid hrd
        clear hW hrd
        go_wp2_with (at_builtin; go_must (refine wpList_append_S _ rfl (.tmp 21) (.tmp 23) 87 rfl 105 iP _ 4 48 Tryz.underlying87 hiP hzP0 hzP1 hzP2 rfl (by decide) (.slice oo (fil (l.take k) name).length co) (fil (l.take k) name).length _ ob rfl (HOWN.out.grow HW.out) (.slice (some ⟨wr.heap.size + 1, 0, none⟩) 1 1) rfl 1 _ HRD.out (by intro u hu; simp only [List.mem_cons, List.not_mem_nil, or_false] at hu; rcases hu with rfl | rfl | rfl | rfl <;> rfl) (by have := HB.out; have := fil_length (l.take k) name; have := List.length_take_le k l; unfold maxLen; omega) (by have := HB.out; have := fil_length (l.take k) name; have := List.length_take_le k l; omega) ?_))
        intro v' w5 ob' h1 h2 h3
        have hf1 : fil (l.take (k + 1)) name = fil (l.take k) name ++ [p] := by rw [HT.out, fil_snoc_ne (of_decide_eq_false hn)]
        have hown5 : PropsO w5 v' (fil (l.take (k + 1)) name) ob' := by
          unfold PropsO
          rw [hf1, flat_snoc, List.length_append]
          exact h1
        have hob5 : ∀ b, ob' = some b → W0.heap.size ≤ b := by
          have hsz := HGR.out.size
          have h0 := HOB.out
          intro b hb
          rcases h3 with h3 | ⟨g, h3, hge⟩
          · exact h0 b (by rw [← h3]; exact hb)
          · rw [h3] at hb; cases hb; omega
        have hg5 : Grow W0 w5 := (HGR.out.step HW.out).modd h2 (fun b hb => HOB.out b hb)
        have H5 := Lib.hid hown5; have HO5 := Lib.hid hob5; have HG5 := Lib.hid hg5
        clear h1 h2 h3 hf1 hown5 hob5 hg5
        go_wp2_with fail
        go_roundg (l.length - (k + 1))
        case measure => omega
        case rel => exact ⟨k + 1, ob', by omega, rfl, by go_num, H5.out, HO5.out, HG5.out⟩
      · have H5 : Hid (PropsO (wr.alloc (.cells #[.string p.name, .int .i64 p.v.kind, .int .i64 p.v.n, .string p.v.s] 105)) (.slice oo (fil (l.take k) name).length co) (fil (l.take (k + 1)) name) ob) := Lib.hid (by
          unfold PropsO
          rw [HT.out, fil_snoc_eq (of_decide_eq_true hn)]
          exact HOWN.out.grow ((Grow.rfl' wr).allocd _))
        go_wp2_with fail
        go_roundg (l.length - (k + 1))
        case measure => omega
        case rel => exact ⟨k + 1, ob, by omega, rfl, by go_num, H5.out, HOB.out, HGR.out.allocd _⟩
    · have hkk : l.take k = l := List.take_of_length_le (by omega)
      rw [hkk] at HOWN
      simp only [hkk] at *
      have HLEN := Lib.hid (fil_length l name)
      cases h0 : decide (x.kind = 0)
      · have HS := Lib.hid (show setP l name x = ins (fil l name) ⟨name, x⟩ by unfold setP; rw [if_neg (of_decide_eq_false h0)])
        have h0' : (x.kind == 0) = false := by simpa using h0
        clear h0
        have hbo : (fil l name).length ≤ 1073741824 := by have := HLEN.out; have := HB.out; omega
        have HBO := Lib.hid hbo; clear hbo HLEN
        generalize fil l name = out at *
        go_wp2_with fail
        refine (indexProp (fun b => ob = some b) _ out w.heap.size name _ HOWN.out.props n0).mono ?_
        rintro e w2 ⟨r, rfl, hidx, hg2⟩
        have hg02 : Grow W0 w2 := HGR.out.step hg2
        have hgw2 : Grow w w2 := HG0.out.step hg02
        obtain ⟨hn2, hv2⟩ := HBX.out w2 hg02
        have hnb2 : w.heap.size < w2.heap.size := by have := hg2.size; omega
        have hvb2 : w.heap.size + 1 < w2.heap.size := by have := hg2.size; omega
        have p0 : w2.cell? ⟨w.heap.size, 0, none⟩ = some (.string name) := by rw [blk_cell hn2]; rfl
        have q0 : w2.cell? ⟨w.heap.size + 1, 0, none⟩ = some (.int .i64 x.kind) := by rw [blk_cell hv2]; rfl
        have q1 : w2.cell? ⟨w.heap.size + 1, 1, none⟩ = some (.int .i64 x.n) := by rw [blk_cell hv2]; rfl
        have q2 : w2.cell? ⟨w.heap.size + 1, 2, none⟩ = some (.string x.s) := by rw [blk_cell hv2]; rfl
        have hblk := heap_alloc_new w2 (.cells #[.string name, .int .i64 x.kind, .int .i64 x.n, .string x.s] 105)
        have hgW : Grow wr (w2.alloc (.cells #[.string name, .int .i64 x.kind, .int .i64 x.n, .string x.s] 105)) := hg2.allocd _
        have hobl : ob ≠ some w2.heap.size := fun e => by have := HOWN.out.lt _ e; have := hg2.size; omega
        have hx1 : ∀ u ∈ (out.map PProp.cells).flatten, u.oneCell' = true := oneCell_props out
        have hx2 : ∀ u ∈ [Value.string name, .int .i64 x.kind, .int .i64 x.n, .string x.s], u.oneCell' = true := by
          intro u hu; simp only [List.mem_cons, List.not_mem_nil, or_false] at hu; rcases hu with rfl | rfl | rfl | rfl <;> rfl
        have hfin : ∀ (i : Nat) v' w3 (ob' : Option Nat), i ≤ out.length → out.take i = (out.takeWhile fun p => ltS p.name name) → out.drop i = (out.dropWhile fun p => ltS p.name name) →
            OwnS w3 105 4 v' (out.length + 1) ((out.map PProp.cells).flatten.take (i * 4) ++ [Value.string name, .int .i64 x.kind, .int .i64 x.n, .string x.s] ++ (out.map PProp.cells).flatten.drop (i * 4)) ob' →
            Mod (fun k => ob = some k) (w2.alloc (.cells #[.string name, .int .i64 x.kind, .int .i64 x.n, .string x.s] 105)) w3 →
            (ob' = ob ∨ ∃ g, ob' = some g ∧ (w2.alloc (.cells #[.string name, .int .i64 x.kind, .int .i64 x.n, .string x.s] 105)).heap.size ≤ g) →
            PropsR (fun b => w.heap.size ≤ b) w3 v' (setP l name x) ∧ Grow w w3 := by
          intro i v' w3 ob' hi ht hd ho hm hob'
          have hobb := HOB.out
          have hs0 := HS0.out
          obtain ⟨e1, e2⟩ := flat_take out i hi
          have hins : ins out ⟨name, x⟩ = out.take i ++ ⟨name, x⟩ :: out.drop i := by unfold ins; rw [ht, hd]
          refine ⟨?_, (hgw2.allocd _).modd hm (fun b hb => by have := hobb b hb; omega)⟩
          rw [HS.out]
          have hP : PropsO w3 v' (ins out ⟨name, x⟩) ob' := by
            unfold PropsO
            have hl : (ins out ⟨name, x⟩).length = out.length + 1 := by rw [hins, List.length_append, List.length_cons, List.length_take, List.length_drop]; omega
            rw [hl, hins]
            have e3 : ((out.take i ++ ⟨name, x⟩ :: out.drop i).map PProp.cells).flatten = (out.map PProp.cells).flatten.take (i * 4) ++ [Value.string name, .int .i64 x.kind, .int .i64 x.n, .string x.s] ++ (out.map PProp.cells).flatten.drop (i * 4) := by
              rw [e1, e2]; simp [PProp.cells]
            rw [e3]; exact ho
          refine PropsR.sub hP.props (fun b hb => ?_)
          rcases hob' with h | ⟨g, h, hge⟩
          · have := hobb b (by rw [← h]; exact hb); omega
          · rw [h] at hb; cases hb; simp at hge; omega
        have HFIN := Lib.hid hfin; have HGW2 := Lib.hid hgW; have HBL := Lib.hid hblk; have HOL := Lib.hid hobl; have HX1 := Lib.hid hx1; have HX2 := Lib.hid hx2
        clear hfin hgW hblk hobl hx1 hx2 hn2 hv2 hg02 hgw2 hg2 n0 v0 v1 v2
        rcases hidx with ⟨rfl, hall⟩ | ⟨k, rfl, hk1, hk2, hk3⟩
        · have hall' : ∀ p ∈ out, ltS p.name name = true := by simpa [allLt] using hall
          have HT1 := Lib.hid (show out.take out.length = (out.takeWhile fun p => ltS p.name name) by
            have h2 := List.takeWhile_append_of_pos (l₂ := []) hall'
            simpa using h2.symm)
          have HT2 := Lib.hid (show out.drop out.length = (out.dropWhile fun p => ltS p.name name) by
            have h2 := List.dropWhile_append_of_pos (l₂ := []) hall'
            simpa using h2.symm)
          clear hall hall'
          go_wp2_with (go_at_call 138; go_must (refine (insertProp (.slice oo out.length co) out.length _ [.string name, .int .i64 x.kind, .int .i64 x.n, .string x.s] ob w2.heap.size out.length _ (HOWN.out.grow HGW2.out) (by have := HBO.out; omega) HBL.out rfl HOL.out (Nat.le_refl _) HX1.out HX2.out).mono ?_); rintro e w3 ⟨v', ob', rfl, h1, h2, h3⟩)
          go_ret
          obtain ⟨r1, r2⟩ := HFIN.out _ v' w3 ob' (Nat.le_refl _) HT1.out HT2.out h1 h2 h3
          exact ⟨v', rfl, r1, r2⟩
        · have HT1 := Lib.hid hk2
          have HT2 := Lib.hid hk3
          clear hk2 hk3
          go_wp2_with (go_at_call 138; go_must (refine (insertProp (.slice oo out.length co) out.length _ [.string name, .int .i64 x.kind, .int .i64 x.n, .string x.s] ob w2.heap.size k _ (HOWN.out.grow HGW2.out) (by have := HBO.out; omega) HBL.out rfl HOL.out (Nat.le_of_lt hk1) HX1.out HX2.out).mono ?_); rintro e w3 ⟨v', ob', rfl, h1, h2, h3⟩)
          go_ret
          obtain ⟨r1, r2⟩ := HFIN.out _ v' w3 ob' (Nat.le_of_lt hk1) HT1.out HT2.out h1 h2 h3
          exact ⟨v', rfl, r1, r2⟩
      · have HS := Lib.hid (show setP l name x = fil l name by unfold setP; rw [if_pos (of_decide_eq_true h0)])
        have h0' : (x.kind == 0) = true := by simpa using h0
        clear h0
        go_wp2_with fail
        go_ret
        refine ⟨_, rfl, ?_, HGW.out⟩
        rw [HS.out]
        exact PropsR.sub HOWN.out.props (fun b hb => by have := HOB.out b hb; have := HS0.out; omega)
end Go.Hg

namespace Go.Hg
open Go.RowKit Go.Proofs

abbrev PEdge.args (x : PEdge) (pv : Value) : Value := .agg #[.int .i64 x.id, .string x.typ, .int .i64 x.from_, .int .i64 x.to_, pv]
def atE (x : PEdge) (id : Int) : Bool := decide (x.from_ = id ∨ x.to_ = id)

set_option maxHeartbeats 400000 in
theorem graphAt (x : PEdge) (pv : Value) (id : Int) (w : World) (S : Nat → Prop) (hp : PropsR S w pv x.props) :
    Calls Tryz.prog 112 #[x.args pv, .int .i64 id] w fun e w' => e = .returned (.bool (atE x id)) ∧ Grow w w' := by
  obtain ⟨_, _, rfl⟩ := hp.isSlice
  have hg : ∀ o1, Grow w (w.alloc o1) := fun o1 => (Grow.rfl' w).allocd o1
  clear hp
  go_enter Tryz.func112, Tryz.ntmps112
  go_wp2
  all_goals
    go_ret
    refine ⟨?_, hg _⟩
    by_cases h2 : x.to_ = id <;> simp [atE, *]

set_option maxHeartbeats 400000 in
theorem mayDrop1 (x : PEdge) (pv : Value) (ob : Nat) (id : Int) (w : World) (S : Nat → Prop) (hp : PropsR S w pv x.props) (hc : w.cell? ⟨ob, 1, none⟩ = some (.int .i64 id)) :
    Calls Tryz.prog 111 #[x.args pv, .pointer (some ⟨ob, 0, none⟩)] w fun e w' => e = .returned (.bool (atE x id)) ∧ Grow w w' := by
  have HP := Lib.hid hp
  obtain ⟨_, _, rfl⟩ := hp.isSlice
  have hlt := cell_lt hc
  have hc2 : ∀ o, (w.alloc o).cell? ⟨ob, 1, none⟩ = some (.int .i64 id) := fun o => ((Grow.rfl' w).allocd o).cell (p := ⟨ob, 1, none⟩) hlt |>.trans hc
  have HG := Lib.hid (show ∀ o1, Grow w (w.alloc o1) from fun o1 => (Grow.rfl' w).allocd o1)
  clear hp hc
  go_enter Tryz.func111, Tryz.ntmps111
  go_wp2_with (go_at_call 112; (with_reducible refine (graphAt x _ id _ S (HP.out.grow (HG.out _))).mono ?_); rintro e w2 ⟨rfl, hw2⟩)
  go_ret
  exact ⟨rfl, (HG.out _).step ‹_›⟩
set_option maxHeartbeats 400000 in
theorem dropNode1 (x : PEdge) (pv : Value) (ob : Nat) (id : Int) (w : World) (S : Nat → Prop) (hp : PropsR S w pv x.props) (hc : w.cell? ⟨ob, 1, none⟩ = some (.int .i64 id)) :
    Calls Tryz.prog 114 #[x.args pv, .pointer (some ⟨ob, 0, none⟩)] w fun e w' => e = .returned (.bool (atE x id)) ∧ Grow w w' := by
  have HP := Lib.hid hp
  obtain ⟨_, _, rfl⟩ := hp.isSlice
  have hlt := cell_lt hc
  have hc2 : ∀ o, (w.alloc o).cell? ⟨ob, 1, none⟩ = some (.int .i64 id) := fun o => ((Grow.rfl' w).allocd o).cell (p := ⟨ob, 1, none⟩) hlt |>.trans hc
  have HG := Lib.hid (show ∀ o1, Grow w (w.alloc o1) from fun o1 => (Grow.rfl' w).allocd o1)
  clear hp hc
  go_enter Tryz.func114, Tryz.ntmps114
  go_wp2_with (go_at_call 112; (with_reducible refine (graphAt x _ id _ S (HP.out.grow (HG.out _))).mono ?_); rintro e w2 ⟨rfl, hw2⟩)
  go_ret
  exact ⟨rfl, (HG.out _).step ‹_›⟩
def AsksE (f : Nat) (c : Addr) (p : PEdge → Bool) (S : Nat → Prop) (w : World) : Prop :=
  (∀ args w, (callFunc f args).run Tryz.prog w = .ok (.enter f args) w) ∧ ∀ (x : PEdge) (pv : Value) (w' : World), Grow w w' → PropsR S w' pv x.props → Calls Tryz.prog f #[x.args pv, .pointer (some c)] w' fun e w2 => e = .returned (.bool (p x)) ∧ Grow w' w2
theorem AsksE.grow {f : Nat} {c : Addr} {p : PEdge → Bool} {S : Nat → Prop} {w w' : World} (h : AsksE f c p S w) (g : Grow w w') : AsksE f c p S w' := ⟨h.1, fun x pv w2 g2 hp => h.2 x pv w2 (g.step g2) hp⟩
def IdxE (l : List PEdge) (p : PEdge → Bool) (r : Int) : Prop :=
  (r = -1 ∧ ∀ x ∈ l, p x = false) ∨ ∃ (k : Nat) (x : PEdge), r = k ∧ l[k]? = some x ∧ p x = true ∧ ∀ y ∈ l.take k, p y = false

set_option maxRecDepth 100000 in
set_option maxHeartbeats 1000000 in
theorem indexEdge (S : Nat → Prop) (v : Value) (l : List PEdge) (f : Nat) (c : Addr) (p : PEdge → Bool) (w : World) (hl : EdgesR S w v l) (hp : AsksE f c p S w) :
    Calls Tryz.prog 120 #[v, .func (.func f) #[] #[.pointer (some c)]] w fun e w' => ∃ r : Int, e = .returned (.int .i64 r) ∧ IdxE l p r ∧ Grow w w' := by
  obtain ⟨aa, ca, rfl, hal, hac, hA⟩ := SlR.open hl
  clear hl
  unfold maxLen at hac
  have HA := Lib.hid hA; clear hA
  have HP := Lib.hid hp.2; have hcf := hp.1; clear hp
  go_enter Tryz.func120, Tryz.ntmps120
  go_wp2
  go_loopg [8] l.length (fun g i wr => ∃ k : Nat, k ≤ l.length ∧ g = l.length - k ∧ i = .int .i64 k ∧ (∀ y ∈ l.take k, p y = false) ∧ Grow w wr)
  case atStart => exact ⟨0, by omega, by omega, rfl, by simp, Grow.rfl' w⟩
  case round =>
    obtain ⟨k, hk, rfl, rfl, hall, hgr⟩ := hrel
    have HALL := Lib.hid hall; clear hall
    by_cases hkl : k < l.length
    · obtain ⟨ba, oa, ra, rfl, hSa, hba, hRa, hca⟩ := HA.out k l[k] (List.getElem?_eq_getElem hkl)
      obtain ⟨pva, hba', a0, a1, a2, a3, a4, hpa⟩ := hRa.at hba hgr hca
      clear hca hRa hSa hba
      have HE := Lib.hid (show l[k]? = some l[k] from List.getElem?_eq_getElem hkl)
      have HT := Lib.hid (show l.take (k + 1) = l.take k ++ [l[k]] from List.take_succ_eq_append_getElem hkl)
      generalize l[k] = x at *
      have HPA := Lib.hid hpa
      obtain ⟨_, _, rfl⟩ := hpa.isSlice
      clear hpa
      cases hn : p x
      all_goals
        go_wp2_with fail
        refine (HP.out x _ _ hgr HPA.out).mono ?_
        rintro e w2 ⟨rfl, hw2⟩
        rw [hn]
        go_wp2
      · go_roundg (l.length - (k + 1))
        case measure => omega
        case rel => exact ⟨k + 1, by omega, rfl, by go_num, by rw [HT.out]; intro y hy; rcases List.mem_append.1 hy with h | h; exact HALL.out y h; simp at h; subst h; exact hn, hgr.step hw2⟩
      · go_ret
        exact ⟨_, rfl, .inr ⟨k, x, rfl, HE.out, hn, HALL.out⟩, hgr.step hw2⟩
    · have HX := Lib.hid (show l.take k = l from List.take_of_length_le (by omega))
      go_wp2
      go_ret
      exact ⟨_, rfl, .inl ⟨rfl, by rw [← HX.out]; exact HALL.out⟩, hgr⟩

set_option maxHeartbeats 400000 in
theorem containsEdge (S : Nat → Prop) (v : Value) (l : List PEdge) (f : Nat) (c : Addr) (p : PEdge → Bool) (w : World) (hl : EdgesR S w v l) (hp : AsksE f c p S w) :
    Calls Tryz.prog 110 #[v, .func (.func f) #[] #[.pointer (some c)]] w fun e w' => e = .returned (.bool (l.any p)) ∧ Grow w w' := by
  have HL := Lib.hid hl; have HP := Lib.hid hp
  obtain ⟨_, _, rfl, _⟩ := SlR.open hl
  clear hl hp
  go_enter Tryz.func110, Tryz.ntmps110
  go_wp2_with fail
  refine (indexEdge S _ l f c p _ HL.out HP.out).mono ?_
  rintro e w2 ⟨r, rfl, hr, hw2⟩
  rcases hr with ⟨rfl, hall⟩ | ⟨k, x, rfl, hx, hpx, hk⟩
  · have HA := Lib.hid (show l.any p = false from List.any_eq_false.2 (fun x hx => by rw [hall x hx]; simp))
    clear hall
    go_wp2
    go_ret
    exact ⟨by rw [HA.out]; rfl, hw2⟩
  · have HA := Lib.hid (show l.any p = true from List.any_eq_true.2 ⟨x, List.mem_of_getElem? hx, hpx⟩)
    clear hx hpx hk
    go_wp2
    go_ret
    exact ⟨by rw [HA.out]; simp, hw2⟩
end Go.Hg

namespace Go.Hg
open Go.RowKit Go.Proofs

structure POp where
  kind : Int
  id : Int
  typ : ByteArray
  from_ : Int
  to_ : Int
  name : ByteArray
  v : PVal
  cascade : Bool
deriving DecidableEq
def POp.cells (o : POp) : List Value := [.int .i64 o.kind, .int .i64 o.id, .string o.typ, .int .i64 o.from_, .int .i64 o.to_, .string o.name, .int .i64 o.v.kind, .int .i64 o.v.n, .string o.v.s, .bool o.cascade]
abbrev POp.args (o : POp) : Value := .agg #[.int .i64 o.kind, .int .i64 o.id, .string o.typ, .int .i64 o.from_, .int .i64 o.to_, .string o.name, .int .i64 o.v.kind, .int .i64 o.v.n, .string o.v.s, .bool o.cascade]

def hasN (G : PGraph) (id : Int) : Bool := G.nodes.any fun x => decide (x.id = id)
def hasE (G : PGraph) (id : Int) : Bool := G.edges.any fun x => decide (x.id = id)
def findP (G : PGraph) (id : Int) : Option (List PProp) :=
  match G.nodes.find? fun x => decide (x.id = id) with
  | some x => some x.props
  | none => match G.edges.find? fun x => decide (x.id = id) with
    | some x => some x.props
    | none => none
def mayG (c : PCat) (o : POp) (G : PGraph) : Int :=
  if o.kind = 1 then (if memS o.typ c.nodes = false then 140 else if fullG G = true then 50 else 0)
  else if o.kind = 2 then (if hasN G o.id = false then 60 else if o.cascade = false ∧ (G.edges.any fun x => atE x o.id) = true then 160 else 0)
  else if o.kind = 3 then (if memS o.typ c.edges = false then 140 else if hasN G o.from_ = false ∨ hasN G o.to_ = false then 141 else if fullG G = true then 50 else 0)
  else if o.kind = 4 then (if hasE G o.id = false then 60 else 0)
  else if o.kind = 5 then (if ¬ NameOk o.name ∨ (¬ GoodV o.v ∧ ¬ BlankV o.v) then 142 else match findP G o.id with | none => 60 | some ps => if 8 < (setP ps o.name o.v).length then 3 else 0)
  else 150
def addNodeG (o : POp) (G : PGraph) : PGraph := ⟨G.nodes ++ [⟨G.next, o.typ, []⟩], G.edges, G.next + 1⟩
def dropNodeG (o : POp) (G : PGraph) : PGraph := ⟨G.nodes.filter fun x => !decide (x.id = o.id), G.edges.filter fun x => !atE x o.id, G.next⟩
def addEdgeG (o : POp) (G : PGraph) : PGraph := ⟨G.nodes, G.edges ++ [⟨G.next, o.typ, o.from_, o.to_, []⟩], G.next + 1⟩
def dropEdgeG (o : POp) (G : PGraph) : PGraph := ⟨G.nodes, G.edges.filter fun x => !decide (x.id = o.id), G.next⟩
def setPropG (o : POp) (G : PGraph) : PGraph :=
  if hasN G o.id = true then ⟨G.nodes.map fun x => if x.id = o.id then ⟨x.id, x.typ, setP x.props o.name o.v⟩ else x, G.edges, G.next⟩
  else ⟨G.nodes, G.edges.map fun x => if x.id = o.id then ⟨x.id, x.typ, x.from_, x.to_, setP x.props o.name o.v⟩ else x, G.next⟩
def doG (o : POp) (G : PGraph) : PGraph :=
  if o.kind = 1 then addNodeG o G else if o.kind = 2 then dropNodeG o G else if o.kind = 3 then addEdgeG o G else if o.kind = 4 then dropEdgeG o G else if o.kind = 5 then setPropG o G else G
def idG (o : POp) (G : PGraph) : Int := if o.kind = 1 ∨ o.kind = 3 then G.next else 0
def stepG (c : PCat) (o : POp) (G : PGraph) : PGraph := if mayG c o G = 0 then doG o G else G

section
variable {α : Type} (f : α → Int)
theorem idx_any {l : List α} {id : Int} {i : Nat} {b : Bool} (h : BsOk (l.map f) id i b) : b = l.any fun x => decide (f x = id) := by
  obtain ⟨-, ⟨rfl, h⟩ | ⟨rfl, h⟩⟩ := h
  · unfold List.idxOf? at h
    obtain ⟨hl, he, -⟩ := List.findIdx?_eq_some_iff_getElem.1 h
    symm
    rw [List.any_eq_true]
    refine ⟨l[i]'(by simpa using hl), List.getElem_mem _, ?_⟩
    simpa using he
  · unfold List.idxOf? at h
    rw [List.findIdx?_eq_none_iff] at h
    symm
    rw [List.any_eq_false]
    intro x hx
    have := h (f x) (List.mem_map_of_mem hx)
    simpa using this
theorem idx_at {l : List α} {id : Int} {i : Nat} (h : BsOk (l.map f) id i true) : ∃ x, l[i]? = some x ∧ f x = id := by
  obtain ⟨-, ⟨-, h⟩ | ⟨h, -⟩⟩ := h
  · unfold List.idxOf? at h
    obtain ⟨hl, he, -⟩ := List.findIdx?_eq_some_iff_getElem.1 h
    have hl' : i < l.length := by simpa using hl
    exact ⟨l[i], List.getElem?_eq_getElem hl', by simpa using he⟩
  · cases h
theorem pw_split {l : List α} {i : Nat} {x : α} (hs : (l.map f).Pairwise (· < ·)) (hi : l[i]? = some x) : l = l.take i ++ x :: l.drop (i + 1) ∧ (∀ y ∈ l.take i, f y < f x) ∧ ∀ y ∈ l.drop (i + 1), f x < f y := by
  obtain ⟨hl, rfl⟩ := List.getElem?_eq_some_iff.1 hi
  have e : l = l.take i ++ l[i] :: l.drop (i + 1) := by
    rw [← List.drop_eq_getElem_cons hl, List.take_append_drop]
  refine ⟨e, ?_⟩
  rw [e, List.map_append, List.map_cons, List.pairwise_append, List.pairwise_cons] at hs
  obtain ⟨-, ⟨h2, -⟩, h3⟩ := hs
  exact ⟨fun y hy => h3 _ (List.mem_map_of_mem hy) _ (by simp), fun y hy => h2 _ (List.mem_map_of_mem hy)⟩
theorem filter_idx {l : List α} {i : Nat} {x : α} {id : Int} (hs : (l.map f).Pairwise (· < ·)) (hi : l[i]? = some x) (hx : f x = id) : (l.filter fun y => !decide (f y = id)) = l.take i ++ l.drop (i + 1) := by
  subst hx
  obtain ⟨e, h1, h2⟩ := pw_split f hs hi
  conv => lhs; rw [e]
  rw [List.filter_append, List.filter_cons]
  rw [List.filter_eq_self.2 (fun y hy => by have := h1 y hy; simp; omega), List.filter_eq_self.2 (fun y hy => by have := h2 y hy; simp; omega)]
  simp
theorem map_idx {l : List α} {i : Nat} {x : α} {id : Int} (g : α → α) (hs : (l.map f).Pairwise (· < ·)) (hi : l[i]? = some x) (hx : f x = id) : (l.map fun y => if f y = id then g y else y) = l.set i (g x) := by
  subst hx
  obtain ⟨e, h1, h2⟩ := pw_split f hs hi
  have hl : i < l.length := (List.getElem?_eq_some_iff.1 hi).1
  have hti : (l.take i).length = i := by rw [List.length_take]; omega
  conv => lhs; rw [e]
  conv => rhs; rw [e]
  rw [List.map_append, List.map_cons, if_pos rfl]
  rw [List.set_append_right _ _ (by omega), hti, Nat.sub_self, List.set_cons_zero]
  congr 1
  · conv => rhs; rw [← List.map_id (l.take i)]
    exact List.map_congr_left fun y hy => by have := h1 y hy; rw [if_neg (by omega)]; rfl
  · congr 1
    conv => rhs; rw [← List.map_id (l.drop (i + 1))]
    exact List.map_congr_left fun y hy => by have := h2 y hy; rw [if_neg (by omega)]; rfl
theorem find_idx {l : List α} {i : Nat} {x : α} {id : Int} (hs : (l.map f).Pairwise (· < ·)) (hi : l[i]? = some x) (hx : f x = id) : (l.find? fun y => decide (f y = id)) = some x := by
  subst hx
  obtain ⟨e, h1, h2⟩ := pw_split f hs hi
  rw [e, List.find?_append, List.find?_eq_none.2 (fun y hy => by have := h1 y hy; simp; omega)]
  simp
theorem find_none {l : List α} {id : Int} (h : (l.any fun y => decide (f y = id)) = false) : (l.find? fun y => decide (f y = id)) = none := by
  rw [List.find?_eq_none]
  intro y hy
  have := List.any_eq_false.1 h y hy
  exact this
end
theorem pw_snoc {l : List Int} {n : Int} (h : l.Pairwise (· < ·)) (hb : ∀ x ∈ l, x < n) : (l ++ [n]).Pairwise (· < ·) := by
  rw [List.pairwise_append]
  exact ⟨h, by simp, fun a ha b hb' => by simp at hb'; subst hb'; exact hb a ha⟩
theorem map_sub {α β : Type} (f : α → β) (p : α → Bool) (l : List α) : ((l.filter p).map f).Sublist (l.map f) := List.Sublist.map f List.filter_sublist

theorem full_no {G : PGraph} (h : fullG G = false) : G.nodes.length + G.edges.length < 1024 ∧ G.next ≤ 4611686018427387903 := by
  unfold fullG at h
  simp only [Bool.or_eq_false_iff, decide_eq_false_iff_not] at h
  omega
theorem GInv.addNode {G : PGraph} (h : GInv G) (hf : fullG G = false) (o : POp) : GInv (addNodeG o G) := by
  have hn := full_no hf
  have h0 := h.next0
  refine ⟨by show 1 ≤ G.next + 1; omega, by show G.next + 1 ≤ _; omega, ?_, ?_, h.edges, ?_, ?_⟩
  · show (G.nodes ++ [_]).length + G.edges.length ≤ 1024
    rw [List.length_append, List.length_singleton]; omega
  · show ((G.nodes ++ [_]).map _).Pairwise _
    rw [List.map_append]
    exact pw_snoc h.nodes (fun x hx => by obtain ⟨y, hy, rfl⟩ := List.mem_map.1 hx; exact (h.nodesB y hy).2.1)
  · intro x hx
    show 1 ≤ x.id ∧ x.id < G.next + 1 ∧ _
    rcases List.mem_append.1 hx with hx | hx
    · have := h.nodesB x hx; omega
    · simp at hx; subst hx; simp; omega
  · intro x hx
    show 1 ≤ x.id ∧ x.id < G.next + 1 ∧ _
    have := h.edgesB x hx; omega
theorem GInv.addEdge {G : PGraph} (h : GInv G) (hf : fullG G = false) (o : POp) : GInv (addEdgeG o G) := by
  have hn := full_no hf
  have h0 := h.next0
  refine ⟨by show 1 ≤ G.next + 1; omega, by show G.next + 1 ≤ _; omega, ?_, h.nodes, ?_, ?_, ?_⟩
  · show G.nodes.length + (G.edges ++ [_]).length ≤ 1024
    rw [List.length_append, List.length_singleton]; omega
  · show ((G.edges ++ [_]).map _).Pairwise _
    rw [List.map_append]
    exact pw_snoc h.edges (fun x hx => by obtain ⟨y, hy, rfl⟩ := List.mem_map.1 hx; exact (h.edgesB y hy).2.1)
  · intro x hx
    show 1 ≤ x.id ∧ x.id < G.next + 1 ∧ _
    have := h.nodesB x hx; omega
  · intro x hx
    show 1 ≤ x.id ∧ x.id < G.next + 1 ∧ _
    rcases List.mem_append.1 hx with hx | hx
    · have := h.edgesB x hx; omega
    · simp at hx; subst hx; simp; omega
theorem GInv.dropNode {G : PGraph} (h : GInv G) (o : POp) : GInv (dropNodeG o G) := by
  refine ⟨h.next0, h.next1, ?_, h.nodes.sublist (map_sub _ _ _), h.edges.sublist (map_sub _ _ _), fun x hx => h.nodesB x (List.mem_filter.1 hx).1, fun x hx => h.edgesB x (List.mem_filter.1 hx).1⟩
  have h1 := h.items
  have h2 := List.length_filter_le (fun x : PNode => !decide (x.id = o.id)) G.nodes
  have h3 := List.length_filter_le (fun x : PEdge => !atE x o.id) G.edges
  show (G.nodes.filter _).length + (G.edges.filter _).length ≤ 1024
  omega
theorem GInv.dropEdge {G : PGraph} (h : GInv G) (o : POp) : GInv (dropEdgeG o G) := by
  refine ⟨h.next0, h.next1, ?_, h.nodes, h.edges.sublist (map_sub _ _ _), h.nodesB, fun x hx => h.edgesB x (List.mem_filter.1 hx).1⟩
  have h1 := h.items
  have h3 := List.length_filter_le (fun x : PEdge => !decide (x.id = o.id)) G.edges
  show G.nodes.length + (G.edges.filter _).length ≤ 1024
  omega
theorem GInv.setProp {G : PGraph} (h : GInv G) (o : POp) {ps : List PProp} (hp : findP G o.id = some ps) (hl : (setP ps o.name o.v).length ≤ 8) : GInv (setPropG o G) := by
  unfold setPropG
  unfold findP at hp
  split
  · rename_i hn
    obtain ⟨x, hx, hxi⟩ := List.any_eq_true.1 hn
    obtain ⟨i, hi⟩ := List.getElem?_of_mem hx
    have hfi := find_idx (·.id) h.nodes hi (by simpa using hxi)
    rw [hfi] at hp
    simp only [Option.some.injEq] at hp
    have hid : x.id = o.id := by simpa using hxi
    refine ⟨h.next0, h.next1, by simpa using h.items, ?_, h.edges, ?_, h.edgesB⟩
    · have e : (G.nodes.map fun x => if x.id = o.id then (⟨x.id, x.typ, setP x.props o.name o.v⟩ : PNode) else x).map (·.id) = G.nodes.map (·.id) := by
        rw [List.map_map]
        refine List.map_congr_left fun y _ => ?_
        simp only [Function.comp]
        split <;> rfl
      exact (show ((G.nodes.map fun x => if x.id = o.id then (⟨x.id, x.typ, setP x.props o.name o.v⟩ : PNode) else x).map (·.id)).Pairwise (· < ·) by rw [e]; exact h.nodes)
    · intro y hy
      obtain ⟨z, hz, rfl⟩ := List.mem_map.1 hy
      have hb := h.nodesB z hz
      split
      · rename_i hzi
        obtain ⟨j, hj⟩ := List.getElem?_of_mem hz
        have h2 := find_idx (·.id) h.nodes hj hzi
        rw [hfi] at h2
        simp only [Option.some.injEq] at h2
        subst h2
        exact ⟨hb.1, hb.2.1, by rw [hp]; exact hl⟩
      · exact hb
  · rename_i hn
    have hn' : hasN G o.id = false := by simpa using hn
    rw [find_none (fun x : PNode => x.id) hn'] at hp
    cases hf : G.edges.find? fun x => decide (x.id = o.id) with
    | none => rw [hf] at hp; simp at hp
    | some x =>
      rw [hf] at hp
      simp only [Option.some.injEq] at hp
      refine ⟨h.next0, h.next1, by simpa using h.items, h.nodes, ?_, h.nodesB, ?_⟩
      · have e : (G.edges.map fun x => if x.id = o.id then (⟨x.id, x.typ, x.from_, x.to_, setP x.props o.name o.v⟩ : PEdge) else x).map (·.id) = G.edges.map (·.id) := by
          rw [List.map_map]
          refine List.map_congr_left fun y _ => ?_
          simp only [Function.comp]
          split <;> rfl
        exact (show ((G.edges.map fun x => if x.id = o.id then (⟨x.id, x.typ, x.from_, x.to_, setP x.props o.name o.v⟩ : PEdge) else x).map (·.id)).Pairwise (· < ·) by rw [e]; exact h.edges)
      · intro y hy
        obtain ⟨z, hz, rfl⟩ := List.mem_map.1 hy
        have hb := h.edgesB z hz
        split
        · rename_i hzi
          obtain ⟨j, hj⟩ := List.getElem?_of_mem hz
          have h2 := find_idx (·.id) h.edges hj hzi
          rw [hf] at h2
          simp only [Option.some.injEq] at h2
          subst h2
          exact ⟨hb.1, hb.2.1, by rw [hp]; exact hl⟩
        · exact hb
theorem GInv.doG {c : PCat} {o : POp} {G : PGraph} (h : GInv G) (hm : mayG c o G = 0) : GInv (doG o G) := by
  unfold mayG at hm
  unfold Hg.doG
  by_cases h1 : o.kind = 1
  · rw [if_pos h1] at hm ⊢
    split at hm
    · simp at hm
    · split at hm
      · simp at hm
      · exact h.addNode (by simpa using ‹¬ fullG G = true›) o
  rw [if_neg h1] at hm ⊢
  by_cases h2 : o.kind = 2
  · rw [if_pos h2]; exact h.dropNode o
  rw [if_neg h2] at hm ⊢
  by_cases h3 : o.kind = 3
  · rw [if_pos h3] at hm ⊢
    split at hm
    · simp at hm
    · split at hm
      · simp at hm
      · split at hm
        · simp at hm
        · exact h.addEdge (by simpa using ‹¬ fullG G = true›) o
  rw [if_neg h3] at hm ⊢
  by_cases h4 : o.kind = 4
  · rw [if_pos h4]; exact h.dropEdge o
  rw [if_neg h4] at hm ⊢
  by_cases h5 : o.kind = 5
  · rw [if_pos h5] at hm ⊢
    split at hm
    · simp at hm
    · split at hm
      · simp at hm
      · rename_i ps hps
        split at hm
        · simp at hm
        · exact h.setProp o hps (by omega)
  rw [if_neg h5] at hm
  simp at hm
theorem GInv.stepG {c : PCat} {o : POp} {G : PGraph} (h : GInv G) : GInv (stepG c o G) := by
  unfold Hg.stepG
  split
  · exact h.doG ‹_›
  · exact h
end Go.Hg

namespace Go.Hg
open Go.RowKit Go.Proofs

theorem enterF {P : Program} {f : FuncId} {fn : Func} {c : Code} (hf : P.funcs[f]? = some fn) (hname : (fn.name == "runtime.NumGoroutine") = false) (hb : fn.body = some c) (args : Array Value) (w : World) :
    (callFunc f args).run P w = .ok (.enter f args) w := by
  have h1 : fn.name ≠ "runtime.NumGoroutine" := by simpa using hname
  simp [callFunc, hf, h1, hb]

set_option maxRecDepth 100000 in
set_option maxHeartbeats 2000000 in
theorem mayAddNode (S SC : Nat → Prop) (B : Nat) (G : PGraph) (nv ev rv iv : Value) (c : PCat) (o : POp) (w : World) (h : GraphOk 101 S w B G) (hG : GInv G) (hc : CatR SC w nv ev rv iv c) (hk : o.kind = 1) :
    Calls Tryz.prog 82 #[.pointer (some ⟨B, 0, none⟩), c.arg nv ev rv iv, o.args] w fun e w' => e = .returned (.int .i64 (mayG c o G)) ∧ Grow w w' := by
  have HGR := Lib.hid h; have HC := Lib.hid hc; have HI := Lib.hid hG.items
  have HM := Lib.hid (show mayG c o G = (if memS o.typ (c.typesOf 1) = false then 140 else if fullG G = true then 50 else 0) by unfold mayG; rw [if_pos hk]; rfl)
  obtain ⟨na, nc, ea, ec, ra, rc, ia, ic, rfl, rfl, rfl, rfl⟩ := hc.slices
  have HW := Lib.hid (show ∀ o1 o2, Grow w ((w.alloc o1).alloc o2) from fun o1 o2 => ((Grow.rfl' w).allocd o1).allocd o2)
  clear h hc hG hk
  go_enter Tryz.func82, Tryz.ntmps82
  go_wp2_with fail
  refine (schemaHas SC _ _ _ _ c 1 o.typ _ (HC.out.grow (HW.out _ _))).mono ?_
  rintro e w2 ⟨rfl, hw2⟩
  have HG2 := Lib.hid ((HW.out _ _).step hw2); clear hw2
  cases hm : memS o.typ (c.typesOf 1)
  · have H1 := Lib.hid hm; clear hm
    go_wp2
    go_ret
    exact ⟨by rw [HM.out, if_pos H1.out]; rfl, HG2.out⟩
  · have H1 := Lib.hid hm; clear hm
    go_wp2_with fail
    refine (graphFull S B G _ (HGR.out.grow HG2.out) HI.out).mono ?_
    rintro e w3 ⟨rfl, hw3⟩
    have HG3 := Lib.hid (HG2.out.step hw3); clear hw3
    cases hf : fullG G
    all_goals
      have H2 := Lib.hid hf; clear hf
      go_wp2
      go_ret
      exact ⟨by rw [HM.out, if_neg (by rw [H1.out]; simp), H2.out]; rfl, HG3.out⟩

def OpAt (w : World) (b : Nat) (o : POp) : Prop := w.heap[b]? = some (.cells o.cells.toArray 35 (0, 0))
theorem OpAt.grow {w w' : World} {b : Nat} {o : POp} (h : OpAt w b o) (g : Grow w w') : OpAt w' b o := (g.heapEq (blk_lt h)).trans h
theorem OpAt.mod {F : Nat → Prop} {w w' : World} {b : Nat} {o : POp} (h : OpAt w b o) (g : Mod F w w') (hd : ¬ F b) : OpAt w' b o := (g.block b (blk_lt h) hd).trans h
theorem OpAt.at {w : World} {b : Nat} {o : POp} (h : OpAt w b o) : b < w.heap.size ∧ w.cell? ⟨b, 0, none⟩ = some (.int .i64 o.kind) ∧ w.cell? ⟨b, 1, none⟩ = some (.int .i64 o.id) ∧ w.cell? ⟨b, 2, none⟩ = some (.string o.typ) ∧
    w.cell? ⟨b, 3, none⟩ = some (.int .i64 o.from_) ∧ w.cell? ⟨b, 4, none⟩ = some (.int .i64 o.to_) ∧ w.cell? ⟨b, 5, none⟩ = some (.string o.name) ∧ w.cell? ⟨b, 6, none⟩ = some (.int .i64 o.v.kind) ∧ w.cell? ⟨b, 7, none⟩ = some (.int .i64 o.v.n) ∧
    w.cell? ⟨b, 8, none⟩ = some (.string o.v.s) ∧ w.cell? ⟨b, 9, none⟩ = some (.bool o.cascade) :=
  ⟨blk_lt h, by rw [blk_cell h]; rfl, by rw [blk_cell h]; rfl, by rw [blk_cell h]; rfl, by rw [blk_cell h]; rfl, by rw [blk_cell h]; rfl, by rw [blk_cell h]; rfl, by rw [blk_cell h]; rfl, by rw [blk_cell h]; rfl, by rw [blk_cell h]; rfl, by rw [blk_cell h]; rfl⟩

set_option maxRecDepth 100000 in
set_option maxHeartbeats 2000000 in
theorem mayDropNode (S SC : Nat → Prop) (B : Nat) (G : PGraph) (nv ev rv iv : Value) (c : PCat) (o : POp) (w : World) (h : GraphOk 101 S w B G) (hG : GInv G) (hc : CatR SC w nv ev rv iv c) (hk : o.kind = 2) :
    Calls Tryz.prog 84 #[.pointer (some ⟨B, 0, none⟩), c.arg nv ev rv iv, o.args] w fun e w' => e = .returned (.int .i64 (mayG c o G)) ∧ Grow w w' := by
  have HGR := Lib.hid h; have HI := Lib.hid hG
  have HM := Lib.hid (show mayG c o G = (if hasN G o.id = false then 60 else if o.cascade = false ∧ (G.edges.any fun x => atE x o.id) = true then 160 else 0) by unfold mayG; rw [if_neg (by omega), if_pos hk])
  obtain ⟨na, nc, ea, ec, ra, rc, ia, ic, rfl, rfl, rfl, rfl⟩ := hc.slices
  have HW := Lib.hid (show ∀ o1 o2, Grow w ((w.alloc o1).alloc o2) from fun o1 o2 => ((Grow.rfl' w).allocd o1).allocd o2)
  have HOP := Lib.hid (show ∀ o1, OpAt ((w.alloc o1).alloc (.cells o.cells.toArray 35)) (w.heap.size + 1) o from fun o1 => by
    have := heap_alloc_new (w.alloc o1) (.cells o.cells.toArray 35)
    rw [World.size_alloc] at this
    exact this)
  clear h hc hG hk
  go_enter Tryz.func84, Tryz.ntmps84
  go_wp2_with fail
  refine (graphNode_ S B G o.id _ (HGR.out.grow (HW.out _ _)) HI.out).mono ?_
  rintro e w2 ⟨i, b, rfl, hb, hg⟩
  have HB := Lib.hid (idx_any (fun x : PNode => x.id) hb); clear hb
  have HG2 := Lib.hid ((HW.out _ _).step hg)
  obtain ⟨hlt, c0, c1, c2, c3, c4, c5, c6, c7, c8, c9⟩ := ((HOP.out _).grow hg).at
  have HOP2 := Lib.hid ((HOP.out _).grow hg)
  clear hg
  cases b
  · go_wp2
    go_ret
    exact ⟨by rw [HM.out, if_pos (show hasN G o.id = false from HB.out.symm)]; rfl, HG2.out⟩
  · have HN := Lib.hid (show ¬ hasN G o.id = false by unfold hasN; rw [← HB.out]; simp)
    cases hca : o.cascade
    · have HCA := Lib.hid hca
      rw [hca] at c9
      clear hca
      obtain ⟨na', nc', ea', ec', hB, g0, g1, g2, -, hE⟩ := (HGR.out.grow HG2.out).read
      have HE := Lib.hid hE; clear hE
      go_wp2_with fail
      refine (containsEdge S _ G.edges 111 ⟨w.heap.size + 1, 0, none⟩ (fun x => atE x o.id) _ HE.out ⟨fun args w => enterF Tryz.func111 (by kernel_rfl) rfl args w, fun x pv w' hg hp => mayDrop1 x pv _ o.id w' S hp (HOP2.out.grow hg).at.2.2.1⟩).mono ?_
      rintro e w3 ⟨rfl, hw3⟩
      have HG3 := Lib.hid (HG2.out.step hw3); clear hw3
      cases hf : G.edges.any fun x => atE x o.id
      all_goals
        have H2 := Lib.hid hf; clear hf
        go_wp2
        go_ret
        refine ⟨?_, HG3.out⟩
        rw [HM.out, if_neg HN.out, HCA.out, H2.out]
        rfl
    · have HCA := Lib.hid hca
      rw [hca] at c9
      clear hca
      go_wp2
      go_ret
      exact ⟨by rw [HM.out, if_neg HN.out, if_neg (by rw [HCA.out]; simp)]; rfl, HG2.out⟩

set_option maxRecDepth 100000 in
set_option maxHeartbeats 2000000 in
theorem mayAddEdge (S SC : Nat → Prop) (B : Nat) (G : PGraph) (nv ev rv iv : Value) (c : PCat) (o : POp) (w : World) (h : GraphOk 101 S w B G) (hG : GInv G) (hc : CatR SC w nv ev rv iv c) (hk : o.kind = 3) :
    Calls Tryz.prog 86 #[.pointer (some ⟨B, 0, none⟩), c.arg nv ev rv iv, o.args] w fun e w' => e = .returned (.int .i64 (mayG c o G)) ∧ Grow w w' := by
  have HGR := Lib.hid h; have HC := Lib.hid hc; have HI := Lib.hid hG
  have HM := Lib.hid (show mayG c o G = (if memS o.typ (c.typesOf 2) = false then 140 else if hasN G o.from_ = false ∨ hasN G o.to_ = false then 141 else if fullG G = true then 50 else 0) by unfold mayG; rw [if_neg (by omega), if_neg (by omega), if_pos hk]; rfl)
  obtain ⟨na, nc, ea, ec, ra, rc, ia, ic, rfl, rfl, rfl, rfl⟩ := hc.slices
  have HW := Lib.hid (show ∀ o1 o2, Grow w ((w.alloc o1).alloc o2) from fun o1 o2 => ((Grow.rfl' w).allocd o1).allocd o2)
  have HOP := Lib.hid (show ∀ o1, OpAt ((w.alloc o1).alloc (.cells o.cells.toArray 35)) (w.heap.size + 1) o from fun o1 => by
    have := heap_alloc_new (w.alloc o1) (.cells o.cells.toArray 35)
    rw [World.size_alloc] at this
    exact this)
  have HCT := Lib.hid (show ∀ w', Grow ((w.alloc (.cells #[.slice na c.nodes.length nc, .slice ea c.edges.length ec, .slice ra c.rules.length rc, .slice ia c.indexes.length ic, .int .i64 c.nextRule] 45)).alloc (.cells o.cells.toArray 35)) w' →
      w'.heap[w.heap.size]? = some (.cells #[.slice na c.nodes.length nc, .slice ea c.edges.length ec, .slice ra c.rules.length rc, .slice ia c.indexes.length ic, .int .i64 c.nextRule] 45 (0, 0)) from fun w' hg => by
    rw [hg.heapEq (by simp; omega), heap_alloc_old _ _ (by simp)]
    exact heap_alloc_new w _)
  clear h hc hG hk
  go_enter Tryz.func86, Tryz.ntmps86
  go_wp2_with fail
  refine (graphNode_ S B G o.from_ _ (HGR.out.grow (HW.out _ _)) HI.out).mono ?_
  rintro e w2 ⟨i, b1, rfl, hb, hg⟩
  have HB1 := Lib.hid (show b1 = hasN G o.from_ from idx_any (fun x : PNode => x.id) hb); clear hb
  have HG2 := Lib.hid ((HW.out _ _).step hg)
  have HG02 := Lib.hid hg
  obtain ⟨hlt, -, -, -, -, c4, -⟩ := ((HOP.out _).grow hg).at
  clear hg
  go_wp2_with fail
  refine (graphNode_ S B G o.to_ _ (HGR.out.grow HG2.out) HI.out).mono ?_
  rintro e w3 ⟨i3, b2, rfl, hb, hg⟩
  have HB2 := Lib.hid (show b2 = hasN G o.to_ from idx_any (fun x : PNode => x.id) hb); clear hb
  have HG3 := Lib.hid (HG2.out.step hg)
  have HG03 := Lib.hid (HG02.out.step hg)
  clear c4 hlt hg
  obtain ⟨hlt, -, -, c2, -⟩ := ((HOP.out _).grow HG03.out).at
  have hcb := HCT.out w3 HG03.out
  have hlc := blk_lt hcb
  have k0 : w3.cell? ⟨w.heap.size, 0, none⟩ = some (.slice na c.nodes.length nc) := by rw [blk_cell hcb]; rfl
  have k1 : w3.cell? ⟨w.heap.size, 1, none⟩ = some (.slice ea c.edges.length ec) := by rw [blk_cell hcb]; rfl
  have k2 : w3.cell? ⟨w.heap.size, 2, none⟩ = some (.slice ra c.rules.length rc) := by rw [blk_cell hcb]; rfl
  have k3 : w3.cell? ⟨w.heap.size, 3, none⟩ = some (.slice ia c.indexes.length ic) := by rw [blk_cell hcb]; rfl
  have k4 : w3.cell? ⟨w.heap.size, 4, none⟩ = some (.int .i64 c.nextRule) := by rw [blk_cell hcb]; rfl
  clear hcb
  go_wp2_with fail
  refine (schemaHas SC _ _ _ _ c 2 o.typ _ (HC.out.grow HG3.out)).mono ?_
  rintro e w4 ⟨rfl, hw4⟩
  have HG4 := Lib.hid (HG3.out.step hw4)
  clear hw4 k0 k1 k2 k3 k4 c2 hlt hlc
  cases hm : memS o.typ (c.typesOf 2)
  · have H1 := Lib.hid hm; clear hm
    go_wp2
    go_ret
    exact ⟨by rw [HM.out, if_pos H1.out]; rfl, HG4.out⟩
  · have H1 := Lib.hid hm; clear hm
    cases b1
    · go_wp2
      go_ret
      exact ⟨by rw [HM.out, if_neg (by rw [H1.out]; simp), if_pos (.inl HB1.out.symm)]; rfl, HG4.out⟩
    · cases b2
      · go_wp2
        go_ret
        exact ⟨by rw [HM.out, if_neg (by rw [H1.out]; simp), if_pos (.inr HB2.out.symm)]; rfl, HG4.out⟩
      · go_wp2_with fail
        refine (graphFull S B G _ (HGR.out.grow HG4.out) HI.out.items).mono ?_
        rintro e w5 ⟨rfl, hw5⟩
        have HG5 := Lib.hid (HG4.out.step hw5); clear hw5
        cases hf : fullG G
        all_goals
          have H2 := Lib.hid hf; clear hf
          go_wp2
          go_ret
          refine ⟨?_, HG5.out⟩
          rw [HM.out, if_neg (by rw [H1.out]; simp), if_neg (by rw [← HB1.out, ← HB2.out]; simp), H2.out]
          rfl

set_option maxRecDepth 100000 in
set_option maxHeartbeats 2000000 in
theorem mayDropEdge (S SC : Nat → Prop) (B : Nat) (G : PGraph) (nv ev rv iv : Value) (c : PCat) (o : POp) (w : World) (h : GraphOk 101 S w B G) (hG : GInv G) (hc : CatR SC w nv ev rv iv c) (hk : o.kind = 4) :
    Calls Tryz.prog 88 #[.pointer (some ⟨B, 0, none⟩), c.arg nv ev rv iv, o.args] w fun e w' => e = .returned (.int .i64 (mayG c o G)) ∧ Grow w w' := by
  have HGR := Lib.hid h; have HI := Lib.hid hG
  have HM := Lib.hid (show mayG c o G = (if hasE G o.id = false then 60 else 0) by unfold mayG; rw [if_neg (by omega), if_neg (by omega), if_neg (by omega), if_pos hk])
  obtain ⟨na, nc, ea, ec, ra, rc, ia, ic, rfl, rfl, rfl, rfl⟩ := hc.slices
  have HW := Lib.hid (show ∀ o1 o2, Grow w ((w.alloc o1).alloc o2) from fun o1 o2 => ((Grow.rfl' w).allocd o1).allocd o2)
  clear h hc hG hk
  go_enter Tryz.func88, Tryz.ntmps88
  go_wp2_with fail
  refine (graphEdge_ S B G o.id _ (HGR.out.grow (HW.out _ _)) HI.out).mono ?_
  rintro e w2 ⟨i, b, rfl, hb, hg⟩
  have HB := Lib.hid (show b = hasE G o.id from idx_any (fun x : PEdge => x.id) hb); clear hb
  have HG2 := Lib.hid ((HW.out _ _).step hg)
  clear hg
  cases b
  all_goals
    go_wp2
    go_ret
    exact ⟨by rw [HM.out, ← HB.out]; rfl, HG2.out⟩
end Go.Hg
