/- slices.Insert at []api.Prop, one value. Condition: at most 2^40 elements. -/
import Derived.Test.YtcokiflkjnekeaaGreatBOps
import Derived.Test.YtcokiflkjnekeaaGreatDeep
import Derived.Test.YtcokiflkjnekeaaGreatKeepC
import Derived.Lib.Overlaps
namespace Go.Hg
open Go.RowKit Go.Proofs

theorem sizeProp (w : World) : (Go.sizeOf 101).run Tryz.prog w = .ok 4 w := by kernel_rfl

theorem ins_take {α : Type} (cur xs xc : List α) (i n cap : Nat) (h1 : cur.length = cap * 4) (h2 : cur.take (n * 4) = xs) (h3 : i < n) (h4 : n + 1 ≤ cap) (h5 : xc.length = 4) (cur1 cur2 : List α)
    (e1 : cur1 = cur.take ((i + 1) * 4) ++ xs.drop (i * 4) ++ cur.drop ((i + 1) * 4 + (xs.drop (i * 4)).length)) (e2 : cur2 = cur1.take (i * 4) ++ xc ++ cur1.drop (i * 4 + xc.length)) :
    cur1.length = cap * 4 ∧ cur2.length = cap * 4 ∧ cur2.take ((n + 1) * 4) = xs.take (i * 4) ++ xc ++ xs.drop (i * 4) := by
  have hxs : xs.length = n * 4 := by rw [← h2, List.length_take]; omega
  have hA : (cur.take ((i + 1) * 4)).length = (i + 1) * 4 := by rw [List.length_take]; omega
  have hB : (xs.drop (i * 4)).length = (n - i) * 4 := by rw [List.length_drop]; omega
  have l1 : cur1.length = cap * 4 := by
    rw [e1, List.length_append, List.length_append, hA, hB, List.length_drop, h1]; omega
  have t1 : cur1.take (i * 4) = xs.take (i * 4) := by
    rw [e1, List.append_assoc, List.take_append_of_le_length (by omega), List.take_take, ← h2, List.take_take]
    congr 1
    omega
  have d1 : cur1.drop (i * 4 + xc.length) = xs.drop (i * 4) ++ cur.drop ((i + 1) * 4 + (xs.drop (i * 4)).length) := by
    rw [e1, List.append_assoc, h5]
    have : i * 4 + 4 = (cur.take ((i + 1) * 4)).length := by omega
    rw [this, List.drop_left]
  have e3 : cur2 = (xs.take (i * 4) ++ xc ++ xs.drop (i * 4)) ++ cur.drop ((i + 1) * 4 + (xs.drop (i * 4)).length) := by
    rw [e2, t1, d1]; simp [List.append_assoc]
  have l3 : (xs.take (i * 4) ++ xc ++ xs.drop (i * 4)).length = (n + 1) * 4 := by
    rw [List.length_append, List.length_append, List.length_take, hB]; omega
  refine ⟨l1, ?_, ?_⟩
  · rw [e3, List.length_append, l3, List.length_drop, h1, hB]; omega
  · rw [e3, ← l3, List.take_left]

theorem ins_grow {α : Type} (cur0 xs xc : List α) (i n cap : Nat) (h1 : cur0.length = cap * 4) (h2 : cur0.take (i * 4) = xs.take (i * 4)) (hx : xs.length = n * 4) (h3 : i < n) (h4 : n + 1 ≤ cap) (h5 : xc.length = 4) (cur1 cur2 : List α)
    (e1 : cur1 = cur0.take (i * 4) ++ xc ++ cur0.drop (i * 4 + xc.length)) (e2 : cur2 = cur1.take ((i + 1) * 4) ++ xs.drop (i * 4) ++ cur1.drop ((i + 1) * 4 + (xs.drop (i * 4)).length)) :
    cur1.length = cap * 4 ∧ cur2.length = cap * 4 ∧ cur2.take ((n + 1) * 4) = xs.take (i * 4) ++ xc ++ xs.drop (i * 4) := by
  have hA : (cur0.take (i * 4)).length = i * 4 := by rw [List.length_take]; omega
  have hB : (xs.drop (i * 4)).length = (n - i) * 4 := by rw [List.length_drop]; omega
  have l1 : cur1.length = cap * 4 := by
    rw [e1, List.length_append, List.length_append, hA, h5, List.length_drop, h1]; omega
  have t1 : cur1.take ((i + 1) * 4) = xs.take (i * 4) ++ xc := by
    rw [e1, ← h2]
    have : (i + 1) * 4 = (cur0.take (i * 4) ++ xc).length := by rw [List.length_append, hA, h5]; omega
    rw [this, List.take_left]
  have l3 : (xs.take (i * 4) ++ xc ++ xs.drop (i * 4)).length = (n + 1) * 4 := by
    rw [List.length_append, List.length_append, List.length_take, hB]; omega
  rw [t1] at e2
  refine ⟨l1, ?_, ?_⟩
  · rw [e2, List.length_append, l3, List.length_drop, l1, hB]; omega
  · rw [e2, ← l3, List.take_left]

set_option maxRecDepth 100000 in
set_option maxHeartbeats 2000000 in
theorem insertProp (v : Value) (n : Nat) (xs xc : List Value) (ob : Option Nat) (vb i : Nat) (w : World) (hown : OwnS w 101 4 v n xs ob) (hn : n ≤ 1099511627776)
    (hvb : w.heap[vb]? = some (.cells xc.toArray 101 (0, 0))) (hxl : xc.length = 4) (hne : ob ≠ some vb) (hi : i ≤ n) (h1x : ∀ u ∈ xs, u.oneCell' = true) (h1c : ∀ u ∈ xc, u.oneCell' = true) :
    Calls Tryz.prog 98 #[v, .int .i64 i, .slice (some ⟨vb, 0, none⟩) 1 1] w fun e w' =>
      ∃ v' ob', e = .returned v' ∧ OwnS w' 101 4 v' (n + 1) (xs.take (i * 4) ++ xc ++ xs.drop (i * 4)) ob' ∧ Mod (fun k => ob = some k) w w' ∧ (ob' = ob ∨ ∃ g, ob' = some g ∧ w.heap.size ≤ g) := by
  obtain ⟨iP, hiP, hzP0, hzP1, hzP2⟩ := info_parts infoProp
  have hrd : Rd w 4 (.slice (some ⟨vb, 0, none⟩) 1 1) 1 xc := ⟨by omega, _, _, rfl, .inr ⟨_, rfl, fun j u hu => by
    have hadd : (⟨vb, 0, none⟩ : Addr).add j = ⟨vb, j, none⟩ := by unfold Addr.add; split <;> simp_all
    rw [hadd, blk_cell hvb]; simpa using hu⟩⟩
  have HN := Lib.hid hn; have HOWN := Lib.hid hown; have HRD := Lib.hid hrd; have HVB := Lib.hid hvb; have HXL := Lib.hid hxl; have H1X := Lib.hid h1x; have H1C := Lib.hid h1c; have HNE := Lib.hid hne
  have hxsl := hown.1
  have HXS := Lib.hid hxsl
  obtain ⟨oa, cap, rfl, hcap, hcm⟩ := hown.isSlice
  unfold maxLen at hcm
  clear hn hown hrd hvb hxl h1x h1c hne hxsl
  by_cases hin : i = n
  · subst hin
    by_cases hce : cap = i
    all_goals
      go_enter Tryz.func98, Tryz.ntmps98
      go_wp2_with (at_builtin; go_must (refine wpList_append_S _ rfl (.tmp 23) (.tmp 24) 57 rfl 101 iP _ 4 48 Tryz.underlying57 hiP hzP0 hzP1 hzP2 rfl (by decide) (.slice oa i _) i xs ob rfl HOWN.out (.slice (some ⟨vb, 0, none⟩) 1 1) rfl 1 xc HRD.out H1C.out (by have := HN.out; unfold maxLen; omega) (by have := HN.out; omega) ?_))
      intro v' w' ob' h1 h2 h3
      have H1 := Lib.hid h1; have H2 := Lib.hid h2; have H3 := Lib.hid h3; clear h1 h2 h3
      go_wp2_with fail
      go_ret
      refine ⟨v', ob', rfl, ?_, H2.out, H3.out⟩
      have h4 := HXS.out
      rw [List.take_of_length_le (by omega), List.drop_of_length_le (by omega), List.append_nil]
      exact H1.out
  · have hlt : i < n := by omega
    obtain ⟨g, cap', cur, hv, hob, hblk, h1, h2, hcs, htake⟩ : ∃ g cap' cur, Value.slice oa n cap = .slice (some ⟨g, 0, none⟩) n cap' ∧ ob = some g ∧ w.heap[g]? = some (.cells cur 101 (0, 0)) ∧ n ≤ cap' ∧ cap' ≤ maxLen ∧ cur.size = cap' * 4 ∧ cur.toList.take (n * 4) = xs := by
      rcases HOWN.out.2 with ⟨_, _, h, _⟩ | h
      · omega
      · exact h
    simp only [Value.slice.injEq, true_and] at hv
    obtain ⟨rfl, rfl⟩ := hv
    subst hob
    have HBLK := Lib.hid hblk; have HCS := Lib.hid hcs; have HTK := Lib.hid htake
    clear hblk hcs htake h1 h2
    have hnb : n ≤ 2 ^ 62 := by have := HN.out; omega
    have hTP : Tryz.prog.underlying 57 = some (.slice 101) := Tryz.underlying57
    by_cases hroom : n + 1 ≤ cap
    · have hbv : vb < w.heap.size := blk_lt HVB.out
      have hgv : vb ≠ g := fun e => HNE.out (by rw [e])
      have hov : ∀ lb cb, (callFunc 100 #[.slice (some ⟨vb, 0, none⟩) 1 1, .slice (some ⟨g, (i + 1) * 4, none⟩) lb cb]).run Tryz.prog w = .ok (.value (.bool false)) w := fun lb cb => by
        rw [run_callFunc_extern Tryz.func100 (by kernel_rfl) (by kernel_rfl) (by kernel_rfl) (e := Extern.SlicesOverlaps.overlaps #[57, 57] #[4]) (by kernel_rfl),
          Lib.run_overlaps_apart w 57 4 101 hTP 4 sizeProp ⟨vb, 0, none⟩ ⟨g, (i + 1) * 4, none⟩ 1 1 lb cb hgv 101 101 4 cur.size (by simp [World.shape?, HVB.out, HXL.out]) (by simp [World.shape?, HBLK.out]) (by have := HCS.out; omega) (blk_free HVB.out 0) (blk_free HVB.out 4)]
        rfl
      have hxl4 : (xs.drop (i * 4)).length = (n - i) * 4 := by rw [List.length_drop, HXS.out]; omega
      have hcp1 : ∀ ty dc sc, (Builtin.copy_ #[57, 57] ty #[.slice (some ⟨g, (i + 1) * 4, none⟩) (n - i) dc, .slice (some ⟨g, i * 4, none⟩) (n + 1 - i) sc]).run Tryz.prog w.drew = .ok (goInt ((n - i : Nat) : Int)) (w.drew.setRow g (cur.toList.take ((i + 1) * 4) ++ xs.drop (i * 4) ++ cur.toList.drop ((i + 1) * 4 + (xs.drop (i * 4)).length)).toArray) := fun ty dc sc =>
        run_copy_row w.drew 57 57 ty 101 iP hTP hiP g ((i + 1) * 4) cur 101 HBLK.out (n - i) dc (some ⟨g, i * 4, none⟩) (n + 1 - i) sc (n - i) (by simp only [Nat.min_def]; split <;> omega) (xs.drop (i * 4)) (by rw [hzP1]; exact hxl4)
          (.inr ⟨_, rfl, fun j u hu => by
            rw [Addr.add_lit]
            show w.cell? _ = _
            rw [blk_cell HBLK.out, ← Array.getElem?_toList]
            rw [← HTK.out, List.getElem?_drop, List.getElem?_take] at hu
            split at hu
            · exact hu
            · cases hu⟩) (by rw [hxl4, HCS.out]; omega) (fun u hu => H1X.out u (List.mem_of_mem_drop hu))
      obtain ⟨cur1, hcur1⟩ : ∃ c, c = cur.toList.take ((i + 1) * 4) ++ xs.drop (i * 4) ++ cur.toList.drop ((i + 1) * 4 + (xs.drop (i * 4)).length) := ⟨_, rfl⟩
      obtain ⟨cur2, hcur2⟩ : ∃ c, c = cur1.take (i * 4) ++ xc ++ cur1.drop (i * 4 + xc.length) := ⟨_, rfl⟩
      rw [← hcur1] at hcp1
      obtain ⟨hl1, hl2, htk2⟩ := ins_take cur.toList xs xc i n cap (by simpa using HCS.out) HTK.out hlt hroom HXL.out cur1 cur2 hcur1 hcur2
      have hb1 : (w.drew.setRow g cur1.toArray).heap[g]? = some (.cells cur1.toArray 101 (0, 0)) := setRow_heap w.drew g cur _ 101 (0, 0) HBLK.out
      have hb2 : ((w.drew.setRow g cur1.toArray).setRow g cur2.toArray).heap[g]? = some (.cells cur2.toArray 101 (0, 0)) := setRow_heap _ g _ _ 101 (0, 0) hb1
      have hvb1 : (w.drew.setRow g cur1.toArray).heap[vb]? = some (.cells xc.toArray 101 (0, 0)) := by rw [setRow_other _ _ _ _ hgv]; exact HVB.out
      have hcp2 : ∀ ty dc, (Builtin.copy_ #[57, 57] ty #[.slice (some ⟨g, i * 4, none⟩) (n + 1 - i) dc, .slice (some ⟨vb, 0, none⟩) 1 1]).run Tryz.prog (w.drew.setRow g cur1.toArray) = .ok (goInt ((1 : Nat) : Int)) ((w.drew.setRow g cur1.toArray).setRow g cur2.toArray) := fun ty dc => by
        have h := run_copy_row (P := Tryz.prog) (w.drew.setRow g cur1.toArray) 57 57 ty 101 iP hTP hiP g (i * 4) cur1.toArray 101 hb1 (n + 1 - i) dc (some ⟨vb, 0, none⟩) 1 1 1 (by simp only [Nat.min_def]; split <;> omega) xc (by rw [hzP1, HXL.out])
          (.inr ⟨_, rfl, fun j u hu => by rw [Addr.add_lit, blk_cell hvb1]; simpa using hu⟩) (by rw [HXL.out]; simp [hl1]; omega) H1C.out
        rw [hcur2]; simpa using h
      have hfin : OwnS ((w.drew.setRow g cur1.toArray).setRow g cur2.toArray) 101 4 (.slice (some ⟨g, 0, none⟩) (n + 1) cap) (n + 1) (xs.take (i * 4) ++ xc ++ xs.drop (i * 4)) (some g) :=
        ⟨by rw [← htk2, List.length_take, hl2]; omega, .inr ⟨g, cap, cur2.toArray, rfl, rfl, hb2, hroom, hcm, by simpa using hl2, htk2⟩⟩
      have hmod : Mod (fun k => some g = some k) w ((w.drew.setRow g cur1.toArray).setRow g cur2.toArray) :=
        ⟨rfl, rfl, rfl, by simp, fun k _ hk => by rw [setRow_other _ _ _ _ (fun e => hk (by rw [e])), setRow_other _ _ _ _ (fun e => hk (by rw [e]))]; rfl⟩
      have HFIN := Lib.hid hfin; have HMOD := Lib.hid hmod
      clear hfin hmod hb1 hb2 hvb1 hl1 hl2 htk2 hcur1 hcur2 hxl4
      have hcge : ¬ cap = i := by omega
      have hcge2 : ¬ cap = i + 1 := by omega
      have hw1 : IntKind.i64.wrap ((i : Int) + 1) = (i : Int) + 1 := by rw [IntKind.wrap_i64]; omega
      have hq1 : (0 : Int) ≤ (i : Int) + 1 := by omega
      have hq2 : (i : Int) + 1 ≤ (n : Int) + 1 := by omega
      have hq3 : ((i : Int) + 1).toNat = i + 1 := by omega
      have hq4 : (i : Int) ≤ (n : Int) + 1 := by omega
      go_enter Tryz.func98, Tryz.ntmps98
      go_wp2_with (simp only [hov])
      go_region_law (refine step_run rfl (exec_copy _ _ _ 57 57 rfl (by simp [Act.eval, Act.put]) (by simp [Act.eval, Act.put]) (fun ty => hcp1 ty _ _)) ?_)
      go_wp2_with (at_builtin; refine wpList_run _ rfl (exec_copy _ _ _ 57 57 rfl rfl rfl (fun ty => hcp2 ty _)) ?_)
      go_ret
      exact ⟨_, _, rfl, HFIN.out, HMOD.out, .inl rfl⟩
    · have hcn : cap = n := by omega
      subst hcn
      have hbv : vb < w.heap.size := blk_lt HVB.out
      have hbg : g < w.heap.size := blk_lt HBLK.out
      have hxt : (xs.take (i * 4)).length = i * 4 := by rw [List.length_take, HXS.out]; omega
      have hap0 := fun ty => run_append_zeros (P := Tryz.prog) w 57 3 ty 101 iP _ .i64 .i64 hTP Tryz.underlying3 hiP hzP0 ⟨g, 0, none⟩ i cap (cap + 1 - i) (xs.take (i * 4)) (by rw [hzP1]; exact hxt) (fun j u hu => by
          rw [Addr.add_lit, Nat.zero_add, blk_cell HBLK.out, ← Array.getElem?_toList]
          rw [← HTK.out, List.take_take, List.getElem?_take] at hu
          split at hu
          · exact hu
          · cases hu) (by omega) (by rw [hzP1]; omega) (by omega) (by omega) (by rw [hzP2]; have := HN.out; omega) (by rw [hzP2]; exact growslice_fits (by omega) (by have := HN.out; omega))
      rw [show i + (cap + 1 - i) = cap + 1 by omega, show (((cap + 1 - i : Nat) : Int)) = (cap : Int) + 1 - (i : Int) by omega] at hap0
      have hge := grownCap_ge w (cap + 1) cap 101
      have hgm := grownCap_le_maxLen w (cap + 1) cap 101 (by have := HN.out; unfold maxLen; omega)
      generalize grownCap w (cap + 1) cap 101 = gc at *
      obtain ⟨cur0, hcur0⟩ : ∃ c, c = (xs.take (i * 4)).toArray ++ Builtin.zeroCells (Value.agg #[.string ByteArray.empty, .int .i64 0, .int .i64 0, .string ByteArray.empty]).cells (cap + 1 - i) ++ Builtin.zeroCells (Value.agg #[.string ByteArray.empty, .int .i64 0, .int .i64 0, .string ByteArray.empty]).cells (gc - (cap + 1)) := ⟨_, rfl⟩
      rw [← hcur0] at hap0
      have hsz0 : cur0.toList.length = gc * 4 := by
        have : (Value.agg #[.string ByteArray.empty, .int .i64 0, .int .i64 0, .string ByteArray.empty]).cells.size = 4 := rfl
        rw [hcur0]
        simp only [Array.length_toList, Array.size_append, List.size_toArray, size_zeroCells, this, hxt]
        omega
      have htk0 : cur0.toList.take (i * 4) = xs.take (i * 4) := by
        rw [hcur0]
        simp only [Array.toList_append, List.append_assoc]
        have h := List.take_left (l₁ := xs.take (i * 4)) (l₂ := (Builtin.zeroCells (Value.agg #[.string ByteArray.empty, .int .i64 0, .int .i64 0, .string ByteArray.empty]).cells (cap + 1 - i)).toList ++ (Builtin.zeroCells (Value.agg #[.string ByteArray.empty, .int .i64 0, .int .i64 0, .string ByteArray.empty]).cells (gc - (cap + 1))).toList)
        rw [hxt] at h
        exact h
      clear hcur0
      obtain ⟨W1, hW1⟩ : ∃ W1, W1 = w.drew.alloc (.cells cur0 101) := ⟨_, rfl⟩
      rw [← hW1] at hap0
      have hg1 : Grow w W1 := by rw [hW1]; exact ((Grow.rfl' w).drewd).allocd _
      have hb0 : W1.heap[w.heap.size]? = some (.cells cur0 101 (0, 0)) := by rw [hW1]; exact heap_alloc_new w.drew _
      clear hW1
      obtain ⟨cur1, hcur1⟩ : ∃ c, c = cur0.toList.take (i * 4) ++ xc ++ cur0.toList.drop (i * 4 + xc.length) := ⟨_, rfl⟩
      obtain ⟨cur2, hcur2⟩ : ∃ c, c = cur1.take ((i + 1) * 4) ++ xs.drop (i * 4) ++ cur1.drop ((i + 1) * 4 + (xs.drop (i * 4)).length) := ⟨_, rfl⟩
      obtain ⟨hl1, hl2, htk2⟩ := ins_grow cur0.toList xs xc i cap gc hsz0 htk0 HXS.out hlt hge HXL.out cur1 cur2 hcur1 hcur2
      have hxl4 : (xs.drop (i * 4)).length = (cap - i) * 4 := by rw [List.length_drop, HXS.out]; omega
      have hcp1 : ∀ ty dc, (Builtin.copy_ #[57, 57] ty #[.slice (some ⟨w.heap.size, i * 4, none⟩) (cap + 1 - i) dc, .slice (some ⟨vb, 0, none⟩) 1 1]).run Tryz.prog W1 = .ok (goInt ((1 : Nat) : Int)) (W1.setRow w.heap.size cur1.toArray) := fun ty dc => by
        have h := run_copy_row (P := Tryz.prog) W1 57 57 ty 101 iP hTP hiP w.heap.size (i * 4) cur0 101 hb0 (cap + 1 - i) dc (some ⟨vb, 0, none⟩) 1 1 1 (by simp only [Nat.min_def]; split <;> omega) xc (by rw [hzP1, HXL.out])
          (.inr ⟨_, rfl, fun j u hu => by rw [Addr.add_lit, blk_cell ((hg1.heapEq hbv).trans HVB.out)]; simpa using hu⟩) (by rw [HXL.out, ← Array.length_toList, hsz0]; omega) H1C.out
        rw [hcur1]; exact h
      have hb1 : (W1.setRow w.heap.size cur1.toArray).heap[w.heap.size]? = some (.cells cur1.toArray 101 (0, 0)) := setRow_heap W1 w.heap.size cur0 _ 101 (0, 0) hb0
      have hgb1 : (W1.setRow w.heap.size cur1.toArray).heap[g]? = some (.cells cur 101 (0, 0)) := by rw [setRow_other _ _ _ _ (by omega)]; exact (hg1.heapEq hbg).trans HBLK.out
      have hcp2 : ∀ ty dc sc, (Builtin.copy_ #[57, 57] ty #[.slice (some ⟨w.heap.size, (i + 1) * 4, none⟩) (cap - i) dc, .slice (some ⟨g, i * 4, none⟩) (cap - i) sc]).run Tryz.prog (W1.setRow w.heap.size cur1.toArray).drew = .ok (goInt ((cap - i : Nat) : Int)) ((W1.setRow w.heap.size cur1.toArray).drew.setRow w.heap.size cur2.toArray) := fun ty dc sc => by
        have h := run_copy_row (P := Tryz.prog) (W1.setRow w.heap.size cur1.toArray).drew 57 57 ty 101 iP hTP hiP w.heap.size ((i + 1) * 4) cur1.toArray 101 hb1 (cap - i) dc (some ⟨g, i * 4, none⟩) (cap - i) sc (cap - i) (by simp) (xs.drop (i * 4)) (by rw [hzP1]; exact hxl4)
          (.inr ⟨_, rfl, fun j u hu => by
            rw [Addr.add_lit]
            show (W1.setRow w.heap.size cur1.toArray).cell? _ = _
            rw [blk_cell hgb1, ← Array.getElem?_toList]
            rw [← HTK.out, List.getElem?_drop, List.getElem?_take] at hu
            split at hu
            · exact hu
            · cases hu⟩) (by rw [hxl4]; simp [hl1]; omega) (fun u hu => H1X.out u (List.mem_of_mem_drop hu))
        rw [hcur2]; simpa using h
      obtain ⟨W2, hW2⟩ : ∃ W2, W2 = W1.setRow w.heap.size cur1.toArray := ⟨_, rfl⟩
      rw [← hW2] at hcp1 hcp2
      have hg2 : Grow w W2 := by
        rw [hW2]
        exact ⟨hg1.os, hg1.tape, hg1.output, by simpa using hg1.size, fun k hk => by rw [setRow_other _ _ _ _ (by omega)]; exact hg1.heapEq hk⟩
      have hb2 : (W2.drew.setRow w.heap.size cur2.toArray).heap[w.heap.size]? = some (.cells cur2.toArray 101 (0, 0)) := setRow_heap _ _ cur1.toArray _ 101 (0, 0) (by rw [hW2]; exact hb1)
      have hfin : OwnS (W2.drew.setRow w.heap.size cur2.toArray) 101 4 (.slice (some ⟨w.heap.size, 0, none⟩) (cap + 1) gc) (cap + 1) (xs.take (i * 4) ++ xc ++ xs.drop (i * 4)) (some w.heap.size) :=
        ⟨by rw [← htk2, List.length_take, hl2]; omega, .inr ⟨w.heap.size, gc, cur2.toArray, rfl, rfl, hb2, hge, hgm, by simpa using hl2, htk2⟩⟩
      have hmod : Mod (fun k => some g = some k) w (W2.drew.setRow w.heap.size cur2.toArray) :=
        ⟨hg2.os, hg2.tape, hg2.output, by simpa using hg2.size, fun k hk _ => by rw [setRow_other _ _ _ _ (by omega)]; exact hg2.heapEq hk⟩
      have HFIN := Lib.hid hfin; have HMOD := Lib.hid hmod
      clear hfin hmod hb0 hb1 hb2 hgb1 hl1 hl2 htk2 hcur1 hcur2 hxl4 hsz0 htk0 hg1 hg2 hW2 hxt
      have hw1 : IntKind.i64.wrap ((i : Int) + 1) = (i : Int) + 1 := by rw [IntKind.wrap_i64]; omega
      have hq1 : (0 : Int) ≤ (i : Int) + 1 := by omega
      have hq2 : (i : Int) + 1 ≤ (cap : Int) + 1 := by omega
      have hq3 : ((i : Int) + 1).toNat = i + 1 := by omega
      have hq4 : (i : Int) ≤ (cap : Int) := by omega
      have hr1 : ¬ gc = i := by omega
      have hr2 : ¬ gc = i + 1 := by omega
      have hr3 : ¬ cap = i := by omega
      unfold maxLen at hgm
      go_enter Tryz.func98, Tryz.ntmps98
      go_wp2_with (at_builtin; go_must (refine wpList_run _ rfl (exec_append _ (.tmp 34) (.tmp 39) 57 3 rfl rfl rfl hap0) ?_))
      go_wp2_with (at_builtin; go_must (refine wpList_run _ rfl (exec_copy _ (.tmp 43) (.tmp 44) 57 57 rfl rfl rfl (fun ty => hcp1 ty _)) ?_))
      go_region_law (refine step_run rfl (exec_copy _ (.tmp 50) (.tmp 53) 57 57 rfl (by simp [Act.eval, Act.put]) (by simp [Act.eval, Act.put]) (fun ty => hcp2 ty _ _)) ?_)
      go_wp2_with fail
      go_ret
      exact ⟨_, _, rfl, HFIN.out, HMOD.out, .inr ⟨_, rfl, Nat.le_refl _⟩⟩
end Go.Hg
