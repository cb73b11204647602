/- val.Set: properties with one of them set. Condition: at most 2^30 properties. -/
import Derived.Test.YtcokiflkjnekeaaGreatSetA
import Derived.Test.YtcokiflkjnekeaaGreatInsert
namespace Go.Hg
open Go.RowKit Go.Proofs

theorem flat_snoc (o : List PProp) (p : PProp) : ((o ++ [p]).map PProp.cells).flatten = (o.map PProp.cells).flatten ++ p.cells := by simp
theorem flat_len (o : List PProp) : (o.map PProp.cells).flatten.length = o.length * 4 := by
  simp [List.length_flatten, Function.comp_def, List.map_const', List.sum_replicate_nat]
theorem flat_take (o : List PProp) (k : Nat) (hk : k ≤ o.length) : (o.map PProp.cells).flatten.take (k * 4) = ((o.take k).map PProp.cells).flatten ∧ (o.map PProp.cells).flatten.drop (k * 4) = ((o.drop k).map PProp.cells).flatten := by
  have e : (o.map PProp.cells).flatten = ((o.take k).map PProp.cells).flatten ++ ((o.drop k).map PProp.cells).flatten := by
    rw [← List.flatten_append, ← List.map_append, List.take_append_drop]
  have hl : ((o.take k).map PProp.cells).flatten.length = k * 4 := by rw [flat_len, List.length_take]; congr 1; omega
  rw [e, ← hl]
  exact ⟨List.take_left, List.drop_left⟩
/-- properties in a row that is one's own -/
abbrev PropsO (w : World) (v : Value) (ps : List PProp) (ob : Option Nat) : Prop := OwnS w 101 4 v ps.length (ps.map PProp.cells).flatten ob

set_option maxRecDepth 100000 in
set_option maxHeartbeats 2000000 in
theorem valSet (S : Nat → Prop) (v : Value) (l : List PProp) (name : ByteArray) (x : PVal) (w : World) (hl : PropsR S w v l) (hb : l.length ≤ 1073741824) :
    Calls Tryz.prog 85 #[v, .string name, .agg #[.int .i64 x.kind, .int .i64 x.n, .string x.s]] w fun e w' =>
      ∃ v', e = .returned v' ∧ PropsR (fun b => w.heap.size ≤ b) w' v' (setP l name x) ∧ Grow w w' := by
  obtain ⟨aa, ca, rfl, hal, hac, hA⟩ := SlR.open hl
  clear hl
  unfold maxLen at hac
  have HA := Lib.hid hA; clear hA
  have HB := Lib.hid hb; clear hb
  obtain ⟨iP, hiP, hzP0, hzP1, hzP2⟩ := info_parts infoProp
  -- the two boxes
  have hbx : ∀ w', Grow ((w.alloc (.cells #[.string name] 9)).alloc (.cells #[.int .i64 x.kind, .int .i64 x.n, .string x.s] 39)) w' →
      w'.heap[w.heap.size]? = some (.cells #[.string name] 9 (0, 0)) ∧ w'.heap[w.heap.size + 1]? = some (.cells #[.int .i64 x.kind, .int .i64 x.n, .string x.s] 39 (0, 0)) := by
    intro w' hg
    refine ⟨?_, ?_⟩
    · rw [hg.heapEq (by simp; omega), Below.heap_alloc _ _ _ (by simp)]
      exact heap_alloc_new w _
    · rw [hg.heapEq (by simp)]
      have := heap_alloc_new (w.alloc (.cells #[.string name] 9)) (.cells #[.int .i64 x.kind, .int .i64 x.n, .string x.s] 39)
      simpa using this
  have HBX := Lib.hid hbx; clear hbx
  have hg0 : Grow w ((w.alloc (.cells #[.string name] 9)).alloc (.cells #[.int .i64 x.kind, .int .i64 x.n, .string x.s] 39)) := ((Grow.rfl' w).allocd _).allocd _
  have HG0 := Lib.hid hg0
  have hs0 : ((w.alloc (.cells #[.string name] 9)).alloc (.cells #[.int .i64 x.kind, .int .i64 x.n, .string x.s] 39)).heap.size = w.heap.size + 2 := by simp
  have HS0 := Lib.hid hs0
  clear hg0 hs0
  go_enter Tryz.func85, Tryz.ntmps85
  go_wp2
  generalize (w.alloc (.cells #[.string name] 9)).alloc (.cells #[.int .i64 x.kind, .int .i64 x.n, .string x.s] 39) = W0 at *
  go_loopg [7, 13] l.length (fun g vo i wr => ∃ (k : Nat) (ob : Option Nat), k ≤ l.length ∧ g = l.length - k ∧ i = .int .i64 k ∧ PropsO wr vo (fil (l.take k) name) ob ∧ (∀ b, ob = some b → W0.heap.size ≤ b) ∧ Grow W0 wr)
  case atStart => exact ⟨0, none, by omega, by omega, rfl, OwnS.nil _ _ _, by simp, Grow.rfl' W0⟩
  case round =>
    obtain ⟨k, ob, hk, rfl, rfl, hown, hob, hgr⟩ := hrel
    have hgw : Grow w wr := HG0.out.step hgr
    have HGW := Lib.hid hgw; have HGR := Lib.hid hgr; have HOB := Lib.hid hob; have HOWN := Lib.hid hown
    obtain ⟨hn0, hv0⟩ := HBX.out wr hgr
    have hnb : w.heap.size < wr.heap.size := by have := hgr.size; have := HS0.out; omega
    have hvb : w.heap.size + 1 < wr.heap.size := by have := hgr.size; have := HS0.out; omega
    have n0 : wr.cell? ⟨w.heap.size, 0, none⟩ = some (.string name) := by rw [blk_cell hn0]; rfl
    have v0 : wr.cell? ⟨w.heap.size + 1, 0, none⟩ = some (.int .i64 x.kind) := by rw [blk_cell hv0]; rfl
    have v1 : wr.cell? ⟨w.heap.size + 1, 1, none⟩ = some (.int .i64 x.n) := by rw [blk_cell hv0]; rfl
    have v2 : wr.cell? ⟨w.heap.size + 1, 2, none⟩ = some (.string x.s) := by rw [blk_cell hv0]; rfl
    obtain ⟨oo, co, rfl, -, -⟩ := hown.isSlice
    clear hn0 hv0 hown hob hgr
    by_cases hkl : k < l.length
    · obtain ⟨ba, oa, ra, rfl, hSa, hba, hRa, hca⟩ := HA.out k l[k] (List.getElem?_eq_getElem hkl)
      obtain ⟨hba', a0, a1, a2, a3⟩ := hRa.at hba hgw hca
      clear hca hRa hSa hba hgw
      have HT := Lib.hid (show l.take (k + 1) = l.take k ++ [l[k]] from List.take_succ_eq_append_getElem hkl)
      generalize l[k] = p at *
      have hba1 : ba < wr.heap.size + 1 := by omega
      cases hn : decide (p.name = name)
      · have hW : Grow wr ((wr.alloc (.cells #[.string p.name, .int .i64 p.v.kind, .int .i64 p.v.n, .string p.v.s] 101)).alloc (.cells #[.string p.name, .int .i64 p.v.kind, .int .i64 p.v.n, .string p.v.s] 101)) := ((Grow.rfl' wr).allocd _).allocd _
        have hrd := Rd.lit (wr.alloc (.cells #[.string p.name, .int .i64 p.v.kind, .int .i64 p.v.n, .string p.v.s] 101)) #[.string p.name, .int .i64 p.v.kind, .int .i64 p.v.n, .string p.v.s] 101 4 1 rfl
        simp only [World.size_alloc] at hrd
        have HW := Lib.hid hW; have HRD := Lib.hid hrd
        clear hW hrd
        go_wp2_with (at_builtin; go_must (refine wpList_append_S _ rfl (.tmp 21) (.tmp 23) 57 rfl 101 iP _ 4 48 Tryz.underlying57 hiP hzP0 hzP1 hzP2 rfl (by decide) (.slice oo (fil (l.take k) name).length co) (fil (l.take k) name).length _ ob rfl (HOWN.out.grow HW.out) (.slice (some ⟨wr.heap.size + 1, 0, none⟩) 1 1) rfl 1 _ HRD.out (by intro u hu; simp only [List.mem_cons, List.not_mem_nil, or_false] at hu; rcases hu with rfl | rfl | rfl | rfl <;> rfl) (by have := HB.out; have := fil_length (l.take k) name; have := List.length_take_le k l; unfold maxLen; omega) (by have := HB.out; have := fil_length (l.take k) name; have := List.length_take_le k l; omega) ?_))
        intro v' w5 ob' h1 h2 h3
        have hf1 : fil (l.take (k + 1)) name = fil (l.take k) name ++ [p] := by rw [HT.out, fil_snoc_ne (of_decide_eq_false hn)]
        have hown5 : PropsO w5 v' (fil (l.take (k + 1)) name) ob' := by
          unfold PropsO
          rw [hf1, flat_snoc, List.length_append]
          exact h1
        have hob5 : ∀ b, ob' = some b → W0.heap.size ≤ b := by
          have hsz := HGR.out.size
          have h0 := HOB.out
          intro b hb
          rcases h3 with h3 | ⟨g, h3, hge⟩
          · exact h0 b (by rw [← h3]; exact hb)
          · rw [h3] at hb; cases hb; omega
        have hg5 : Grow W0 w5 := (HGR.out.step HW.out).modd h2 (fun b hb => HOB.out b hb)
        have H5 := Lib.hid hown5; have HO5 := Lib.hid hob5; have HG5 := Lib.hid hg5
        clear h1 h2 h3 hf1 hown5 hob5 hg5
        go_wp2_with fail
        go_roundg (l.length - (k + 1))
        case measure => omega
        case rel => exact ⟨k + 1, ob', by omega, rfl, by go_num, H5.out, HO5.out, HG5.out⟩
      · have H5 : Hid (PropsO (wr.alloc (.cells #[.string p.name, .int .i64 p.v.kind, .int .i64 p.v.n, .string p.v.s] 101)) (.slice oo (fil (l.take k) name).length co) (fil (l.take (k + 1)) name) ob) := Lib.hid (by
          unfold PropsO
          rw [HT.out, fil_snoc_eq (of_decide_eq_true hn)]
          exact HOWN.out.grow ((Grow.rfl' wr).allocd _))
        go_wp2_with fail
        go_roundg (l.length - (k + 1))
        case measure => omega
        case rel => exact ⟨k + 1, ob, by omega, rfl, by go_num, H5.out, HOB.out, HGR.out.allocd _⟩
    · have hkk : l.take k = l := List.take_of_length_le (by omega)
      rw [hkk] at HOWN
      simp only [hkk] at *
      have HLEN := Lib.hid (fil_length l name)
      cases h0 : decide (x.kind = 0)
      · have HS := Lib.hid (show setP l name x = ins (fil l name) ⟨name, x⟩ by unfold setP; rw [if_neg (of_decide_eq_false h0)])
        have h0' : (x.kind == 0) = false := by simpa using h0
        clear h0
        have hbo : (fil l name).length ≤ 1073741824 := by have := HLEN.out; have := HB.out; omega
        have HBO := Lib.hid hbo; clear hbo HLEN
        generalize fil l name = out at *
        go_wp2_with fail
        refine (indexProp (fun b => ob = some b) _ out w.heap.size name _ HOWN.out.props n0).mono ?_
        rintro e w2 ⟨r, rfl, hidx, hg2⟩
        have hg02 : Grow W0 w2 := HGR.out.step hg2
        have hgw2 : Grow w w2 := HG0.out.step hg02
        obtain ⟨hn2, hv2⟩ := HBX.out w2 hg02
        have hnb2 : w.heap.size < w2.heap.size := by have := hg2.size; omega
        have hvb2 : w.heap.size + 1 < w2.heap.size := by have := hg2.size; omega
        have p0 : w2.cell? ⟨w.heap.size, 0, none⟩ = some (.string name) := by rw [blk_cell hn2]; rfl
        have q0 : w2.cell? ⟨w.heap.size + 1, 0, none⟩ = some (.int .i64 x.kind) := by rw [blk_cell hv2]; rfl
        have q1 : w2.cell? ⟨w.heap.size + 1, 1, none⟩ = some (.int .i64 x.n) := by rw [blk_cell hv2]; rfl
        have q2 : w2.cell? ⟨w.heap.size + 1, 2, none⟩ = some (.string x.s) := by rw [blk_cell hv2]; rfl
        have hblk := heap_alloc_new w2 (.cells #[.string name, .int .i64 x.kind, .int .i64 x.n, .string x.s] 101)
        have hgW : Grow wr (w2.alloc (.cells #[.string name, .int .i64 x.kind, .int .i64 x.n, .string x.s] 101)) := hg2.allocd _
        have hobl : ob ≠ some w2.heap.size := fun e => by have := HOWN.out.lt _ e; have := hg2.size; omega
        have hx1 : ∀ u ∈ (out.map PProp.cells).flatten, u.oneCell' = true := oneCell_props out
        have hx2 : ∀ u ∈ [Value.string name, .int .i64 x.kind, .int .i64 x.n, .string x.s], u.oneCell' = true := by
          intro u hu; simp only [List.mem_cons, List.not_mem_nil, or_false] at hu; rcases hu with rfl | rfl | rfl | rfl <;> rfl
        have hfin : ∀ (i : Nat) v' w3 (ob' : Option Nat), i ≤ out.length → out.take i = (out.takeWhile fun p => ltS p.name name) → out.drop i = (out.dropWhile fun p => ltS p.name name) →
            OwnS w3 101 4 v' (out.length + 1) ((out.map PProp.cells).flatten.take (i * 4) ++ [Value.string name, .int .i64 x.kind, .int .i64 x.n, .string x.s] ++ (out.map PProp.cells).flatten.drop (i * 4)) ob' →
            Mod (fun k => ob = some k) (w2.alloc (.cells #[.string name, .int .i64 x.kind, .int .i64 x.n, .string x.s] 101)) w3 →
            (ob' = ob ∨ ∃ g, ob' = some g ∧ (w2.alloc (.cells #[.string name, .int .i64 x.kind, .int .i64 x.n, .string x.s] 101)).heap.size ≤ g) →
            PropsR (fun b => w.heap.size ≤ b) w3 v' (setP l name x) ∧ Grow w w3 := by
          intro i v' w3 ob' hi ht hd ho hm hob'
          have hobb := HOB.out
          have hs0 := HS0.out
          obtain ⟨e1, e2⟩ := flat_take out i hi
          have hins : ins out ⟨name, x⟩ = out.take i ++ ⟨name, x⟩ :: out.drop i := by unfold ins; rw [ht, hd]
          refine ⟨?_, (hgw2.allocd _).modd hm (fun b hb => by have := hobb b hb; omega)⟩
          rw [HS.out]
          have hP : PropsO w3 v' (ins out ⟨name, x⟩) ob' := by
            unfold PropsO
            have hl : (ins out ⟨name, x⟩).length = out.length + 1 := by rw [hins, List.length_append, List.length_cons, List.length_take, List.length_drop]; omega
            rw [hl, hins]
            have e3 : ((out.take i ++ ⟨name, x⟩ :: out.drop i).map PProp.cells).flatten = (out.map PProp.cells).flatten.take (i * 4) ++ [Value.string name, .int .i64 x.kind, .int .i64 x.n, .string x.s] ++ (out.map PProp.cells).flatten.drop (i * 4) := by
              rw [e1, e2]; simp [PProp.cells]
            rw [e3]; exact ho
          refine PropsR.sub hP.props (fun b hb => ?_)
          rcases hob' with h | ⟨g, h, hge⟩
          · have := hobb b (by rw [← h]; exact hb); omega
          · rw [h] at hb; cases hb; simp at hge; omega
        have HFIN := Lib.hid hfin; have HGW2 := Lib.hid hgW; have HBL := Lib.hid hblk; have HOL := Lib.hid hobl; have HX1 := Lib.hid hx1; have HX2 := Lib.hid hx2
        clear hfin hgW hblk hobl hx1 hx2 hn2 hv2 hg02 hgw2 hg2 n0 v0 v1 v2
        rcases hidx with ⟨rfl, hall⟩ | ⟨k, rfl, hk1, hk2, hk3⟩
        · have hall' : ∀ p ∈ out, ltS p.name name = true := by simpa [allLt] using hall
          have HT1 := Lib.hid (show out.take out.length = (out.takeWhile fun p => ltS p.name name) by
            have h2 := List.takeWhile_append_of_pos (l₂ := []) hall'
            simpa using h2.symm)
          have HT2 := Lib.hid (show out.drop out.length = (out.dropWhile fun p => ltS p.name name) by
            have h2 := List.dropWhile_append_of_pos (l₂ := []) hall'
            simpa using h2.symm)
          clear hall hall'
          go_wp2_with (go_at_call 98; go_must (refine (insertProp (.slice oo out.length co) out.length _ [.string name, .int .i64 x.kind, .int .i64 x.n, .string x.s] ob w2.heap.size out.length _ (HOWN.out.grow HGW2.out) (by have := HBO.out; omega) HBL.out rfl HOL.out (Nat.le_refl _) HX1.out HX2.out).mono ?_); rintro e w3 ⟨v', ob', rfl, h1, h2, h3⟩)
          go_ret
          obtain ⟨r1, r2⟩ := HFIN.out _ v' w3 ob' (Nat.le_refl _) HT1.out HT2.out h1 h2 h3
          exact ⟨v', rfl, r1, r2⟩
        · have HT1 := Lib.hid hk2
          have HT2 := Lib.hid hk3
          clear hk2 hk3
          go_wp2_with (go_at_call 98; go_must (refine (insertProp (.slice oo out.length co) out.length _ [.string name, .int .i64 x.kind, .int .i64 x.n, .string x.s] ob w2.heap.size k _ (HOWN.out.grow HGW2.out) (by have := HBO.out; omega) HBL.out rfl HOL.out (Nat.le_of_lt hk1) HX1.out HX2.out).mono ?_); rintro e w3 ⟨v', ob', rfl, h1, h2, h3⟩)
          go_ret
          obtain ⟨r1, r2⟩ := HFIN.out _ v' w3 ob' (Nat.le_of_lt hk1) HT1.out HT2.out h1 h2 h3
          exact ⟨v', rfl, r1, r2⟩
      · have HS := Lib.hid (show setP l name x = fil l name by unfold setP; rw [if_pos (of_decide_eq_true h0)])
        have h0' : (x.kind == 0) = true := by simpa using h0
        clear h0
        go_wp2_with fail
        go_ret
        refine ⟨_, rfl, ?_, HGW.out⟩
        rw [HS.out]
        exact PropsR.sub HOWN.out.props (fun b hb => by have := HOB.out b hb; have := HS0.out; omega)
end Go.Hg
