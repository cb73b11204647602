/- graph.Scan, some, Out, In. Condition: at most 2^40 of each. -/
import Derived.Test.YtcokiflkjnekeaaGreatGet
namespace Go.Hg
open Go.RowKit Go.Proofs

theorem infoInt : (Tryz.prog.info? 2).map (fun i => (i.zero, i.size, i.bytes)) = some (some (.int .i64 0), 1, 8) := by kernel_rfl
/-- a row of numbers that is one's own -/
def IdsO (w : World) (v : Value) (l : List Int) (ob : Option Nat) : Prop := OwnS w 2 1 v l.length (l.map (.int .i64 ·)) ob
abbrev IdsR (S : Nat → Prop) (w : World) (v : Value) (l : List Int) : Prop := SlR S w 1 (fun n r => r = [Value.int .i64 n]) v l
theorem IdsO.toR {w : World} {v : Value} {l : List Int} {ob : Option Nat} (h : IdsO w v l ob) {S : Nat → Prop} (hS : ∀ g, ob = some g → S g) : IdsR S w v l := by
  have h2 : OwnL w 2 1 (fun n r => r = [Value.int .i64 n]) v l ob := ⟨l.map (fun n => [.int .i64 n]), by simp, fun k x r hx hr => by
    rw [List.getElem?_map, hx] at hr
    simp only [Option.map_some, Option.some.injEq] at hr
    subst hr
    exact ⟨rfl, rfl⟩, by
    have e : (l.map fun n => [Value.int .i64 n]).flatten = l.map (.int .i64 ·) := by
      clear h hS
      induction l with
      | nil => rfl
      | cons a t ih => simp [ih]
    rw [e]; exact h⟩
  exact h2.toSl hS
theorem empty_beq (s : ByteArray) : (s.toList == ([] : List UInt8)) = decide (s = ByteArray.empty) := by
  rw [← isEmpty_iff]
  cases s.toList <;> rfl
theorem one1 (a : Value) (ha : a.oneCell' = true) : ∀ u ∈ [a], u.oneCell' = true := by
  intro u hu; simp only [List.mem_cons, List.not_mem_nil, or_false] at hu; subst hu; exact ha
/-- what a list of Ids is told as -/
def IdsPost (l : List Int) (w : World) (e : Ending) (w' : World) : Prop := ∃ v ob, e = .returned v ∧ IdsO w' v l ob ∧ (∀ b, ob = some b → w.heap.size ≤ b) ∧ Grow w w'

def scanG (G : PGraph) (typ : ByteArray) : List Int := (G.nodes.filter fun x => decide (x.typ = typ)).map (·.id)
def someE (l : List PEdge) (typ : ByteArray) (p : PEdge → Bool) : List Int := (l.filter fun x => (decide (typ = ByteArray.empty) || decide (x.typ = typ)) && p x).map (·.id)

set_option maxRecDepth 100000 in
set_option maxHeartbeats 2000000 in
theorem graphScan (S : Nat → Prop) (B : Nat) (G : PGraph) (typ : ByteArray) (w : World) (h : GraphRd 68 S w B G) (hb : G.nodes.length ≤ 1099511627776) :
    Calls Tryz.prog 37 #[.pointer (some ⟨B, 0, none⟩), .string typ] w (IdsPost (scanG G typ) w) := by
  obtain ⟨na, nc, ea, ec, hB, c0, c1, c2, hn, -⟩ := h.read
  obtain ⟨iP, hiP, hzP0, hzP1, hzP2⟩ := info_parts infoInt
  obtain ⟨_, _, hv, hal, hac, hA⟩ := SlR.open hn
  simp only [Value.slice.injEq, true_and] at hv
  obtain ⟨rfl, rfl⟩ := hv
  unfold maxLen at hac
  have HA := Lib.hid hA; have HB := Lib.hid hb
  clear h hn hA hb
  unfold scanG
  generalize G.nodes = l at *
  go_enter Tryz.func37, Tryz.ntmps37
  go_wp2
  go_loopg [5, 15] l.length (fun g vo i wr => ∃ (k : Nat) (ob : Option Nat), k ≤ l.length ∧ g = l.length - k ∧ i = .int .i64 k ∧ IdsO wr vo (((l.take k).filter fun x => decide (x.typ = typ)).map (·.id)) ob ∧ (∀ b, ob = some b → w.heap.size ≤ b) ∧ Grow w wr)
  case atStart => exact ⟨0, none, by omega, by omega, rfl, OwnS.nil _ _ _, by simp, Grow.rfl' w⟩
  case round =>
    obtain ⟨k, ob, hk, rfl, rfl, hown, hob, hgr⟩ := hrel
    have HOWN := Lib.hid hown; have HOB := Lib.hid hob; have HGR := Lib.hid hgr
    obtain ⟨oo, co, rfl, -, -⟩ := hown.isSlice
    by_cases hkl : k < l.length
    · obtain ⟨ba, oa, ra, rfl, hSa, hba, hRa, hca⟩ := HA.out k l[k] (List.getElem?_eq_getElem hkl)
      obtain ⟨pva, hba', a0, a1, a2, hpa⟩ := hRa.at hba hgr hca
      obtain ⟨pa, pc, rfl⟩ := hpa.isSlice
      clear hca hRa hSa hba hgr hown hob hpa
      have HT := Lib.hid (show l.take (k + 1) = l.take k ++ [l[k]] from List.take_succ_eq_append_getElem hkl)
      have HFL := Lib.hid (show ((l.take k).filter fun x => decide (x.typ = typ)).length ≤ l.length from Nat.le_trans (List.length_filter_le _ _) (List.length_take_le' k l))
      generalize l[k] = p at *
      generalize hfl : ((l.take k).filter fun x => decide (x.typ = typ)).map (·.id) = fl at *
      have hfll : ((l.take k).filter fun x => decide (x.typ = typ)).length = fl.length := by rw [← hfl, List.length_map]
      rw [hfll] at HFL
      have HFF := Lib.hid hfl
      clear hfl hfll
      cases hn : decide (p.typ = typ)
      · have hf1 : Hid (((l.take (k + 1)).filter fun x => decide (x.typ = typ)).map (·.id) = fl) := Lib.hid (by rw [HT.out, List.filter_append, ← HFF.out]; simp [hn])
        have HW := Lib.hid (show ∀ o1, Grow wr (wr.alloc o1) from fun o1 => (Grow.rfl' wr).allocd o1)
        go_wp2_with fail
        go_roundg (l.length - (k + 1))
        case measure => omega
        case rel => exact ⟨k + 1, ob, by omega, rfl, by go_num, by rw [hf1.out]; exact HOWN.out.grow (HW.out _), HOB.out, HGR.out.step (HW.out _)⟩
      · have hf1 : Hid (((l.take (k + 1)).filter fun x => decide (x.typ = typ)).map (·.id) = fl ++ [p.id]) := Lib.hid (by rw [HT.out, List.filter_append, ← HFF.out]; simp [hn])
        have HW := Lib.hid (show ∀ o1 o2, Grow wr ((wr.alloc o1).alloc o2) from fun o1 o2 => ((Grow.rfl' wr).allocd o1).allocd o2)
        have hrd := Rd.lit (wr.alloc (.cells #[.int .i64 p.id, .string p.typ, .slice pa p.props.length pc] 59)) #[.int .i64 p.id] 2 1 1 rfl
        simp only [World.size_alloc] at hrd
        have HRD := Lib.hid hrd; clear hrd
        go_wp2_with (at_builtin; go_must (refine wpList_append_S _ rfl (.tmp 23) (.tmp 26) 62 rfl 2 iP _ 1 8 Tryz.underlying62 hiP hzP0 hzP1 hzP2 rfl (by decide) (.slice oo fl.length co) fl.length _ ob rfl (HOWN.out.grow (HW.out _ _)) (.slice (some ⟨wr.heap.size + 1, 0, none⟩) 1 1) rfl 1 _ HRD.out (one1 _ rfl) (by have := HB.out; have := HFL.out; unfold maxLen; omega) (by have := HB.out; have := HFL.out; omega) ?_))
        intro v' w5 ob' h1 h2 h3
        have hown5 : IdsO w5 v' (((l.take (k + 1)).filter fun x => decide (x.typ = typ)).map (·.id)) ob' := by
          rw [hf1.out]
          unfold IdsO
          rw [List.length_append, List.map_append]
          exact h1
        have hsz := HGR.out.size
        have hob5 : ∀ b, ob' = some b → w.heap.size ≤ b := by
          intro b hb
          rcases h3 with h3 | ⟨g, h3, hge⟩
          · exact HOB.out b (by rw [← h3]; exact hb)
          · rw [h3] at hb; cases hb; first | omega | (simp at hge; omega)
        have hg5 : Grow w w5 := (HGR.out.step (HW.out _ _)).modd h2 (fun b hb => HOB.out b hb)
        have H5 := Lib.hid hown5; have HO5 := Lib.hid hob5; have HG5 := Lib.hid hg5
        clear h1 h2 h3 hown5 hob5 hg5 hsz
        go_wp2_with fail
        go_roundg (l.length - (k + 1))
        case measure => omega
        case rel => exact ⟨k + 1, ob', by omega, rfl, by go_num, H5.out, HO5.out, HG5.out⟩
    · have hkk : l.take k = l := List.take_of_length_le (by omega)
      rw [hkk] at HOWN
      clear hown hob hgr
      simp only [hkk]
      go_wp2
      go_ret
      exact ⟨_, ob, rfl, HOWN.out, HOB.out, HGR.out⟩

set_option maxRecDepth 100000 in
set_option maxHeartbeats 2000000 in
theorem graphSome (S : Nat → Prop) (B : Nat) (G : PGraph) (typ : ByteArray) (f : Nat) (cl : Addr) (p : PEdge → Bool) (w : World) (h : GraphRd 68 S w B G) (hb : G.edges.length ≤ 1099511627776) (hp : AsksE f cl p S w) :
    Calls Tryz.prog 47 #[.pointer (some ⟨B, 0, none⟩), .string typ, .func (.func f) #[] #[.pointer (some cl)]] w (IdsPost (someE G.edges typ p) w) := by
  obtain ⟨na, nc, ea, ec, hB, c0, c1, c2, -, hn⟩ := h.read
  obtain ⟨iP, hiP, hzP0, hzP1, hzP2⟩ := info_parts infoInt
  obtain ⟨_, _, hv, hal, hac, hA⟩ := SlR.open hn
  simp only [Value.slice.injEq, true_and] at hv
  obtain ⟨rfl, rfl⟩ := hv
  unfold maxLen at hac
  have HA := Lib.hid hA; have HB := Lib.hid hb; have HP := Lib.hid hp.2; have hcf := hp.1
  clear h hn hA hb hp
  unfold someE
  generalize hX : (fun x : PEdge => (decide (typ = ByteArray.empty) || decide (x.typ = typ)) && p x) = sel at *
  have HX := Lib.hid (congrFun hX)
  clear hX
  generalize G.edges = l at *
  go_enter Tryz.func47, Tryz.ntmps47
  go_wp2
  go_loopg [7, 17] l.length (fun g vo i wr => ∃ (k : Nat) (ob : Option Nat), k ≤ l.length ∧ g = l.length - k ∧ i = .int .i64 k ∧ IdsO wr vo (((l.take k).filter sel).map (·.id)) ob ∧ (∀ b, ob = some b → w.heap.size ≤ b) ∧ Grow w wr)
  case atStart => exact ⟨0, none, by omega, by omega, rfl, OwnS.nil _ _ _, by simp, Grow.rfl' w⟩
  case round =>
    obtain ⟨k, ob, hk, rfl, rfl, hown, hob, hgr⟩ := hrel
    have HOWN := Lib.hid hown; have HOB := Lib.hid hob; have HGR := Lib.hid hgr
    obtain ⟨oo, co, rfl, -, -⟩ := hown.isSlice
    by_cases hkl : k < l.length
    · obtain ⟨ba, oa, ra, rfl, hSa, hba, hRa, hca⟩ := HA.out k l[k] (List.getElem?_eq_getElem hkl)
      obtain ⟨pva, hba', a0, a1, a2, a3, a4, hpa⟩ := hRa.at hba hgr hca
      have HPA := Lib.hid hpa
      obtain ⟨pa, pc, rfl⟩ := hpa.isSlice
      clear hca hRa hSa hba hgr hown hob hpa
      have HT := Lib.hid (show l.take (k + 1) = l.take k ++ [l[k]] from List.take_succ_eq_append_getElem hkl)
      have HFL := Lib.hid (show ((l.take k).filter sel).length ≤ l.length from Nat.le_trans (List.length_filter_le _ _) (List.length_take_le' k l))
      have HXK := Lib.hid (HX.out l[k])
      generalize l[k] = x at *
      generalize hfl : ((l.take k).filter sel).map (·.id) = fl at *
      have hfll : ((l.take k).filter sel).length = fl.length := by rw [← hfl, List.length_map]
      rw [hfll] at HFL
      have HFF := Lib.hid hfl
      clear hfl hfll
      have HW := Lib.hid (show ∀ o1, Grow wr (wr.alloc o1) from fun o1 => (Grow.rfl' wr).allocd o1)
      have HNO := Lib.hid (show sel x = false → ((l.take (k + 1)).filter sel).map (·.id) = fl from fun hn => by rw [HT.out, List.filter_append, ← HFF.out]; simp [hn])
      have HYES := Lib.hid (show sel x = true → ((l.take (k + 1)).filter sel).map (·.id) = fl ++ [x.id] from fun hn => by rw [HT.out, List.filter_append, ← HFF.out]; simp [hn])
      cases ht : decide (typ = ByteArray.empty)
      · have HTF := Lib.hid ht
        have hte : (typ.toList == ([] : List UInt8)) = false := (empty_beq typ).trans ht
        clear ht
        cases hxt : decide (x.typ = typ)
        · have HF1 := Lib.hid (HNO.out (by rw [← HXK.out, HTF.out, hxt]; rfl))
          go_wp2_with fail
          go_roundg (l.length - (k + 1))
          case measure => omega
          case rel => exact ⟨k + 1, ob, by omega, rfl, by go_num, by rw [HF1.out]; exact HOWN.out.grow (HW.out _), HOB.out, HGR.out.step (HW.out _)⟩
        · have HXT := Lib.hid hxt
          go_wp2_with fail
          refine (HP.out x _ _ (HGR.out.step (HW.out _)) (HPA.out.grow (HW.out _))).mono ?_
          rintro e w3 ⟨rfl, hg3⟩
          have HG3 := Lib.hid ((HW.out _).step hg3)
          have hb3 : w3.heap[wr.heap.size]? = some (.cells #[.int .i64 x.id, .string x.typ, .int .i64 x.from_, .int .i64 x.to_, .slice pa x.props.length pc] 79 (0, 0)) := by rw [hg3.heapEq (by simp)]; exact heap_alloc_new wr _
          have hl3 := blk_lt hb3
          have y0 : w3.cell? ⟨wr.heap.size, 0, none⟩ = some (.int .i64 x.id) := by rw [blk_cell hb3]; rfl
          clear hg3 hb3
          cases hp : p x
          · have HF1 := Lib.hid (HNO.out (by rw [← HXK.out, hp]; simp))
            go_wp2_with fail
            go_roundg (l.length - (k + 1))
            case measure => omega
            case rel => exact ⟨k + 1, ob, by omega, rfl, by go_num, by rw [HF1.out]; exact HOWN.out.grow HG3.out, HOB.out, HGR.out.step HG3.out⟩
          · have HF1 := Lib.hid (HYES.out (by rw [← HXK.out, hp]; simp [HXT.out]))
            have HRD := Lib.hid (Rd.lit w3 #[.int .i64 x.id] 2 1 1 rfl)
            have HG4 := Lib.hid (show ∀ o1, Grow wr (w3.alloc o1) from fun o1 => HG3.out.allocd o1)
            go_wp2_with (at_builtin; go_must (refine wpList_append_S _ rfl (.tmp 34) (.tmp 37) 62 rfl 2 iP _ 1 8 Tryz.underlying62 hiP hzP0 hzP1 hzP2 rfl (by decide) (.slice oo fl.length co) fl.length _ ob rfl (HOWN.out.grow (HG4.out _)) (.slice (some ⟨w3.heap.size, 0, none⟩) 1 1) rfl 1 _ HRD.out (one1 _ rfl) (by have := HB.out; have := HFL.out; unfold maxLen; omega) (by have := HB.out; have := HFL.out; omega) ?_))
            intro v' w5 ob' h1 h2 h3
            have hown5 : IdsO w5 v' (((l.take (k + 1)).filter sel).map (·.id)) ob' := by
              rw [HF1.out]
              unfold IdsO
              rw [List.length_append, List.map_append]
              exact h1
            have hsz := (HGR.out.step HG3.out).size
            have hob5 : ∀ b, ob' = some b → w.heap.size ≤ b := by
              intro b hb
              rcases h3 with h3 | ⟨g, h3, hge⟩
              · exact HOB.out b (by rw [← h3]; exact hb)
              · rw [h3] at hb; cases hb; first | omega | (simp at hge; omega)
            have hg5 : Grow w w5 := (HGR.out.step (HG4.out _)).modd h2 (fun b hb => HOB.out b hb)
            have H5 := Lib.hid hown5; have HO5 := Lib.hid hob5; have HG5 := Lib.hid hg5
            clear h1 h2 h3 hown5 hob5 hg5 hsz
            go_wp2_with fail
            go_roundg (l.length - (k + 1))
            case measure => omega
            case rel => exact ⟨k + 1, ob', by omega, rfl, by go_num, H5.out, HO5.out, HG5.out⟩
      · have HTF := Lib.hid ht
        have hte : (typ.toList == ([] : List UInt8)) = true := (empty_beq typ).trans ht
        clear ht
        go_wp2_with fail
        refine (HP.out x _ _ (HGR.out.step (HW.out _)) (HPA.out.grow (HW.out _))).mono ?_
        rintro e w3 ⟨rfl, hg3⟩
        have HG3 := Lib.hid ((HW.out _).step hg3)
        have hb3 : w3.heap[wr.heap.size]? = some (.cells #[.int .i64 x.id, .string x.typ, .int .i64 x.from_, .int .i64 x.to_, .slice pa x.props.length pc] 79 (0, 0)) := by rw [hg3.heapEq (by simp)]; exact heap_alloc_new wr _
        have hl3 := blk_lt hb3
        have y0 : w3.cell? ⟨wr.heap.size, 0, none⟩ = some (.int .i64 x.id) := by rw [blk_cell hb3]; rfl
        clear hg3 hb3
        cases hp : p x
        · have HF1 := Lib.hid (HNO.out (by rw [← HXK.out, hp]; simp))
          go_wp2_with fail
          go_roundg (l.length - (k + 1))
          case measure => omega
          case rel => exact ⟨k + 1, ob, by omega, rfl, by go_num, by rw [HF1.out]; exact HOWN.out.grow HG3.out, HOB.out, HGR.out.step HG3.out⟩
        · have HF1 := Lib.hid (HYES.out (by rw [← HXK.out, hp]; simp [HTF.out]))
          have HRD := Lib.hid (Rd.lit w3 #[.int .i64 x.id] 2 1 1 rfl)
          have HG4 := Lib.hid (show ∀ o1, Grow wr (w3.alloc o1) from fun o1 => HG3.out.allocd o1)
          go_wp2_with (at_builtin; go_must (refine wpList_append_S _ rfl (.tmp 34) (.tmp 37) 62 rfl 2 iP _ 1 8 Tryz.underlying62 hiP hzP0 hzP1 hzP2 rfl (by decide) (.slice oo fl.length co) fl.length _ ob rfl (HOWN.out.grow (HG4.out _)) (.slice (some ⟨w3.heap.size, 0, none⟩) 1 1) rfl 1 _ HRD.out (one1 _ rfl) (by have := HB.out; have := HFL.out; unfold maxLen; omega) (by have := HB.out; have := HFL.out; omega) ?_))
          intro v' w5 ob' h1 h2 h3
          have hown5 : IdsO w5 v' (((l.take (k + 1)).filter sel).map (·.id)) ob' := by
            rw [HF1.out]
            unfold IdsO
            rw [List.length_append, List.map_append]
            exact h1
          have hsz := (HGR.out.step HG3.out).size
          have hob5 : ∀ b, ob' = some b → w.heap.size ≤ b := by
            intro b hb
            rcases h3 with h3 | ⟨g, h3, hge⟩
            · exact HOB.out b (by rw [← h3]; exact hb)
            · rw [h3] at hb; cases hb; first | omega | (simp at hge; omega)
          have hg5 : Grow w w5 := (HGR.out.step (HG4.out _)).modd h2 (fun b hb => HOB.out b hb)
          have H5 := Lib.hid hown5; have HO5 := Lib.hid hob5; have HG5 := Lib.hid hg5
          clear h1 h2 h3 hown5 hob5 hg5 hsz
          go_wp2_with fail
          go_roundg (l.length - (k + 1))
          case measure => omega
          case rel => exact ⟨k + 1, ob', by omega, rfl, by go_num, H5.out, HO5.out, HG5.out⟩
    · have hkk : l.take k = l := List.take_of_length_le (by omega)
      rw [hkk] at HOWN
      clear hown hob hgr
      simp only [hkk]
      go_wp2
      go_ret
      exact ⟨_, ob, rfl, HOWN.out, HOB.out, HGR.out⟩

set_option maxRecDepth 100000 in
set_option maxHeartbeats 1000000 in
theorem graphOut (S : Nat → Prop) (B : Nat) (G : PGraph) (id : Int) (typ : ByteArray) (w : World) (h : GraphRd 68 S w B G) (hb : G.edges.length ≤ 1099511627776) :
    Calls Tryz.prog 20 #[.pointer (some ⟨B, 0, none⟩), .int .i64 id, .string typ] w (IdsPost (someE G.edges typ fun x => decide (x.from_ = id)) w) := by
  have HGR := Lib.hid h; have HB := Lib.hid hb
  have HC := Lib.hid (show ∀ w', Grow (w.alloc (.cells #[.int .i64 id] 2)) w' → w'.cell? ⟨w.heap.size, 0, none⟩ = some (.int .i64 id) from fun w' hg => by
    have : w'.heap[w.heap.size]? = some (.cells #[.int .i64 id] 2 (0, 0)) := by rw [hg.heapEq (by simp)]; exact heap_alloc_new w _
    rw [blk_cell this]; rfl)
  have HW := Lib.hid (show ∀ o1, Grow w (w.alloc o1) from fun o1 => (Grow.rfl' w).allocd o1)
  clear h hb
  go_enter Tryz.func20, Tryz.ntmps20
  go_wp2_with fail
  refine (graphSome S B G typ 48 ⟨w.heap.size, 0, none⟩ (fun x => decide (x.from_ = id)) _ (HGR.out.grow (HW.out _)) HB.out ⟨fun args w => enterF Tryz.func48 (by kernel_rfl) rfl args w, fun x pv w' hg hp => out1 x pv _ id w' S hp (HC.out w' hg)⟩).mono ?_
  rintro e w2 ⟨v, ob, rfl, ho, hob, hg⟩
  have HO := Lib.hid ho; have HOB := Lib.hid hob; have HG := Lib.hid hg
  obtain ⟨oo, co, rfl, -, -⟩ := ho.isSlice
  clear ho hob hg
  go_wp2
  go_ret
  exact ⟨_, ob, rfl, HO.out, fun b hb => Nat.le_trans (HW.out _).size (HOB.out b hb), (HW.out _).step HG.out⟩
set_option maxRecDepth 100000 in
set_option maxHeartbeats 1000000 in
theorem graphOutNil (id : Int) (typ : ByteArray) (w : World) : Calls Tryz.prog 20 #[.pointer none, .int .i64 id, .string typ] w fun e w' => e = .returned (.slice none 0 0) ∧ Grow w w' := by
  have HW := Lib.hid (show ∀ o1, Grow w (w.alloc o1) from fun o1 => (Grow.rfl' w).allocd o1)
  go_enter Tryz.func20, Tryz.ntmps20
  go_wp2_with (go_at_call 47; go_in)
  go_ret
  exact ⟨rfl, HW.out _⟩

set_option maxRecDepth 100000 in
set_option maxHeartbeats 1000000 in
theorem graphIn (S : Nat → Prop) (B : Nat) (G : PGraph) (id : Int) (typ : ByteArray) (w : World) (h : GraphRd 68 S w B G) (hb : G.edges.length ≤ 1099511627776) :
    Calls Tryz.prog 40 #[.pointer (some ⟨B, 0, none⟩), .int .i64 id, .string typ] w (IdsPost (someE G.edges typ fun x => decide (x.to_ = id)) w) := by
  have HGR := Lib.hid h; have HB := Lib.hid hb
  have HC := Lib.hid (show ∀ w', Grow (w.alloc (.cells #[.int .i64 id] 2)) w' → w'.cell? ⟨w.heap.size, 0, none⟩ = some (.int .i64 id) from fun w' hg => by
    have : w'.heap[w.heap.size]? = some (.cells #[.int .i64 id] 2 (0, 0)) := by rw [hg.heapEq (by simp)]; exact heap_alloc_new w _
    rw [blk_cell this]; rfl)
  have HW := Lib.hid (show ∀ o1, Grow w (w.alloc o1) from fun o1 => (Grow.rfl' w).allocd o1)
  clear h hb
  go_enter Tryz.func40, Tryz.ntmps40
  go_wp2_with fail
  refine (graphSome S B G typ 68 ⟨w.heap.size, 0, none⟩ (fun x => decide (x.to_ = id)) _ (HGR.out.grow (HW.out _)) HB.out ⟨fun args w => enterF Tryz.func68 (by kernel_rfl) rfl args w, fun x pv w' hg hp => in1 x pv _ id w' S hp (HC.out w' hg)⟩).mono ?_
  rintro e w2 ⟨v, ob, rfl, ho, hob, hg⟩
  have HO := Lib.hid ho; have HOB := Lib.hid hob; have HG := Lib.hid hg
  obtain ⟨oo, co, rfl, -, -⟩ := ho.isSlice
  clear ho hob hg
  go_wp2
  go_ret
  exact ⟨_, ob, rfl, HO.out, fun b hb => Nat.le_trans (HW.out _).size (HOB.out b hb), (HW.out _).step HG.out⟩
set_option maxRecDepth 100000 in
set_option maxHeartbeats 1000000 in
theorem graphInNil (id : Int) (typ : ByteArray) (w : World) : Calls Tryz.prog 40 #[.pointer none, .int .i64 id, .string typ] w fun e w' => e = .returned (.slice none 0 0) ∧ Grow w w' := by
  have HW := Lib.hid (show ∀ o1, Grow w (w.alloc o1) from fun o1 => (Grow.rfl' w).allocd o1)
  go_enter Tryz.func40, Tryz.ntmps40
  go_wp2_with (go_at_call 47; go_in)
  go_ret
  exact ⟨rfl, HW.out _⟩

set_option maxRecDepth 100000 in
set_option maxHeartbeats 1000000 in
theorem graphScanNil (typ : ByteArray) (w : World) : Calls Tryz.prog 37 #[.pointer none, .string typ] w fun e w' => e = .returned (.slice none 0 0) ∧ Grow w w' := by
  go_enter Tryz.func37, Tryz.ntmps37
  go_wp2
  go_ret
  exact ⟨rfl, Grow.rfl' w⟩
end Go.Hg
