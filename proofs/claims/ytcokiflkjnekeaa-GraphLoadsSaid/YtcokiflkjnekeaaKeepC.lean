/- hedgerowkeep.CopyNodes, CopyEdges: the same in new memory. No condition but the lengths' (at most 2^40). -/
import Derived.Test.YtcokiflkjnekeaaDeep
namespace Go.Hg
open Go.RowKit Go.Proofs

theorem infoProp : (Try.prog.info? 54).map (fun i => (i.zero, i.size, i.bytes)) = some (some (.agg #[.string ByteArray.empty, .int .i64 0, .int .i64 0, .string ByteArray.empty]), 4, 48) := by kernel_rfl
theorem infoNode : (Try.prog.info? 52).map (fun i => (i.zero, i.size, i.bytes)) = some (some (.agg #[.int .i64 0, .string ByteArray.empty, .slice none 0 0]), 3, 48) := by kernel_rfl
theorem infoEdge : (Try.prog.info? 56).map (fun i => (i.zero, i.size, i.bytes)) = some (some (.agg #[.int .i64 0, .string ByteArray.empty, .int .i64 0, .int .i64 0, .slice none 0 0]), 5, 64) := by kernel_rfl

set_option maxRecDepth 100000 in
set_option maxHeartbeats 400000 in
theorem copyNodes (S : Nat → Prop) (v : Value) (l : List PNode) (w : World) (hl : NodesR S w v l) (hb : l.length ≤ 1099511627776) (hpb : ∀ x ∈ l, x.props.length ≤ 1099511627776) :
    Calls Try.prog 27 #[v] w fun e w' => ∃ v', e = .returned v' ∧ NodesO (fun b => w.heap.size ≤ b) w' v' l ∧ Grow w w' := by
  obtain ⟨aa, ca, rfl, hal, hac, hA⟩ := SlR.open hl
  clear hl
  unfold maxLen at hac
  have HA := Lib.hid hA; clear hA
  have HP := Lib.hid hpb; clear hpb
  have HB := Lib.hid hb; clear hb
  obtain ⟨iP, hiP, hzP0, hzP1, hzP2⟩ := info_parts infoProp
  obtain ⟨iN, hiN, hzN0, hzN1, hzN2⟩ := info_parts infoNode
  go_enter Try.func27, Try.ntmps27
  go_wp2
  go_loopg [3, 4] l.length (fun g vo i wr => ∃ k : Nat, k ≤ l.length ∧ g = l.length - k ∧ i = .int .i64 k ∧ NodesO (fun b => w.heap.size ≤ b) wr vo (l.take k) ∧ Grow w wr)
  case atStart => exact ⟨0, by omega, by omega, rfl, by simpa using NodesO.nil _ w, Grow.rfl' w⟩
  case round =>
    obtain ⟨k, hk, rfl, rfl, hno, hgr⟩ := hrel
    have HNO := Lib.hid hno; clear hno
    by_cases hlt : k < l.length
    · obtain ⟨ba, oa, ra, rfl, hSa, hba, hRa, hca⟩ := HA.out k l[k] (List.getElem?_eq_getElem hlt)
      obtain ⟨pva, hba', a0, a1, a2, hpa⟩ := hRa.at hba hgr hca
      clear hca hRa hSa hba
      have HE := Lib.hid (show l.take (k + 1) = l.take k ++ [l[k]] from List.take_succ_eq_append_getElem hlt)
      have HPL := Lib.hid (HP.out l[k] (List.getElem_mem hlt))
      generalize l[k] = na at *
      have HPA := Lib.hid hpa
      obtain ⟨oap, cap, rfl⟩ := hpa.isSlice
      clear hpa
      have hO := OwnS.lit (wr.alloc (.cells #[.int .i64 na.id, .string na.typ, .slice oap na.props.length cap] 52)) #[] 54 4 0 (by simp [maxLen]) rfl
      simp only [World.size_alloc] at hO
      have hg2 : Grow wr ((wr.alloc (.cells #[.int .i64 na.id, .string na.typ, .slice oap na.props.length cap] 52)).alloc (.cells #[] 54)) := ((Grow.rfl' wr).allocd _).allocd _
      have hbx : ((wr.alloc (.cells #[.int .i64 na.id, .string na.typ, .slice oap na.props.length cap] 52)).alloc (.cells #[] 54)).heap[wr.heap.size]? = some (.cells #[.int .i64 na.id, .string na.typ, .slice oap na.props.length cap] 52 (0, 0)) := by
        rw [Below.heap_alloc _ _ _ (by simp)]
        exact heap_alloc_new wr _
      have HO := Lib.hid hO; have HG2 := Lib.hid hg2; have HBX := Lib.hid hbx
      clear hO hg2 hbx
      go_wp2_with (at_builtin; go_must (refine wpList_append_S _ rfl (.tmp 16) (.tmp 18) 50 rfl 54 iP _ 4 48 Try.underlying50 hiP hzP0 hzP1 hzP2 rfl (by decide) (.slice (some ⟨wr.heap.size + 1, 0, none⟩) 0 0) 0 [] (some (wr.heap.size + 1)) rfl HO.out (.slice oap na.props.length cap) rfl na.props.length (na.props.map PProp.cells).flatten (HPA.out.rd.grow HG2.out) ?one ?c1 ?c2 ?nx))
      case one => exact oneCell_props _
      case c1 => have := HPL.out; unfold maxLen; omega
      case c2 => have := HPL.out; omega
      case nx =>
        intro vp w2 obp hown hmod hobp _
        have hg3 : Grow wr w2 := HG2.out.modd hmod (fun x hx => by omega)
        have hbx2 : w2.heap[wr.heap.size]? = some (.cells #[.int .i64 na.id, .string na.typ, .slice oap na.props.length cap] 52 (0, 0)) := by
          rw [hmod.block _ (by simp; omega) (by omega)]; exact HBX.out
        have c0 : w2.cell? ⟨wr.heap.size, 0, none⟩ = some (.int .i64 na.id) := by rw [blk_cell hbx2]; rfl
        have c1 : w2.cell? ⟨wr.heap.size, 1, none⟩ = some (.string na.typ) := by rw [blk_cell hbx2]; rfl
        have c2 : w2.cell? ⟨wr.heap.size, 2, none⟩ = some (.slice oap na.props.length cap) := by rw [blk_cell hbx2]; rfl
        have f2 := blk_free hbx2 2
        have hs2 : wr.heap.size + 2 ≤ w2.heap.size := by have := hmod.size; simpa using this
        obtain ⟨oav, capv, rfl, -, -⟩ := hown.isSlice
        have hg4 : Grow wr (w2.setCell ⟨wr.heap.size, 2, none⟩ (.slice oav na.props.length capv)) := hg3.setd (Nat.le_refl _) _
        have hp4 : PropsR (fun b => obp = some b) (w2.setCell ⟨wr.heap.size, 2, none⟩ (.slice oav na.props.length capv)) (.slice oav na.props.length capv) na.props :=
          hown.props.mod ((Mod.rfl' (fun b => b = wr.heap.size) w2).setd (.inl rfl) _) (fun b hb h => by
            rcases hobp with h' | ⟨g, h', hge⟩ <;> (rw [h'] at hb; cases hb; omega))
        have hl4 : ∀ b, obp = some b → wr.heap.size + 1 ≤ b ∧ b < w2.heap.size := fun b hb => ⟨by rcases hobp with h' | ⟨g, h', hge⟩ <;> (rw [h'] at hb; cases hb; omega), hown.lt b hb⟩
        have hs4 : (w2.setCell ⟨wr.heap.size, 2, none⟩ (.slice oav na.props.length capv)).heap.size = w2.heap.size := by simp
        have HG4 := Lib.hid hg4; have HP4 := Lib.hid hp4; have HL4 := Lib.hid hl4; have HS4 := Lib.hid hs4
        clear hown hmod hobp hg3 hbx2 hg4 hp4 hl4 hs4
        obtain ⟨S1, ob1, rows1, hS1, hob1, hr1, hr2, hown1⟩ := HNO.out.open (HG4.out.allocd (.cells #[.int .i64 na.id, .string na.typ, .slice oav na.props.length capv] 52))
        have HS1 := Lib.hid hS1; have HOB1 := Lib.hid hob1; have HR1 := Lib.hid hr1; have HR2 := Lib.hid hr2; have HOWN1 := Lib.hid hown1
        obtain ⟨oau, capu, rfl, -, -⟩ := hown1.isSlice
        have HTK := Lib.hid (show (l.take k).length = k by simp; omega)
        have hrd := Rd.lit (w2.setCell ⟨wr.heap.size, 2, none⟩ (.slice oav na.props.length capv)) #[.int .i64 na.id, .string na.typ, .slice oav na.props.length capv] 52 3 1 rfl
        simp only [World.size_setCell] at hrd
        have HRD := Lib.hid hrd
        clear hS1 hob1 hr1 hr2 hown1 hrd
        go_wp2_with (at_builtin; go_must (refine wpList_append_S _ rfl (.tmp 21) (.tmp 23) 41 rfl 52 iN _ 3 48 Try.underlying41 hiN hzN0 hzN1 hzN2 rfl (by decide) (.slice oau (l.take k).length capu) (l.take k).length rows1.flatten ob1 rfl HOWN1.out (.slice (some ⟨w2.heap.size, 0, none⟩) 1 1) rfl 1 _ HRD.out ?one ?c1 ?c2 ?nx))
        case one => first | exact ⟨rfl, rfl, rfl⟩ | (intro u hu; simp only [List.mem_cons, List.not_mem_nil, or_false] at hu; rcases hu with rfl | rfl | rfl <;> rfl)
        case c1 => have := HB.out; have := HTK.out; unfold maxLen; omega
        case c2 => have := HB.out; have := HTK.out; omega
        case nx =>
          intro vn w5 obn hown5 hmod5 hobn
          have hs := hgr.size
          have hs1 := HG4.out.size
          have hs2 := HS4.out
          have hfin : NodesO (fun b => w.heap.size ≤ b) w5 vn (l.take k ++ [na]) :=
            NodesO.close (S := S1) (SP := fun b => obp = some b) (pv := .slice oav na.props.length capv)
              (fun b hb => ⟨(HS1.out b hb).1, by have := (HS1.out b hb).2; simp; omega⟩) (fun g hg => ⟨(HOB1.out g hg).1, (HOB1.out g hg).2.1⟩) HR1.out HR2.out ⟨_, HOWN1.out⟩
              (HP4.out.grow ((Grow.rfl' _).allocd _)) (fun b hb => ⟨by have := (HL4.out b hb).1; omega, by have := (HL4.out b hb).2; simp; omega⟩)
              (fun g hg h' => by have := (HOB1.out g hg).2.2; have := (HL4.out g h').1; omega) (fun g hg => by simp at hg; omega)
              (by rw [HTK.out]; exact hown5) hmod5 (by simpa using hobn)
          have hg5 : Grow w w5 := (hgr.step (HG4.out.allocd _)).modd hmod5 (fun x hx => (HOB1.out x hx).1)
          have HFIN := Lib.hid hfin; have HG5 := Lib.hid hg5
          clear hfin hg5 hmod5 hobn hown5 hs hs1 hs2
          go_wp2_with fail
          go_roundg (l.length - (k + 1))
          case measure => omega
          case rel => exact ⟨k + 1, by omega, rfl, by go_num, by rw [HE.out]; exact HFIN.out, HG5.out⟩
    · have HX := Lib.hid (show l.take k = l from List.take_of_length_le (by omega))
      go_wp2_with fail
      go_ret
      exact ⟨_, rfl, by rw [← HX.out]; exact HNO.out, hgr⟩
set_option maxRecDepth 100000 in
set_option maxHeartbeats 400000 in
theorem copyEdges (S : Nat → Prop) (v : Value) (l : List PEdge) (w : World) (hl : EdgesR S w v l) (hb : l.length ≤ 1099511627776) (hpb : ∀ x ∈ l, x.props.length ≤ 1099511627776) :
    Calls Try.prog 28 #[v] w fun e w' => ∃ v', e = .returned v' ∧ EdgesO (fun b => w.heap.size ≤ b) w' v' l ∧ Grow w w' := by
  obtain ⟨aa, ca, rfl, hal, hac, hA⟩ := SlR.open hl
  clear hl
  unfold maxLen at hac
  have HA := Lib.hid hA; clear hA
  have HP := Lib.hid hpb; clear hpb
  have HB := Lib.hid hb; clear hb
  obtain ⟨iP, hiP, hzP0, hzP1, hzP2⟩ := info_parts infoProp
  obtain ⟨iN, hiN, hzN0, hzN1, hzN2⟩ := info_parts infoEdge
  go_enter Try.func28, Try.ntmps28
  go_wp2
  go_loopg [3, 4] l.length (fun g vo i wr => ∃ k : Nat, k ≤ l.length ∧ g = l.length - k ∧ i = .int .i64 k ∧ EdgesO (fun b => w.heap.size ≤ b) wr vo (l.take k) ∧ Grow w wr)
  case atStart => exact ⟨0, by omega, by omega, rfl, by simpa using EdgesO.nil _ w, Grow.rfl' w⟩
  case round =>
    obtain ⟨k, hk, rfl, rfl, hno, hgr⟩ := hrel
    have HNO := Lib.hid hno; clear hno
    by_cases hlt : k < l.length
    · obtain ⟨ba, oa, ra, rfl, hSa, hba, hRa, hca⟩ := HA.out k l[k] (List.getElem?_eq_getElem hlt)
      obtain ⟨pva, hba', a0, a1, a2, a3, a4, hpa⟩ := hRa.at hba hgr hca
      clear hca hRa hSa hba
      have HE := Lib.hid (show l.take (k + 1) = l.take k ++ [l[k]] from List.take_succ_eq_append_getElem hlt)
      have HPL := Lib.hid (HP.out l[k] (List.getElem_mem hlt))
      generalize l[k] = na at *
      have HPA := Lib.hid hpa
      obtain ⟨oap, cap, rfl⟩ := hpa.isSlice
      clear hpa
      have hO := OwnS.lit (wr.alloc (.cells #[.int .i64 na.id, .string na.typ, .int .i64 na.from_, .int .i64 na.to_, .slice oap na.props.length cap] 56)) #[] 54 4 0 (by simp [maxLen]) rfl
      simp only [World.size_alloc] at hO
      have hg2 : Grow wr ((wr.alloc (.cells #[.int .i64 na.id, .string na.typ, .int .i64 na.from_, .int .i64 na.to_, .slice oap na.props.length cap] 56)).alloc (.cells #[] 54)) := ((Grow.rfl' wr).allocd _).allocd _
      have hbx : ((wr.alloc (.cells #[.int .i64 na.id, .string na.typ, .int .i64 na.from_, .int .i64 na.to_, .slice oap na.props.length cap] 56)).alloc (.cells #[] 54)).heap[wr.heap.size]? = some (.cells #[.int .i64 na.id, .string na.typ, .int .i64 na.from_, .int .i64 na.to_, .slice oap na.props.length cap] 56 (0, 0)) := by
        rw [Below.heap_alloc _ _ _ (by simp)]
        exact heap_alloc_new wr _
      have HO := Lib.hid hO; have HG2 := Lib.hid hg2; have HBX := Lib.hid hbx
      clear hO hg2 hbx
      go_wp2_with (at_builtin; go_must (refine wpList_append_S _ rfl (.tmp 16) (.tmp 18) 50 rfl 54 iP _ 4 48 Try.underlying50 hiP hzP0 hzP1 hzP2 rfl (by decide) (.slice (some ⟨wr.heap.size + 1, 0, none⟩) 0 0) 0 [] (some (wr.heap.size + 1)) rfl HO.out (.slice oap na.props.length cap) rfl na.props.length (na.props.map PProp.cells).flatten (HPA.out.rd.grow HG2.out) ?one ?c1 ?c2 ?nx))
      case one => exact oneCell_props _
      case c1 => have := HPL.out; unfold maxLen; omega
      case c2 => have := HPL.out; omega
      case nx =>
        intro vp w2 obp hown hmod hobp _
        have hg3 : Grow wr w2 := HG2.out.modd hmod (fun x hx => by omega)
        have hbx2 : w2.heap[wr.heap.size]? = some (.cells #[.int .i64 na.id, .string na.typ, .int .i64 na.from_, .int .i64 na.to_, .slice oap na.props.length cap] 56 (0, 0)) := by
          rw [hmod.block _ (by simp; omega) (by omega)]; exact HBX.out
        have c0 : w2.cell? ⟨wr.heap.size, 0, none⟩ = some (.int .i64 na.id) := by rw [blk_cell hbx2]; rfl
        have c1 : w2.cell? ⟨wr.heap.size, 1, none⟩ = some (.string na.typ) := by rw [blk_cell hbx2]; rfl
        have c2 : w2.cell? ⟨wr.heap.size, 2, none⟩ = some (.int .i64 na.from_) := by rw [blk_cell hbx2]; rfl
        have c3 : w2.cell? ⟨wr.heap.size, 3, none⟩ = some (.int .i64 na.to_) := by rw [blk_cell hbx2]; rfl
        have c4 : w2.cell? ⟨wr.heap.size, 4, none⟩ = some (.slice oap na.props.length cap) := by rw [blk_cell hbx2]; rfl
        have f2 := blk_free hbx2 4
        have hs2 : wr.heap.size + 2 ≤ w2.heap.size := by have := hmod.size; simpa using this
        obtain ⟨oav, capv, rfl, -, -⟩ := hown.isSlice
        have hg4 : Grow wr (w2.setCell ⟨wr.heap.size, 4, none⟩ (.slice oav na.props.length capv)) := hg3.setd (Nat.le_refl _) _
        have hp4 : PropsR (fun b => obp = some b) (w2.setCell ⟨wr.heap.size, 4, none⟩ (.slice oav na.props.length capv)) (.slice oav na.props.length capv) na.props :=
          hown.props.mod ((Mod.rfl' (fun b => b = wr.heap.size) w2).setd (.inl rfl) _) (fun b hb h => by
            rcases hobp with h' | ⟨g, h', hge⟩ <;> (rw [h'] at hb; cases hb; omega))
        have hl4 : ∀ b, obp = some b → wr.heap.size + 1 ≤ b ∧ b < w2.heap.size := fun b hb => ⟨by rcases hobp with h' | ⟨g, h', hge⟩ <;> (rw [h'] at hb; cases hb; omega), hown.lt b hb⟩
        have hs4 : (w2.setCell ⟨wr.heap.size, 4, none⟩ (.slice oav na.props.length capv)).heap.size = w2.heap.size := by simp
        have HG4 := Lib.hid hg4; have HP4 := Lib.hid hp4; have HL4 := Lib.hid hl4; have HS4 := Lib.hid hs4
        clear hown hmod hobp hg3 hbx2 hg4 hp4 hl4 hs4
        obtain ⟨S1, ob1, rows1, hS1, hob1, hr1, hr2, hown1⟩ := HNO.out.open (HG4.out.allocd (.cells #[.int .i64 na.id, .string na.typ, .int .i64 na.from_, .int .i64 na.to_, .slice oav na.props.length capv] 56))
        have HS1 := Lib.hid hS1; have HOB1 := Lib.hid hob1; have HR1 := Lib.hid hr1; have HR2 := Lib.hid hr2; have HOWN1 := Lib.hid hown1
        obtain ⟨oau, capu, rfl, -, -⟩ := hown1.isSlice
        have HTK := Lib.hid (show (l.take k).length = k by simp; omega)
        have hrd := Rd.lit (w2.setCell ⟨wr.heap.size, 4, none⟩ (.slice oav na.props.length capv)) #[.int .i64 na.id, .string na.typ, .int .i64 na.from_, .int .i64 na.to_, .slice oav na.props.length capv] 56 5 1 rfl
        simp only [World.size_setCell] at hrd
        have HRD := Lib.hid hrd
        clear hS1 hob1 hr1 hr2 hown1 hrd
        go_wp2_with (at_builtin; go_must (refine wpList_append_S _ rfl (.tmp 21) (.tmp 23) 43 rfl 56 iN _ 5 64 Try.underlying43 hiN hzN0 hzN1 hzN2 rfl (by decide) (.slice oau (l.take k).length capu) (l.take k).length rows1.flatten ob1 rfl HOWN1.out (.slice (some ⟨w2.heap.size, 0, none⟩) 1 1) rfl 1 _ HRD.out ?one ?c1 ?c2 ?nx))
        case one => first | exact ⟨rfl, rfl, rfl, rfl, rfl⟩ | (intro u hu; simp only [List.mem_cons, List.not_mem_nil, or_false] at hu; rcases hu with rfl | rfl | rfl | rfl | rfl <;> rfl)
        case c1 => have := HB.out; have := HTK.out; unfold maxLen; omega
        case c2 => have := HB.out; have := HTK.out; omega
        case nx =>
          intro vn w5 obn hown5 hmod5 hobn
          have hs := hgr.size
          have hs1 := HG4.out.size
          have hs2 := HS4.out
          have hfin : EdgesO (fun b => w.heap.size ≤ b) w5 vn (l.take k ++ [na]) :=
            EdgesO.close (S := S1) (SP := fun b => obp = some b) (pv := .slice oav na.props.length capv)
              (fun b hb => ⟨(HS1.out b hb).1, by have := (HS1.out b hb).2; simp; omega⟩) (fun g hg => ⟨(HOB1.out g hg).1, (HOB1.out g hg).2.1⟩) HR1.out HR2.out ⟨_, HOWN1.out⟩
              (HP4.out.grow ((Grow.rfl' _).allocd _)) (fun b hb => ⟨by have := (HL4.out b hb).1; omega, by have := (HL4.out b hb).2; simp; omega⟩)
              (fun g hg h' => by have := (HOB1.out g hg).2.2; have := (HL4.out g h').1; omega) (fun g hg => by simp at hg; omega)
              (by rw [HTK.out]; exact hown5) hmod5 (by simpa using hobn)
          have hg5 : Grow w w5 := (hgr.step (HG4.out.allocd _)).modd hmod5 (fun x hx => (HOB1.out x hx).1)
          have HFIN := Lib.hid hfin; have HG5 := Lib.hid hg5
          clear hfin hg5 hmod5 hobn hown5 hs hs1 hs2
          go_wp2_with fail
          go_roundg (l.length - (k + 1))
          case measure => omega
          case rel => exact ⟨k + 1, by omega, rfl, by go_num, by rw [HE.out]; exact HFIN.out, HG5.out⟩
    · have HX := Lib.hid (show l.take k = l from List.take_of_length_le (by omega))
      go_wp2_with fail
      go_ret
      exact ⟨_, rfl, by rw [← HX.out]; exact HNO.out, hgr⟩
end Go.Hg
