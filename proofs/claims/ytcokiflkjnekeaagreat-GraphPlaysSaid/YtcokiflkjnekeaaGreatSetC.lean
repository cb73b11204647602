/- hedgerowref02.Set: properties with one of them set. Condition: at most 2^30 properties. -/
import Derived.Test.YtcokiflkjnekeaaGreatSetB
namespace Go.Hg
open Go.RowKit Go.Proofs

theorem one4 (a b c d : Value) (ha : a.oneCell' = true) (hb : b.oneCell' = true) (hc : c.oneCell' = true) (hd : d.oneCell' = true) : ∀ u ∈ [a, b, c, d], u.oneCell' = true := by
  intro u hu; simp only [List.mem_cons, List.not_mem_nil, or_false] at hu; rcases hu with rfl | rfl | rfl | rfl <;> assumption
/-- what ref02.Set has gathered of o -/
def rmid (o : List PProp) (name : ByteArray) (x : PVal) : List PProp := if x.kind = 0 then o else mid o ⟨name, x⟩
def rput (o : List PProp) (name : ByteArray) (x : PVal) : Bool := decide (x.kind = 0) || !(allLt o name)
theorem rmid_put {o : List PProp} {name : ByteArray} {x : PVal} {p : PProp} (h : rput o name x = true) : rmid (o ++ [p]) name x = rmid o name x ++ [p] ∧ rput (o ++ [p]) name x = true := by
  unfold rput at h
  unfold rmid rput mid
  by_cases hk : x.kind = 0
  · simp [hk]
  · have ha : allLt o name = false := by simpa [hk] using h
    have h2 := ins_snoc (x := ⟨name, x⟩) (p := p) ha
    have hb : allLt (o ++ [p]) name = false := by rw [allLt_snoc, ha]; rfl
    simp only [hk, ha, hb, if_false, Bool.false_eq_true, h2]
    simp
theorem rmid_lt {o : List PProp} {name : ByteArray} {x : PVal} {p : PProp} (h : rput o name x = false) (hp : ltS p.name name = true) : rmid (o ++ [p]) name x = rmid o name x ++ [p] ∧ rput (o ++ [p]) name x = false := by
  unfold rput at h
  simp only [Bool.or_eq_false_iff, decide_eq_false_iff_not, Bool.not_eq_false'] at h
  unfold rmid rput mid
  have hb : allLt (o ++ [p]) name = true := by rw [allLt_snoc, h.2, hp]; rfl
  simp only [h.1, h.2, hb, if_true, if_false]
  simp
theorem rmid_ge {o : List PProp} {name : ByteArray} {x : PVal} {p : PProp} (h : rput o name x = false) (hp : ltS p.name name = false) : rmid (o ++ [p]) name x = rmid o name x ++ [⟨name, x⟩] ++ [p] ∧ rput (o ++ [p]) name x = true := by
  unfold rput at h
  simp only [Bool.or_eq_false_iff, decide_eq_false_iff_not, Bool.not_eq_false'] at h
  have h2 := ins_snoc_ge (x := ⟨name, x⟩) (p := p) h.2 hp
  have hb : allLt (o ++ [p]) name = false := by rw [allLt_snoc, h.2, hp]; rfl
  unfold rmid rput mid
  simp only [h.1, h.2, hb, if_true, if_false, Bool.false_eq_true, h2]
  simp
theorem rmid_end {l : List PProp} {name : ByteArray} {x : PVal} : setP l name x = if rput (fil l name) name x = true then rmid (fil l name) name x else rmid (fil l name) name x ++ [⟨name, x⟩] := by
  unfold setP rput rmid mid
  by_cases hk : x.kind = 0
  · simp [hk]
  · cases ha : allLt (fil l name) name
    · simp [hk]
    · simp [hk, ins_allLt (x := ⟨name, x⟩) ha]
theorem rmid_length (o : List PProp) (name : ByteArray) (x : PVal) : (rmid o name x).length ≤ o.length + 1 := by
  have h2 := congrArg List.length (List.takeWhile_append_dropWhile (p := fun p : PProp => ltS p.name (PProp.mk name x).name) (l := o))
  rw [List.length_append] at h2
  unfold rmid mid ins
  split
  · omega
  · split
    · omega
    · rw [List.length_append, List.length_cons]; omega

set_option maxRecDepth 100000 in
set_option maxHeartbeats 4000000 in
theorem refSet (S : Nat → Prop) (v : Value) (l : List PProp) (name : ByteArray) (x : PVal) (w : World) (hl : PropsR S w v l) (hb : l.length ≤ 1073741824) :
    Calls Tryz.prog 27 #[v, .string name, .agg #[.int .i64 x.kind, .int .i64 x.n, .string x.s]] w fun e w' =>
      ∃ v', e = .returned v' ∧ PropsR (fun b => w.heap.size ≤ b) w' v' (setP l name x) ∧ Grow w w' := by
  obtain ⟨aa, ca, rfl, hal, hac, hA⟩ := SlR.open hl
  clear hl
  unfold maxLen at hac
  have HA := Lib.hid hA; clear hA
  have HB := Lib.hid hb; clear hb
  obtain ⟨iP, hiP, hzP0, hzP1, hzP2⟩ := info_parts infoProp
  have hbx : ∀ w', Grow (w.alloc (.cells #[.int .i64 x.kind, .int .i64 x.n, .string x.s] 39)) w' → w'.heap[w.heap.size]? = some (.cells #[.int .i64 x.kind, .int .i64 x.n, .string x.s] 39 (0, 0)) := fun w' hg => by
    rw [hg.heapEq (by simp)]; exact heap_alloc_new w _
  have HBX := Lib.hid hbx; clear hbx
  have HG0 := Lib.hid (show Grow w (w.alloc (.cells #[.int .i64 x.kind, .int .i64 x.n, .string x.s] 39)) from (Grow.rfl' w).allocd _)
  have HS0 := Lib.hid (show (w.alloc (.cells #[.int .i64 x.kind, .int .i64 x.n, .string x.s] 39)).heap.size = w.heap.size + 1 by simp)
  have HP0 := Lib.hid (show decide (x.kind = 0) = rput [] name x by simp [rput, allLt])
  have HM0 := Lib.hid (show rmid [] name x = [] by unfold rmid mid allLt; split <;> simp)
  have hk0 : (x.kind == 0) = rput [] name x := by rw [← HP0.out]; by_cases h : x.kind = 0 <;> simp [h]
  go_enter Tryz.func27, Tryz.ntmps27
  go_wp2
  clear hk0
  generalize w.alloc (.cells #[.int .i64 x.kind, .int .i64 x.n, .string x.s] 39) = W0 at *
  go_loopg [7, 8, 9] l.length (fun g vo vp i wr => ∃ (k : Nat) (ob : Option Nat), k ≤ l.length ∧ g = l.length - k ∧ i = .int .i64 k ∧ vp = .bool (rput (fil (l.take k) name) name x) ∧ PropsO wr vo (rmid (fil (l.take k) name) name x) ob ∧ (∀ b, ob = some b → W0.heap.size ≤ b) ∧ Grow W0 wr)
  case atStart => exact ⟨0, none, by omega, by omega, rfl, rfl, by rw [List.take_zero, show fil [] name = [] from rfl, HM0.out]; exact OwnS.nil _ _ _, by simp, Grow.rfl' W0⟩
  case round =>
    obtain ⟨k, ob, hk, rfl, rfl, rfl, hown, hob, hgr⟩ := hrel
    have hgw : Grow w wr := HG0.out.step hgr
    have HGW := Lib.hid hgw; have HGR := Lib.hid hgr; have HOB := Lib.hid hob; have HOWN := Lib.hid hown
    have hv0 := HBX.out wr hgr
    have hvb : w.heap.size < wr.heap.size := by have := hgr.size; have := HS0.out; omega
    have v0 : wr.cell? ⟨w.heap.size, 0, none⟩ = some (.int .i64 x.kind) := by rw [blk_cell hv0]; rfl
    have v1 : wr.cell? ⟨w.heap.size, 1, none⟩ = some (.int .i64 x.n) := by rw [blk_cell hv0]; rfl
    have v2 : wr.cell? ⟨w.heap.size, 2, none⟩ = some (.string x.s) := by rw [blk_cell hv0]; rfl
    obtain ⟨oo, co, rfl, -, -⟩ := hown.isSlice
    have HLEN := Lib.hid (show (rmid (fil (l.take k) name) name x).length ≤ 1073741826 by
      have := rmid_length (fil (l.take k) name) name x; have := fil_length (l.take k) name; have := List.length_take_le k l; have := HB.out; omega)
    clear hv0 hown hob hgr
    by_cases hkl : k < l.length
    · obtain ⟨ba, oa, ra, rfl, hSa, hba, hRa, hca⟩ := HA.out k l[k] (List.getElem?_eq_getElem hkl)
      obtain ⟨hba', a0, a1, a2, a3⟩ := hRa.at hba hgw hca
      have HBAL := Lib.hid hba
      clear hca hRa hSa hba hgw
      have HT := Lib.hid (show l.take (k + 1) = l.take k ++ [l[k]] from List.take_succ_eq_append_getElem hkl)
      generalize l[k] = p at *
      have hba1 : ba < wr.heap.size + 1 := by omega
      cases hn : decide (p.name = name)
      · have HF := Lib.hid (show fil (l.take (k + 1)) name = fil (l.take k) name ++ [p] by rw [HT.out, fil_snoc_ne (of_decide_eq_false hn)])
        generalize fil (l.take k) name = o at *
        cases hp : rput o name x
        · cases hs : Op.bytesLess p.name.toList name.toList
          · -- both are appended
            obtain ⟨e1, e2⟩ := rmid_ge (p := p) hp hs
            have HE1 := Lib.hid e1; have HE2 := Lib.hid e2; clear e1 e2
            have hW : Grow wr (wr.alloc (.cells #[.string name, .int .i64 x.kind, .int .i64 x.n, .string x.s] 101)) := (Grow.rfl' wr).allocd _
            have HW := Lib.hid hW; clear hW
            go_wp2_with (at_builtin; go_must (refine wpList_append_S _ rfl (.tmp 37) (.tmp 41) 57 rfl 101 iP _ 4 48 Tryz.underlying57 hiP hzP0 hzP1 hzP2 rfl (by decide) (.slice oo (rmid o name x).length co) (rmid o name x).length _ ob rfl (HOWN.out.grow HW.out) (.slice (some ⟨wr.heap.size, 0, none⟩) 1 1) rfl 1 _ (Rd.lit (wr) #[.string name, .int .i64 x.kind, .int .i64 x.n, .string x.s] 101 4 1 rfl) (one4 _ _ _ _ rfl rfl rfl rfl) (by have := HLEN.out; unfold maxLen; omega) (by have := HLEN.out; omega) ?_))
            intro v5 w5 ob5 h1 h2 h3
            have hgW5 : Grow W0 w5 := (HGR.out.step HW.out).modd h2 (fun b hb => HOB.out b hb)
            have hOB5 : ∀ b, ob5 = some b → W0.heap.size ≤ b := by
              have hsz := HGR.out.size
              have h0 := HOB.out
              intro b hb
              rcases h3 with h3 | ⟨g, h3, hge⟩
              · exact h0 b (by rw [← h3]; exact hb)
              · rw [h3] at hb; cases hb; omega
            have hP5 : PropsO w5 v5 (rmid o name x ++ [⟨name, x⟩]) ob5 := by
              unfold PropsO; rw [flat_snoc, List.length_append]; exact h1
            obtain ⟨oo5, co5, rfl, -, -⟩ := hP5.isSlice
            obtain ⟨-, -, -, -, hw5⟩ : True ∧ True ∧ True ∧ True ∧ ∀ o' , ba < w.heap.size → w5.cell? ⟨ba, o', none⟩ = w.cell? ⟨ba, o', none⟩ := ⟨trivial, trivial, trivial, trivial, fun o' hb => (HG0.out.step hgW5).cell (p := ⟨ba, o', none⟩) hb⟩
            have HG5 := Lib.hid hgW5; have HOB5 := Lib.hid hOB5; have HP5 := Lib.hid hP5
            have hsz5 : ba < w5.heap.size := by have := h2.size; simp at this; omega
            have HBAW := Lib.hid (show ∀ o', w5.cell? ⟨ba, o', none⟩ = wr.cell? ⟨ba, o', none⟩ from fun o' => by
              have e : w5.heap[ba]? = wr.heap[ba]? := by
                rw [h2.block ba (by simp; omega) (fun h => by have := HOB.out ba h; have := HS0.out; have := HBAL.out; omega)]
                exact HW.out.heapEq hba'
              exact World.cell?_of_block (w := wr) e)
            have c0 := (HBAW.out _).trans a0
            have c1 := (HBAW.out _).trans a1
            have c2 := (HBAW.out _).trans a2
            have c3 := (HBAW.out _).trans a3
            have HSZ := Lib.hid (show w5.heap.size = w5.heap.size from rfl)
            clear h1 h2 h3 hgW5 hOB5 hP5 hw5 a0 a1 a2 a3 v0 v1 v2
            have HLEN5 := Lib.hid (show (rmid o name x ++ [(⟨name, x⟩ : PProp)]).length ≤ 1073741827 by have := HLEN.out; rw [List.length_append]; simp; omega)
            go_wp2_with (at_builtin; go_must (refine wpList_append_S _ rfl (.tmp 43) (.tmp 48) 57 rfl 101 iP _ 4 48 Tryz.underlying57 hiP hzP0 hzP1 hzP2 rfl (by decide) (.slice oo5 (rmid o name x ++ [(⟨name, x⟩ : PProp)]).length co5) (rmid o name x ++ [(⟨name, x⟩ : PProp)]).length _ ob5 rfl (HP5.out.grow ((Grow.rfl' _).allocd _)) (.slice (some ⟨w5.heap.size, 0, none⟩) 1 1) rfl 1 _ (Rd.lit (w5) #[.string p.name, .int .i64 p.v.kind, .int .i64 p.v.n, .string p.v.s] 101 4 1 rfl) (one4 _ _ _ _ rfl rfl rfl rfl) (by have := HLEN5.out; unfold maxLen; omega) (by have := HLEN5.out; omega) ?_))
            intro v6 w6 ob6 h1 h2 h3
            have hP6 : PropsO w6 v6 (rmid (o ++ [p]) name x) ob6 := by
              unfold PropsO; rw [HE1.out]; simpa [PProp.cells] using h1
            have hOB6 : ∀ b, ob6 = some b → W0.heap.size ≤ b := by
              have hsz := HG5.out.size
              have h0 := HOB5.out
              intro b hb
              rcases h3 with h3 | ⟨g, h3, hge⟩
              · exact h0 b (by rw [← h3]; exact hb)
              · rw [h3] at hb; cases hb; omega
            have hg6 : Grow W0 w6 := (HG5.out.allocd _).modd h2 (fun b hb => HOB5.out b hb)
            have H6 := Lib.hid hP6; have HO6 := Lib.hid hOB6; have HG6 := Lib.hid hg6
            clear h1 h2 h3 hP6 hOB6 hg6
            go_wp2_with fail
            go_roundg (l.length - (k + 1))
            case measure => omega
            case rel => exact ⟨k + 1, ob6, by omega, rfl, by go_num, by rw [HF.out, HE2.out], by rw [HF.out]; exact H6.out, HO6.out, HG6.out⟩
          · obtain ⟨e1, e2⟩ := rmid_lt (p := p) hp hs
            have HE1 := Lib.hid e1; have HE2 := Lib.hid e2; clear e1 e2
            have hW : Grow wr (wr.alloc (.cells #[.string p.name, .int .i64 p.v.kind, .int .i64 p.v.n, .string p.v.s] 101)) := (Grow.rfl' wr).allocd _
            have HW := Lib.hid hW; clear hW
            go_wp2_with (at_builtin; go_must (refine wpList_append_S _ rfl (.tmp 43) (.tmp 48) 57 rfl 101 iP _ 4 48 Tryz.underlying57 hiP hzP0 hzP1 hzP2 rfl (by decide) (.slice oo (rmid o name x).length co) (rmid o name x).length _ ob rfl (HOWN.out.grow HW.out) (.slice (some ⟨wr.heap.size, 0, none⟩) 1 1) rfl 1 _ (Rd.lit (wr) #[.string p.name, .int .i64 p.v.kind, .int .i64 p.v.n, .string p.v.s] 101 4 1 rfl) (one4 _ _ _ _ rfl rfl rfl rfl) (by have := HLEN.out; unfold maxLen; omega) (by have := HLEN.out; omega) ?_))
            intro v5 w5 ob5 h1 h2 h3
            have hgW5 : Grow W0 w5 := (HGR.out.step HW.out).modd h2 (fun b hb => HOB.out b hb)
            have hOB5 : ∀ b, ob5 = some b → W0.heap.size ≤ b := by
              have hsz := HGR.out.size
              have h0 := HOB.out
              intro b hb
              rcases h3 with h3 | ⟨g, h3, hge⟩
              · exact h0 b (by rw [← h3]; exact hb)
              · rw [h3] at hb; cases hb; omega
            have hP5 : PropsO w5 v5 (rmid (o ++ [p]) name x) ob5 := by
              unfold PropsO; rw [HE1.out, flat_snoc, List.length_append]; exact h1
            have HG5 := Lib.hid hgW5; have HOB5 := Lib.hid hOB5; have HP5 := Lib.hid hP5
            clear h1 h2 h3 hgW5 hOB5 hP5
            go_wp2_with fail
            go_roundg (l.length - (k + 1))
            case measure => omega
            case rel => exact ⟨k + 1, ob5, by omega, rfl, by go_num, by rw [HF.out, HE2.out], by rw [HF.out]; exact HP5.out, HOB5.out, HG5.out⟩
        · obtain ⟨e1, e2⟩ := rmid_put (p := p) hp
          have HE1 := Lib.hid e1; have HE2 := Lib.hid e2; clear e1 e2
          have hW : Grow wr (wr.alloc (.cells #[.string p.name, .int .i64 p.v.kind, .int .i64 p.v.n, .string p.v.s] 101)) := (Grow.rfl' wr).allocd _
          have HW := Lib.hid hW; clear hW
          go_wp2_with (at_builtin; go_must (refine wpList_append_S _ rfl (.tmp 43) (.tmp 48) 57 rfl 101 iP _ 4 48 Tryz.underlying57 hiP hzP0 hzP1 hzP2 rfl (by decide) (.slice oo (rmid o name x).length co) (rmid o name x).length _ ob rfl (HOWN.out.grow HW.out) (.slice (some ⟨wr.heap.size, 0, none⟩) 1 1) rfl 1 _ (Rd.lit (wr) #[.string p.name, .int .i64 p.v.kind, .int .i64 p.v.n, .string p.v.s] 101 4 1 rfl) (one4 _ _ _ _ rfl rfl rfl rfl) (by have := HLEN.out; unfold maxLen; omega) (by have := HLEN.out; omega) ?_))
          intro v5 w5 ob5 h1 h2 h3
          have hgW5 : Grow W0 w5 := (HGR.out.step HW.out).modd h2 (fun b hb => HOB.out b hb)
          have hOB5 : ∀ b, ob5 = some b → W0.heap.size ≤ b := by
            have hsz := HGR.out.size
            have h0 := HOB.out
            intro b hb
            rcases h3 with h3 | ⟨g, h3, hge⟩
            · exact h0 b (by rw [← h3]; exact hb)
            · rw [h3] at hb; cases hb; omega
          have hP5 : PropsO w5 v5 (rmid (o ++ [p]) name x) ob5 := by
            unfold PropsO; rw [HE1.out, flat_snoc, List.length_append]; exact h1
          have HG5 := Lib.hid hgW5; have HOB5 := Lib.hid hOB5; have HP5 := Lib.hid hP5
          clear h1 h2 h3 hgW5 hOB5 hP5
          go_wp2_with fail
          go_roundg (l.length - (k + 1))
          case measure => omega
          case rel => exact ⟨k + 1, ob5, by omega, rfl, by go_num, by rw [HF.out, HE2.out], by rw [HF.out]; exact HP5.out, HOB5.out, HG5.out⟩
      · have HF := Lib.hid (show fil (l.take (k + 1)) name = fil (l.take k) name by rw [HT.out, fil_snoc_eq (of_decide_eq_true hn)])
        go_wp2_with fail
        go_roundg (l.length - (k + 1))
        case measure => omega
        case rel => exact ⟨k + 1, ob, by omega, rfl, by go_num, by rw [HF.out], by rw [HF.out]; exact HOWN.out, HOB.out, HGR.out⟩
    · have hkk : l.take k = l := List.take_of_length_le (by omega)
      rw [hkk] at HOWN HLEN
      simp only [hkk] at *
      have HEND := Lib.hid (rmid_end (l := l) (name := name) (x := x))
      generalize fil l name = o at *
      cases hp : rput o name x
      · have hW : Grow wr (wr.alloc (.cells #[.string name, .int .i64 x.kind, .int .i64 x.n, .string x.s] 101)) := (Grow.rfl' wr).allocd _
        have HW := Lib.hid hW; clear hW
        go_wp2_with (at_builtin; go_must (refine wpList_append_S _ rfl (.tmp 52) (.tmp 56) 57 rfl 101 iP _ 4 48 Tryz.underlying57 hiP hzP0 hzP1 hzP2 rfl (by decide) (.slice oo (rmid o name x).length co) (rmid o name x).length _ ob rfl (HOWN.out.grow HW.out) (.slice (some ⟨wr.heap.size, 0, none⟩) 1 1) rfl 1 _ (Rd.lit (wr) #[.string name, .int .i64 x.kind, .int .i64 x.n, .string x.s] 101 4 1 rfl) (one4 _ _ _ _ rfl rfl rfl rfl) (by have := HLEN.out; unfold maxLen; omega) (by have := HLEN.out; omega) ?_))
        intro v5 w5 ob5 h1 h2 h3
        have hgW5 : Grow W0 w5 := (HGR.out.step HW.out).modd h2 (fun b hb => HOB.out b hb)
        have hOB5 : ∀ b, ob5 = some b → W0.heap.size ≤ b := by
          have hsz := HGR.out.size
          have h0 := HOB.out
          intro b hb
          rcases h3 with h3 | ⟨g, h3, hge⟩
          · exact h0 b (by rw [← h3]; exact hb)
          · rw [h3] at hb; cases hb; omega
        have hP5 : PropsO w5 v5 (rmid o name x ++ [⟨name, x⟩]) ob5 := by
          unfold PropsO; rw [flat_snoc, List.length_append]; exact h1
        have HG5 := Lib.hid hgW5; have HOB5 := Lib.hid hOB5; have HP5 := Lib.hid hP5
        clear h1 h2 h3 hgW5 hOB5 hP5
        go_wp2_with fail
        go_ret
        refine ⟨_, rfl, ?_, HG0.out.step HG5.out⟩
        rw [HEND.out, hp, if_neg (by simp)]
        exact PropsR.sub HP5.out.props (fun b hb => by have := HOB5.out b hb; have := HS0.out; omega)
      · go_wp2_with fail
        go_ret
        refine ⟨_, rfl, ?_, HGW.out⟩
        rw [HEND.out, hp, if_pos rfl]
        exact PropsR.sub HOWN.out.props (fun b hb => by have := HOB.out b hb; have := HS0.out; omega)

end Go.Hg
