/- Rules: the plain words, what form a rule has, whether a graph keeps it, what breaks it; hedgerowkeep.CopyNodes, CopyEdges: the same in new memory; slices.Clone at nodes, edges and properties; slices.BinarySearchFunc at nodes and edges by Id; Maps with int keys that a call makes by a literal; val.Good, hedgerowref02.Good, Blank; val.Props, hedgerowref02.Props: whether properties are good; A graph behind a pointer: what lies there; slices.IndexFunc at []api.Prop by val.Set's closure; the plain words for a property set; The builtins copy, append of zeros, clear, at a row that is one's own: runs. Conditions: those that each theorem names. -/
import Derived.Test.YtanijffgogpmdaaGreatChkA
import Derived.Lib.SliceRun
import Derived.WideMake
import Derived.Deep.RegionLaw
namespace Go.Hg

/-- a property's value -/
def getP (ps : List PProp) (name : ByteArray) : Option PVal := (ps.find? fun p => decide (p.name = name)).map (·.v)
theorem getP_take {ps : List PProp} {name : ByteArray} {k : Nat} {p : PProp} (hk : ps[k]? = some p) (hp : p.name = name) (hall : ∀ q ∈ ps.take k, q.name ≠ name) : getP ps name = some p.v := by
  induction ps generalizing k with
  | nil => simp at hk
  | cons a t ih =>
    cases k with
    | zero =>
      simp at hk
      subst hk
      simp [getP, hp]
    | succ k =>
      have ha : a.name ≠ name := hall a (by simp)
      have h2 := ih (k := k) (by simpa using hk) (fun q hq => hall q (by simp [hq]))
      unfold getP at h2 ⊢
      rw [List.find?_cons_of_neg (by simpa using ha)]
      exact h2
theorem getP_none {ps : List PProp} {name : ByteArray} (hall : ∀ q ∈ ps, q.name ≠ name) : getP ps name = none := by
  unfold getP
  rw [List.find?_eq_none.2 (fun q hq => by simpa using hall q hq)]
  rfl

def formR (r : PRule) : Bool :=
  decide (NameOk r.typ) && (
    if r.kind = 1 ∨ r.kind = 2 then decide (NameOk r.name) && (decide (r.from_ = ByteArray.empty) && (decide (r.to_ = ByteArray.empty) && decide (r.n = 0)))
    else if r.kind = 3 then decide (NameOk r.from_) && (decide (NameOk r.to_) && (decide (r.name = ByteArray.empty) && decide (r.n = 0)))
    else if r.kind = 4 then decide (r.name = ByteArray.empty) && (decide (r.from_ = ByteArray.empty) && (decide (r.to_ = ByteArray.empty) && (decide (0 ≤ r.n) && decide (r.n ≤ 1024))))
    else false)
theorem formR_kind {r : PRule} (h : formR r = true) : r.kind = 1 ∨ r.kind = 2 ∨ r.kind = 3 ∨ r.kind = 4 := by
  unfold formR at h
  rw [Bool.and_eq_true] at h
  have h2 := h.2
  by_cases h12 : r.kind = 1 ∨ r.kind = 2
  · rcases h12 with h | h
    · exact .inl h
    · exact .inr (.inl h)
  · rw [if_neg h12] at h2
    by_cases h3 : r.kind = 3
    · exact .inr (.inr (.inl h3))
    · rw [if_neg h3] at h2
      by_cases h4 : r.kind = 4
      · exact .inr (.inr (.inr h4))
      · rw [if_neg h4] at h2; cases h2

/-- a node's value, of the rule's type and name -/
def valR (r : PRule) (n : PNode) : Option PVal := if n.typ = r.typ then getP n.props r.name else none
def lacksR (r : PRule) (n : PNode) : Bool := decide (n.typ = r.typ) && (getP n.props r.name).isNone
/-- a node's type -/
def typeN (nodes : List PNode) (id : Int) : Option ByteArray := (nodes.find? fun x => decide (x.id = id)).map (·.typ)
def isT (nodes : List PNode) (id : Int) (typ : ByteArray) : Bool := decide (typeN nodes id = some typ)
def wrongR (nodes : List PNode) (r : PRule) (e : PEdge) : Bool := decide (e.typ = r.typ) && !(isT nodes e.from_ r.from_ && isT nodes e.to_ r.to_)
/-- how many edges of the rule's type go out there -/
def outR (edges : List PEdge) (r : PRule) (x : Int) : Nat := (edges.filter fun e => decide (e.typ = r.typ) && decide (e.from_ = x)).length
def uniqR (nodes : List PNode) (r : PRule) : Bool := decide ((nodes.filterMap (valR r)).Nodup)
def mostR (edges : List PEdge) (r : PRule) : Bool := edges.all fun e => !decide (e.typ = r.typ) || decide ((outR edges r e.from_ : Int) ≤ r.n)
/-- whether a rule that has a form is kept -/
def holdR (nodes : List PNode) (edges : List PEdge) (r : PRule) : Bool :=
  if r.kind = 1 then uniqR nodes r else if r.kind = 2 then !nodes.any (lacksR r) else if r.kind = 3 then !edges.any (wrongR nodes r) else mostR edges r
def keepR (nodes : List PNode) (edges : List PEdge) (r : PRule) : Bool := formR r && holdR nodes edges r

/-- another node has the same value -/
def doubR (nodes : List PNode) (r : PRule) (n : PNode) : Bool := match valR r n with
  | none => false
  | some v => decide (2 ≤ (nodes.filterMap (valR r)).count v)
theorem nodup_count {α : Type} [DecidableEq α] (l : List α) : l.Nodup ↔ ∀ v ∈ l, l.count v < 2 := by
  rw [List.nodup_iff_count]
  constructor
  · intro h v _
    have := h v
    omega
  · intro h v
    by_cases hv : v ∈ l
    · have := h v hv; omega
    · rw [List.count_eq_zero_of_not_mem hv]; omega
theorem uniqR_iff (nodes : List PNode) (r : PRule) : uniqR nodes r = !nodes.any (doubR nodes r) := by
  rw [Bool.eq_iff_iff, Bool.not_eq_true', List.any_eq_false]
  unfold uniqR
  rw [decide_eq_true_iff, nodup_count]
  constructor
  · intro h n hn
    unfold doubR
    cases hv : valR r n with
    | none => simp
    | some v =>
      have := h v (List.mem_filterMap.2 ⟨n, hn, hv⟩)
      simp
      omega
  · intro h v hv
    obtain ⟨n, hn, hv⟩ := List.mem_filterMap.1 hv
    have := h n hn
    unfold doubR at this
    rw [hv] at this
    simp at this
    exact this
end Go.Hg

namespace Go.Hg
open Go.RowKit Go.Proofs

theorem infoProp : (Tryz.prog.info? 123).map (fun i => (i.zero, i.size, i.bytes)) = some (some (.agg #[.string ByteArray.empty, .int .i64 0, .int .i64 0, .string ByteArray.empty]), 4, 48) := by kernel_rfl
theorem infoNode : (Tryz.prog.info? 94).map (fun i => (i.zero, i.size, i.bytes)) = some (some (.agg #[.int .i64 0, .string ByteArray.empty, .slice none 0 0]), 3, 48) := by kernel_rfl
theorem infoEdge : (Tryz.prog.info? 98).map (fun i => (i.zero, i.size, i.bytes)) = some (some (.agg #[.int .i64 0, .string ByteArray.empty, .int .i64 0, .int .i64 0, .slice none 0 0]), 5, 64) := by kernel_rfl

set_option maxRecDepth 100000 in
set_option maxHeartbeats 400000 in
theorem copyNodes (S : Nat → Prop) (v : Value) (l : List PNode) (w : World) (hl : NodesR S w v l) (hb : l.length ≤ 1099511627776) (hpb : ∀ x ∈ l, x.props.length ≤ 1099511627776) :
    Calls Tryz.prog 137 #[v] w fun e w' => ∃ v', e = .returned v' ∧ NodesO (fun b => w.heap.size ≤ b) w' v' l ∧ Grow w w' := by
  obtain ⟨aa, ca, rfl, hal, hac, hA⟩ := SlR.open hl
  clear hl
  unfold maxLen at hac
  have HA := Lib.hid hA; clear hA
  have HP := Lib.hid hpb; clear hpb
  have HB := Lib.hid hb; clear hb
  obtain ⟨iP, hiP, hzP0, hzP1, hzP2⟩ := info_parts infoProp
  obtain ⟨iN, hiN, hzN0, hzN1, hzN2⟩ := info_parts infoNode
  go_enter Tryz.func137, Tryz.ntmps137
  go_wp2
  go_loopg [3, 4] l.length (fun g vo i wr => ∃ k : Nat, k ≤ l.length ∧ g = l.length - k ∧ i = .int .i64 k ∧ NodesO (fun b => w.heap.size ≤ b) wr vo (l.take k) ∧ Grow w wr)
  case atStart => exact ⟨0, by omega, by omega, rfl, by simpa using NodesO.nil _ w, Grow.rfl' w⟩
  case round =>
    obtain ⟨k, hk, rfl, rfl, hno, hgr⟩ := hrel
    have HNO := Lib.hid hno; clear hno
    by_cases hlt : k < l.length
    · obtain ⟨ba, oa, ra, rfl, hSa, hba, hRa, hca⟩ := HA.out k l[k] (List.getElem?_eq_getElem hlt)
      obtain ⟨pva, hba', a0, a1, a2, hpa⟩ := hRa.at hba hgr hca
      clear hca hRa hSa hba
      have HE := Lib.hid (show l.take (k + 1) = l.take k ++ [l[k]] from List.take_succ_eq_append_getElem hlt)
      have HPL := Lib.hid (HP.out l[k] (List.getElem_mem hlt))
      generalize l[k] = na at *
      have HPA := Lib.hid hpa
      obtain ⟨oap, cap, rfl⟩ := hpa.isSlice
      clear hpa
      have hO := OwnS.lit (wr.alloc (.cells #[.int .i64 na.id, .string na.typ, .slice oap na.props.length cap] 94)) #[] 123 4 0 (by simp [maxLen]) rfl
      simp only [World.size_alloc] at hO
      have hg2 : Grow wr ((wr.alloc (.cells #[.int .i64 na.id, .string na.typ, .slice oap na.props.length cap] 94)).alloc (.cells #[] 123)) := ((Grow.rfl' wr).allocd _).allocd _
      have hbx : ((wr.alloc (.cells #[.int .i64 na.id, .string na.typ, .slice oap na.props.length cap] 94)).alloc (.cells #[] 123)).heap[wr.heap.size]? = some (.cells #[.int .i64 na.id, .string na.typ, .slice oap na.props.length cap] 94 (0, 0)) := by
        rw [Below.heap_alloc _ _ _ (by simp)]
        exact heap_alloc_new wr _
      have HO := Lib.hid hO; have HG2 := Lib.hid hg2; have HBX := Lib.hid hbx
      clear hO hg2 hbx
      go_wp2_with (at_builtin; go_must (refine wpList_append_S _ rfl (.tmp 16) (.tmp 18) 92 rfl 123 iP _ 4 48 Tryz.underlying92 hiP hzP0 hzP1 hzP2 rfl (by decide) (.slice (some ⟨wr.heap.size + 1, 0, none⟩) 0 0) 0 [] (some (wr.heap.size + 1)) rfl HO.out (.slice oap na.props.length cap) rfl na.props.length (na.props.map PProp.cells).flatten (HPA.out.rd.grow HG2.out) ?one ?c1 ?c2 ?nx))
      case one => exact oneCell_props _
      case c1 => have := HPL.out; unfold maxLen; omega
      case c2 => have := HPL.out; omega
      case nx =>
        intro vp w2 obp hown hmod hobp _
        have hg3 : Grow wr w2 := HG2.out.modd hmod (fun x hx => by omega)
        have hbx2 : w2.heap[wr.heap.size]? = some (.cells #[.int .i64 na.id, .string na.typ, .slice oap na.props.length cap] 94 (0, 0)) := by
          rw [hmod.block _ (by simp; omega) (by omega)]; exact HBX.out
        have c0 : w2.cell? ⟨wr.heap.size, 0, none⟩ = some (.int .i64 na.id) := by rw [blk_cell hbx2]; rfl
        have c1 : w2.cell? ⟨wr.heap.size, 1, none⟩ = some (.string na.typ) := by rw [blk_cell hbx2]; rfl
        have c2 : w2.cell? ⟨wr.heap.size, 2, none⟩ = some (.slice oap na.props.length cap) := by rw [blk_cell hbx2]; rfl
        have f2 := blk_free hbx2 2
        have hs2 : wr.heap.size + 2 ≤ w2.heap.size := by have := hmod.size; simpa using this
        obtain ⟨oav, capv, rfl, -, -⟩ := hown.isSlice
        have hg4 : Grow wr (w2.setCell ⟨wr.heap.size, 2, none⟩ (.slice oav na.props.length capv)) := hg3.setd (Nat.le_refl _) _
        have hp4 : PropsR (fun b => obp = some b) (w2.setCell ⟨wr.heap.size, 2, none⟩ (.slice oav na.props.length capv)) (.slice oav na.props.length capv) na.props :=
          hown.props.mod ((Mod.rfl' (fun b => b = wr.heap.size) w2).setd (.inl rfl) _) (fun b hb h => by
            rcases hobp with h' | ⟨g, h', hge⟩ <;> (rw [h'] at hb; cases hb; omega))
        have hl4 : ∀ b, obp = some b → wr.heap.size + 1 ≤ b ∧ b < w2.heap.size := fun b hb => ⟨by rcases hobp with h' | ⟨g, h', hge⟩ <;> (rw [h'] at hb; cases hb; omega), hown.lt b hb⟩
        have hs4 : (w2.setCell ⟨wr.heap.size, 2, none⟩ (.slice oav na.props.length capv)).heap.size = w2.heap.size := by simp
        have HG4 := Lib.hid hg4; have HP4 := Lib.hid hp4; have HL4 := Lib.hid hl4; have HS4 := Lib.hid hs4
        clear hown hmod hobp hg3 hbx2 hg4 hp4 hl4 hs4
        obtain ⟨S1, ob1, rows1, hS1, hob1, hr1, hr2, hown1⟩ := HNO.out.open (HG4.out.allocd (.cells #[.int .i64 na.id, .string na.typ, .slice oav na.props.length capv] 94))
        have HS1 := Lib.hid hS1; have HOB1 := Lib.hid hob1; have HR1 := Lib.hid hr1; have HR2 := Lib.hid hr2; have HOWN1 := Lib.hid hown1
        obtain ⟨oau, capu, rfl, -, -⟩ := hown1.isSlice
        have HTK := Lib.hid (show (l.take k).length = k by simp; omega)
        have hrd := Rd.lit (w2.setCell ⟨wr.heap.size, 2, none⟩ (.slice oav na.props.length capv)) #[.int .i64 na.id, .string na.typ, .slice oav na.props.length capv] 94 3 1 rfl
        simp only [World.size_setCell] at hrd
        have HRD := Lib.hid hrd
        clear hS1 hob1 hr1 hr2 hown1 hrd
        go_wp2_with (at_builtin; go_must (refine wpList_append_S _ rfl (.tmp 21) (.tmp 23) 37 rfl 94 iN _ 3 48 Tryz.underlying37 hiN hzN0 hzN1 hzN2 rfl (by decide) (.slice oau (l.take k).length capu) (l.take k).length rows1.flatten ob1 rfl HOWN1.out (.slice (some ⟨w2.heap.size, 0, none⟩) 1 1) rfl 1 _ HRD.out ?one ?c1 ?c2 ?nx))
        case one => first | exact ⟨rfl, rfl, rfl⟩ | (intro u hu; simp only [List.mem_cons, List.not_mem_nil, or_false] at hu; rcases hu with rfl | rfl | rfl <;> rfl)
        case c1 => have := HB.out; have := HTK.out; unfold maxLen; omega
        case c2 => have := HB.out; have := HTK.out; omega
        case nx =>
          intro vn w5 obn hown5 hmod5 hobn
          have hs := hgr.size
          have hs1 := HG4.out.size
          have hs2 := HS4.out
          have hfin : NodesO (fun b => w.heap.size ≤ b) w5 vn (l.take k ++ [na]) :=
            NodesO.close (S := S1) (SP := fun b => obp = some b) (pv := .slice oav na.props.length capv)
              (fun b hb => ⟨(HS1.out b hb).1, by have := (HS1.out b hb).2; simp; omega⟩) (fun g hg => ⟨(HOB1.out g hg).1, (HOB1.out g hg).2.1⟩) HR1.out HR2.out ⟨_, HOWN1.out⟩
              (HP4.out.grow ((Grow.rfl' _).allocd _)) (fun b hb => ⟨by have := (HL4.out b hb).1; omega, by have := (HL4.out b hb).2; simp; omega⟩)
              (fun g hg h' => by have := (HOB1.out g hg).2.2; have := (HL4.out g h').1; omega) (fun g hg => by simp at hg; omega)
              (by rw [HTK.out]; exact hown5) hmod5 (by simpa using hobn)
          have hg5 : Grow w w5 := (hgr.step (HG4.out.allocd _)).modd hmod5 (fun x hx => (HOB1.out x hx).1)
          have HFIN := Lib.hid hfin; have HG5 := Lib.hid hg5
          clear hfin hg5 hmod5 hobn hown5 hs hs1 hs2
          go_wp2_with fail
          go_roundg (l.length - (k + 1))
          case measure => omega
          case rel => exact ⟨k + 1, by omega, rfl, by go_num, by rw [HE.out]; exact HFIN.out, HG5.out⟩
    · have HX := Lib.hid (show l.take k = l from List.take_of_length_le (by omega))
      go_wp2_with fail
      go_ret
      exact ⟨_, rfl, by rw [← HX.out]; exact HNO.out, hgr⟩
set_option maxRecDepth 100000 in
set_option maxHeartbeats 400000 in
theorem copyEdges (S : Nat → Prop) (v : Value) (l : List PEdge) (w : World) (hl : EdgesR S w v l) (hb : l.length ≤ 1099511627776) (hpb : ∀ x ∈ l, x.props.length ≤ 1099511627776) :
    Calls Tryz.prog 138 #[v] w fun e w' => ∃ v', e = .returned v' ∧ EdgesO (fun b => w.heap.size ≤ b) w' v' l ∧ Grow w w' := by
  obtain ⟨aa, ca, rfl, hal, hac, hA⟩ := SlR.open hl
  clear hl
  unfold maxLen at hac
  have HA := Lib.hid hA; clear hA
  have HP := Lib.hid hpb; clear hpb
  have HB := Lib.hid hb; clear hb
  obtain ⟨iP, hiP, hzP0, hzP1, hzP2⟩ := info_parts infoProp
  obtain ⟨iN, hiN, hzN0, hzN1, hzN2⟩ := info_parts infoEdge
  go_enter Tryz.func138, Tryz.ntmps138
  go_wp2
  go_loopg [3, 4] l.length (fun g vo i wr => ∃ k : Nat, k ≤ l.length ∧ g = l.length - k ∧ i = .int .i64 k ∧ EdgesO (fun b => w.heap.size ≤ b) wr vo (l.take k) ∧ Grow w wr)
  case atStart => exact ⟨0, by omega, by omega, rfl, by simpa using EdgesO.nil _ w, Grow.rfl' w⟩
  case round =>
    obtain ⟨k, hk, rfl, rfl, hno, hgr⟩ := hrel
    have HNO := Lib.hid hno; clear hno
    by_cases hlt : k < l.length
    · obtain ⟨ba, oa, ra, rfl, hSa, hba, hRa, hca⟩ := HA.out k l[k] (List.getElem?_eq_getElem hlt)
      obtain ⟨pva, hba', a0, a1, a2, a3, a4, hpa⟩ := hRa.at hba hgr hca
      clear hca hRa hSa hba
      have HE := Lib.hid (show l.take (k + 1) = l.take k ++ [l[k]] from List.take_succ_eq_append_getElem hlt)
      have HPL := Lib.hid (HP.out l[k] (List.getElem_mem hlt))
      generalize l[k] = na at *
      have HPA := Lib.hid hpa
      obtain ⟨oap, cap, rfl⟩ := hpa.isSlice
      clear hpa
      have hO := OwnS.lit (wr.alloc (.cells #[.int .i64 na.id, .string na.typ, .int .i64 na.from_, .int .i64 na.to_, .slice oap na.props.length cap] 98)) #[] 123 4 0 (by simp [maxLen]) rfl
      simp only [World.size_alloc] at hO
      have hg2 : Grow wr ((wr.alloc (.cells #[.int .i64 na.id, .string na.typ, .int .i64 na.from_, .int .i64 na.to_, .slice oap na.props.length cap] 98)).alloc (.cells #[] 123)) := ((Grow.rfl' wr).allocd _).allocd _
      have hbx : ((wr.alloc (.cells #[.int .i64 na.id, .string na.typ, .int .i64 na.from_, .int .i64 na.to_, .slice oap na.props.length cap] 98)).alloc (.cells #[] 123)).heap[wr.heap.size]? = some (.cells #[.int .i64 na.id, .string na.typ, .int .i64 na.from_, .int .i64 na.to_, .slice oap na.props.length cap] 98 (0, 0)) := by
        rw [Below.heap_alloc _ _ _ (by simp)]
        exact heap_alloc_new wr _
      have HO := Lib.hid hO; have HG2 := Lib.hid hg2; have HBX := Lib.hid hbx
      clear hO hg2 hbx
      go_wp2_with (at_builtin; go_must (refine wpList_append_S _ rfl (.tmp 16) (.tmp 18) 92 rfl 123 iP _ 4 48 Tryz.underlying92 hiP hzP0 hzP1 hzP2 rfl (by decide) (.slice (some ⟨wr.heap.size + 1, 0, none⟩) 0 0) 0 [] (some (wr.heap.size + 1)) rfl HO.out (.slice oap na.props.length cap) rfl na.props.length (na.props.map PProp.cells).flatten (HPA.out.rd.grow HG2.out) ?one ?c1 ?c2 ?nx))
      case one => exact oneCell_props _
      case c1 => have := HPL.out; unfold maxLen; omega
      case c2 => have := HPL.out; omega
      case nx =>
        intro vp w2 obp hown hmod hobp _
        have hg3 : Grow wr w2 := HG2.out.modd hmod (fun x hx => by omega)
        have hbx2 : w2.heap[wr.heap.size]? = some (.cells #[.int .i64 na.id, .string na.typ, .int .i64 na.from_, .int .i64 na.to_, .slice oap na.props.length cap] 98 (0, 0)) := by
          rw [hmod.block _ (by simp; omega) (by omega)]; exact HBX.out
        have c0 : w2.cell? ⟨wr.heap.size, 0, none⟩ = some (.int .i64 na.id) := by rw [blk_cell hbx2]; rfl
        have c1 : w2.cell? ⟨wr.heap.size, 1, none⟩ = some (.string na.typ) := by rw [blk_cell hbx2]; rfl
        have c2 : w2.cell? ⟨wr.heap.size, 2, none⟩ = some (.int .i64 na.from_) := by rw [blk_cell hbx2]; rfl
        have c3 : w2.cell? ⟨wr.heap.size, 3, none⟩ = some (.int .i64 na.to_) := by rw [blk_cell hbx2]; rfl
        have c4 : w2.cell? ⟨wr.heap.size, 4, none⟩ = some (.slice oap na.props.length cap) := by rw [blk_cell hbx2]; rfl
        have f2 := blk_free hbx2 4
        have hs2 : wr.heap.size + 2 ≤ w2.heap.size := by have := hmod.size; simpa using this
        obtain ⟨oav, capv, rfl, -, -⟩ := hown.isSlice
        have hg4 : Grow wr (w2.setCell ⟨wr.heap.size, 4, none⟩ (.slice oav na.props.length capv)) := hg3.setd (Nat.le_refl _) _
        have hp4 : PropsR (fun b => obp = some b) (w2.setCell ⟨wr.heap.size, 4, none⟩ (.slice oav na.props.length capv)) (.slice oav na.props.length capv) na.props :=
          hown.props.mod ((Mod.rfl' (fun b => b = wr.heap.size) w2).setd (.inl rfl) _) (fun b hb h => by
            rcases hobp with h' | ⟨g, h', hge⟩ <;> (rw [h'] at hb; cases hb; omega))
        have hl4 : ∀ b, obp = some b → wr.heap.size + 1 ≤ b ∧ b < w2.heap.size := fun b hb => ⟨by rcases hobp with h' | ⟨g, h', hge⟩ <;> (rw [h'] at hb; cases hb; omega), hown.lt b hb⟩
        have hs4 : (w2.setCell ⟨wr.heap.size, 4, none⟩ (.slice oav na.props.length capv)).heap.size = w2.heap.size := by simp
        have HG4 := Lib.hid hg4; have HP4 := Lib.hid hp4; have HL4 := Lib.hid hl4; have HS4 := Lib.hid hs4
        clear hown hmod hobp hg3 hbx2 hg4 hp4 hl4 hs4
        obtain ⟨S1, ob1, rows1, hS1, hob1, hr1, hr2, hown1⟩ := HNO.out.open (HG4.out.allocd (.cells #[.int .i64 na.id, .string na.typ, .int .i64 na.from_, .int .i64 na.to_, .slice oav na.props.length capv] 98))
        have HS1 := Lib.hid hS1; have HOB1 := Lib.hid hob1; have HR1 := Lib.hid hr1; have HR2 := Lib.hid hr2; have HOWN1 := Lib.hid hown1
        obtain ⟨oau, capu, rfl, -, -⟩ := hown1.isSlice
        have HTK := Lib.hid (show (l.take k).length = k by simp; omega)
        have hrd := Rd.lit (w2.setCell ⟨wr.heap.size, 4, none⟩ (.slice oav na.props.length capv)) #[.int .i64 na.id, .string na.typ, .int .i64 na.from_, .int .i64 na.to_, .slice oav na.props.length capv] 98 5 1 rfl
        simp only [World.size_setCell] at hrd
        have HRD := Lib.hid hrd
        clear hS1 hob1 hr1 hr2 hown1 hrd
        go_wp2_with (at_builtin; go_must (refine wpList_append_S _ rfl (.tmp 21) (.tmp 23) 39 rfl 98 iN _ 5 64 Tryz.underlying39 hiN hzN0 hzN1 hzN2 rfl (by decide) (.slice oau (l.take k).length capu) (l.take k).length rows1.flatten ob1 rfl HOWN1.out (.slice (some ⟨w2.heap.size, 0, none⟩) 1 1) rfl 1 _ HRD.out ?one ?c1 ?c2 ?nx))
        case one => first | exact ⟨rfl, rfl, rfl, rfl, rfl⟩ | (intro u hu; simp only [List.mem_cons, List.not_mem_nil, or_false] at hu; rcases hu with rfl | rfl | rfl | rfl | rfl <;> rfl)
        case c1 => have := HB.out; have := HTK.out; unfold maxLen; omega
        case c2 => have := HB.out; have := HTK.out; omega
        case nx =>
          intro vn w5 obn hown5 hmod5 hobn
          have hs := hgr.size
          have hs1 := HG4.out.size
          have hs2 := HS4.out
          have hfin : EdgesO (fun b => w.heap.size ≤ b) w5 vn (l.take k ++ [na]) :=
            EdgesO.close (S := S1) (SP := fun b => obp = some b) (pv := .slice oav na.props.length capv)
              (fun b hb => ⟨(HS1.out b hb).1, by have := (HS1.out b hb).2; simp; omega⟩) (fun g hg => ⟨(HOB1.out g hg).1, (HOB1.out g hg).2.1⟩) HR1.out HR2.out ⟨_, HOWN1.out⟩
              (HP4.out.grow ((Grow.rfl' _).allocd _)) (fun b hb => ⟨by have := (HL4.out b hb).1; omega, by have := (HL4.out b hb).2; simp; omega⟩)
              (fun g hg h' => by have := (HOB1.out g hg).2.2; have := (HL4.out g h').1; omega) (fun g hg => by simp at hg; omega)
              (by rw [HTK.out]; exact hown5) hmod5 (by simpa using hobn)
          have hg5 : Grow w w5 := (hgr.step (HG4.out.allocd _)).modd hmod5 (fun x hx => (HOB1.out x hx).1)
          have HFIN := Lib.hid hfin; have HG5 := Lib.hid hg5
          clear hfin hg5 hmod5 hobn hown5 hs hs1 hs2
          go_wp2_with fail
          go_roundg (l.length - (k + 1))
          case measure => omega
          case rel => exact ⟨k + 1, by omega, rfl, by go_num, by rw [HE.out]; exact HFIN.out, HG5.out⟩
    · have HX := Lib.hid (show l.take k = l from List.take_of_length_le (by omega))
      go_wp2_with fail
      go_ret
      exact ⟨_, rfl, by rw [← HX.out]; exact HNO.out, hgr⟩
end Go.Hg

namespace Go.Hg
open Go.RowKit Go.Proofs

theorem flatten_len {α : Type} : ∀ (rows : List (List α)) (sz : Nat), (∀ r ∈ rows, r.length = sz) → rows.flatten.length = rows.length * sz
  | [], sz, _ => by simp
  | r :: rows, sz, h => by
    rw [List.flatten_cons, List.length_append, flatten_len rows sz (fun r hr => h r (by simp [hr])), h r (by simp), List.length_cons, Nat.succ_mul]; omega
theorem SlR.rd {α : Type} {S : Nat → Prop} {w : World} {sz : Nat} {R : α → List Value → Prop} {v : Value} {l : List α} (h : SlR S w sz R v l) (hsz : 0 < sz) (hR : ∀ x r, R x r → r.length = sz) :
    ∃ rows : List (List Value), rows.length = l.length ∧ (∀ (k : Nat) x r, l[k]? = some x → rows[k]? = some r → R x r ∧ r.length = sz) ∧ Rd w sz v l.length rows.flatten := by
  obtain ⟨a, cap, rows, hv, hl, hc, hr, hR1, h⟩ := h
  have hlen : ∀ r ∈ rows, r.length = sz := fun r hr' => by
    obtain ⟨k, hk, rfl⟩ := List.mem_iff_getElem.1 hr'
    exact hR _ _ (hR1 k l[k] _ (List.getElem?_eq_getElem (by omega)) (List.getElem?_eq_getElem hk))
  have hfl : rows.flatten.length = l.length * sz := by rw [flatten_len rows sz hlen, hr]
  refine ⟨rows, hr, fun k x r a b => ⟨hR1 k x r a b, hlen r (List.mem_of_getElem? b)⟩, hfl, a, cap, hv, ?_⟩
  by_cases h0 : l.length = 0
  · exact .inl h0
  · obtain ⟨b, off, ha, hS, hb, hcell⟩ := h (by omega)
    refine .inr ⟨_, ha, fun j u hu => ?_⟩
    have hj : j < l.length * sz := by rw [← hfl]; exact (List.getElem?_eq_some_iff.1 hu).1
    have hk : j / sz < rows.length := by rw [hr]; exact (Nat.div_lt_iff_lt_mul hsz).2 hj
    have hrow : rows[j / sz]? = some rows[j / sz] := List.getElem?_eq_getElem hk
    have hrl : rows[j / sz].length = sz := hlen _ (List.getElem_mem hk)
    have hm : j % sz < sz := Nat.mod_lt _ hsz
    have hc1 : rows[j / sz][j % sz]? = some (rows[j / sz][j % sz]'(by rw [hrl]; exact hm)) := List.getElem?_eq_getElem _
    have hf := flatten_at rows sz (j / sz) (j % sz) _ _ hlen hrow hc1
    have e : j / sz * sz + j % sz = j := by rw [Nat.mul_comm]; exact Nat.div_add_mod j sz
    rw [e, hu] at hf
    have hcc := hcell _ _ (j % sz) _ hrow hc1
    rw [Nat.add_assoc, e] at hcc
    rw [hf]
    unfold Addr.add
    split
    · rename_i hz; subst hz; simpa using hcc
    · exact hcc
theorem one_flat {α : Type} {R : α → List Value → Prop} {l : List α} {rows : List (List Value)} {sz : Nat} (hl : rows.length = l.length) (h : ∀ (k : Nat) x r, l[k]? = some x → rows[k]? = some r → R x r ∧ r.length = sz)
    (h1 : ∀ x r, R x r → ∀ u ∈ r, u.oneCell' = true) : ∀ u ∈ rows.flatten, u.oneCell' = true := by
  intro u hu
  obtain ⟨r, hr, hur⟩ := List.mem_flatten.1 hu
  obtain ⟨k, hk, rfl⟩ := List.mem_iff_getElem.1 hr
  exact h1 _ _ (h k l[k] _ (List.getElem?_eq_getElem (by omega)) (List.getElem?_eq_getElem hk)).1 u hur
theorem RNode.one {S : Nat → Prop} {w : World} {x : PNode} {r : List Value} (h : RNode S w x r) : ∀ u ∈ r, u.oneCell' = true := by
  obtain ⟨pv, rfl, hp⟩ := h
  obtain ⟨_, _, rfl⟩ := hp.isSlice
  intro u hu; simp only [List.mem_cons, List.not_mem_nil, or_false] at hu; rcases hu with rfl | rfl | rfl <;> rfl
theorem REdge.one {S : Nat → Prop} {w : World} {x : PEdge} {r : List Value} (h : REdge S w x r) : ∀ u ∈ r, u.oneCell' = true := by
  obtain ⟨pv, rfl, hp⟩ := h
  obtain ⟨_, _, rfl⟩ := hp.isSlice
  intro u hu; simp only [List.mem_cons, List.not_mem_nil, or_false] at hu; rcases hu with rfl | rfl | rfl | rfl | rfl <;> rfl
theorem RProp.one {x : PProp} {r : List Value} (h : RProp x r) : ∀ u ∈ r, u.oneCell' = true := by
  unfold RProp at h; subst h
  intro u hu; simp only [PProp.cells, List.mem_cons, List.not_mem_nil, or_false] at hu; rcases hu with rfl | rfl | rfl | rfl <;> rfl

set_option maxRecDepth 100000 in
set_option maxHeartbeats 1000000 in
theorem cloneProp (S : Nat → Prop) (v : Value) (l : List PProp) (w : World) (hl : SlR S w 4 (RProp) v l) (hb : l.length ≤ 1099511627776) :
    Calls Tryz.prog 72 #[v] w fun e w' => ∃ v' ob, e = .returned v' ∧ OwnL w' 123 4 (RProp) v' l ob ∧ Grow w w' ∧ (∀ b, ob = some b → w.heap.size ≤ b) := by
  have hnl := fun (w : World) a n c => Lib.run_eql_slice_nil (P := Tryz.prog) w 92 123 a n c 0 0 Tryz.underlying92
  obtain ⟨i0, hi, hz0, hz1, hz2⟩ := info_parts infoProp
  obtain ⟨rows, h1, h2, h3⟩ := SlR.rd hl (by decide) (fun x r h => by unfold RProp at h; rw [h]; rfl)
  have hone := one_flat h1 h2 (fun x r h => h.one)
  obtain ⟨oa, cap, rfl, hle, hcm, hA⟩ := SlR.open hl
  cases oa with
  | none =>
    have h0 : l = [] := by
      cases l with
      | nil => rfl
      | cons x t => obtain ⟨_, _, _, h, _⟩ := hA 0 x rfl; cases h
    subst h0
    clear hA hl h1 h2 h3 hone hb hle hcm
    go_enter Tryz.func72, Tryz.ntmps72
    go_wp2
    go_ret
    exact ⟨_, none, rfl, OwnL.nil _ _ _ _, Grow.rfl' w, by simp⟩
  | some a =>
    have hO := OwnS.lit w #[] 123 4 0 (by simp [maxLen]) rfl
    have hg : Grow w (w.alloc (.cells #[] 123)) := (Grow.rfl' w).allocd _
    have HO := Lib.hid hO; have HG := Lib.hid hg; have H1 := Lib.hid h1; have H2 := Lib.hid h2; have H3 := Lib.hid h3; have HN := Lib.hid hone; have HB := Lib.hid hb
    clear hO hg h1 h2 h3 hone hb hA hl hle hcm
    go_enter Tryz.func72, Tryz.ntmps72
    go_wp2_with (at_builtin; go_must (refine wpList_append_S _ rfl (.tmp 5) (.tmp 6) 92 rfl 123 i0 _ 4 48 Tryz.underlying92 hi hz0 hz1 hz2 rfl (by decide) (.slice (some ⟨w.heap.size, 0, none⟩) 0 0) 0 [] (some w.heap.size) rfl HO.out (.slice (some a) l.length cap) rfl l.length rows.flatten (H3.out.grow HG.out) HN.out (by have := HB.out; unfold maxLen; omega) (by have := HB.out; omega) ?_))
    intro v' w2 ob' hown hmod hob _
    have hg2 : Grow w w2 := HG.out.modd hmod (fun b hb => by first | (simp only [Option.some.injEq] at hb; omega) | omega)
    have hfin : OwnL w2 123 4 (RProp) v' l ob' := ⟨rows, H1.out, fun k x r ha hb => ⟨(H2.out k x r ha hb).1, (H2.out k x r ha hb).2⟩, by simpa using hown⟩
    have hnew : ∀ b, ob' = some b → w.heap.size ≤ b := fun b hb => by
      rcases hob with h | ⟨g, h, hge⟩
      · rw [h] at hb; cases hb; exact Nat.le_refl _
      · rw [h] at hb; cases hb; first | omega | (simp at hge; omega)
    have HF := Lib.hid hfin; have HG2 := Lib.hid hg2; have HNEW := Lib.hid hnew
    clear hown hmod hob hg2 hfin hnew
    go_wp2_with fail
    go_ret
    exact ⟨_, ob', rfl, HF.out, HG2.out, HNEW.out⟩

set_option maxRecDepth 100000 in
set_option maxHeartbeats 1000000 in
theorem cloneNode (S : Nat → Prop) (v : Value) (l : List PNode) (w : World) (hl : SlR S w 3 (RNode S w) v l) (hb : l.length ≤ 1099511627776) :
    Calls Tryz.prog 71 #[v] w fun e w' => ∃ v' ob, e = .returned v' ∧ OwnL w' 94 3 (RNode S w') v' l ob ∧ Grow w w' ∧ (∀ b, ob = some b → w.heap.size ≤ b) := by
  have hnl := fun (w : World) a n c => Lib.run_eql_slice_nil (P := Tryz.prog) w 37 94 a n c 0 0 Tryz.underlying37
  obtain ⟨i0, hi, hz0, hz1, hz2⟩ := info_parts infoNode
  obtain ⟨rows, h1, h2, h3⟩ := SlR.rd hl (by decide) (fun x r h => by obtain ⟨pv, rfl, _⟩ := h; rfl)
  have hone := one_flat h1 h2 (fun x r h => h.one)
  obtain ⟨oa, cap, rfl, hle, hcm, hA⟩ := SlR.open hl
  cases oa with
  | none =>
    have h0 : l = [] := by
      cases l with
      | nil => rfl
      | cons x t => obtain ⟨_, _, _, h, _⟩ := hA 0 x rfl; cases h
    subst h0
    clear hA hl h1 h2 h3 hone hb hle hcm
    go_enter Tryz.func71, Tryz.ntmps71
    go_wp2
    go_ret
    exact ⟨_, none, rfl, OwnL.nil _ _ _ _, Grow.rfl' w, by simp⟩
  | some a =>
    have hO := OwnS.lit w #[] 94 3 0 (by simp [maxLen]) rfl
    have hg : Grow w (w.alloc (.cells #[] 94)) := (Grow.rfl' w).allocd _
    have HO := Lib.hid hO; have HG := Lib.hid hg; have H1 := Lib.hid h1; have H2 := Lib.hid h2; have H3 := Lib.hid h3; have HN := Lib.hid hone; have HB := Lib.hid hb
    clear hO hg h1 h2 h3 hone hb hA hl hle hcm
    go_enter Tryz.func71, Tryz.ntmps71
    go_wp2_with (at_builtin; go_must (refine wpList_append_S _ rfl (.tmp 5) (.tmp 6) 37 rfl 94 i0 _ 3 48 Tryz.underlying37 hi hz0 hz1 hz2 rfl (by decide) (.slice (some ⟨w.heap.size, 0, none⟩) 0 0) 0 [] (some w.heap.size) rfl HO.out (.slice (some a) l.length cap) rfl l.length rows.flatten (H3.out.grow HG.out) HN.out (by have := HB.out; unfold maxLen; omega) (by have := HB.out; omega) ?_))
    intro v' w2 ob' hown hmod hob _
    have hg2 : Grow w w2 := HG.out.modd hmod (fun b hb => by first | (simp only [Option.some.injEq] at hb; omega) | omega)
    have hfin : OwnL w2 94 3 (RNode S w2) v' l ob' := ⟨rows, H1.out, fun k x r ha hb => ⟨(H2.out k x r ha hb).1.mod (Mod.of_grow (F := fun _ => False) hg2) (fun _ _ => id), (H2.out k x r ha hb).2⟩, by simpa using hown⟩
    have hnew : ∀ b, ob' = some b → w.heap.size ≤ b := fun b hb => by
      rcases hob with h | ⟨g, h, hge⟩
      · rw [h] at hb; cases hb; exact Nat.le_refl _
      · rw [h] at hb; cases hb; first | omega | (simp at hge; omega)
    have HF := Lib.hid hfin; have HG2 := Lib.hid hg2; have HNEW := Lib.hid hnew
    clear hown hmod hob hg2 hfin hnew
    go_wp2_with fail
    go_ret
    exact ⟨_, ob', rfl, HF.out, HG2.out, HNEW.out⟩

set_option maxRecDepth 100000 in
set_option maxHeartbeats 1000000 in
theorem cloneEdge (S : Nat → Prop) (v : Value) (l : List PEdge) (w : World) (hl : SlR S w 5 (REdge S w) v l) (hb : l.length ≤ 1099511627776) :
    Calls Tryz.prog 73 #[v] w fun e w' => ∃ v' ob, e = .returned v' ∧ OwnL w' 98 5 (REdge S w') v' l ob ∧ Grow w w' ∧ (∀ b, ob = some b → w.heap.size ≤ b) := by
  have hnl := fun (w : World) a n c => Lib.run_eql_slice_nil (P := Tryz.prog) w 39 98 a n c 0 0 Tryz.underlying39
  obtain ⟨i0, hi, hz0, hz1, hz2⟩ := info_parts infoEdge
  obtain ⟨rows, h1, h2, h3⟩ := SlR.rd hl (by decide) (fun x r h => by obtain ⟨pv, rfl, _⟩ := h; rfl)
  have hone := one_flat h1 h2 (fun x r h => h.one)
  obtain ⟨oa, cap, rfl, hle, hcm, hA⟩ := SlR.open hl
  cases oa with
  | none =>
    have h0 : l = [] := by
      cases l with
      | nil => rfl
      | cons x t => obtain ⟨_, _, _, h, _⟩ := hA 0 x rfl; cases h
    subst h0
    clear hA hl h1 h2 h3 hone hb hle hcm
    go_enter Tryz.func73, Tryz.ntmps73
    go_wp2
    go_ret
    exact ⟨_, none, rfl, OwnL.nil _ _ _ _, Grow.rfl' w, by simp⟩
  | some a =>
    have hO := OwnS.lit w #[] 98 5 0 (by simp [maxLen]) rfl
    have hg : Grow w (w.alloc (.cells #[] 98)) := (Grow.rfl' w).allocd _
    have HO := Lib.hid hO; have HG := Lib.hid hg; have H1 := Lib.hid h1; have H2 := Lib.hid h2; have H3 := Lib.hid h3; have HN := Lib.hid hone; have HB := Lib.hid hb
    clear hO hg h1 h2 h3 hone hb hA hl hle hcm
    go_enter Tryz.func73, Tryz.ntmps73
    go_wp2_with (at_builtin; go_must (refine wpList_append_S _ rfl (.tmp 5) (.tmp 6) 39 rfl 98 i0 _ 5 64 Tryz.underlying39 hi hz0 hz1 hz2 rfl (by decide) (.slice (some ⟨w.heap.size, 0, none⟩) 0 0) 0 [] (some w.heap.size) rfl HO.out (.slice (some a) l.length cap) rfl l.length rows.flatten (H3.out.grow HG.out) HN.out (by have := HB.out; unfold maxLen; omega) (by have := HB.out; omega) ?_))
    intro v' w2 ob' hown hmod hob _
    have hg2 : Grow w w2 := HG.out.modd hmod (fun b hb => by first | (simp only [Option.some.injEq] at hb; omega) | omega)
    have hfin : OwnL w2 98 5 (REdge S w2) v' l ob' := ⟨rows, H1.out, fun k x r ha hb => ⟨(H2.out k x r ha hb).1.mod (Mod.of_grow (F := fun _ => False) hg2) (fun _ _ => id), (H2.out k x r ha hb).2⟩, by simpa using hown⟩
    have hnew : ∀ b, ob' = some b → w.heap.size ≤ b := fun b hb => by
      rcases hob with h | ⟨g, h, hge⟩
      · rw [h] at hb; cases hb; exact Nat.le_refl _
      · rw [h] at hb; cases hb; first | omega | (simp at hge; omega)
    have HF := Lib.hid hfin; have HG2 := Lib.hid hg2; have HNEW := Lib.hid hnew
    clear hown hmod hob hg2 hfin hnew
    go_wp2_with fail
    go_ret
    exact ⟨_, ob', rfl, HF.out, HG2.out, HNEW.out⟩

end Go.Hg

namespace Go.Hg
open Go.RowKit Go.Proofs

def cmp3 (a b : Int) : Int := if a < b then -1 else if b < a then 1 else 0
set_option maxHeartbeats 400000 in
theorem compareAny (a b : Int) (w : World) :
    Calls Tryz.prog 147 #[.int .i64 a, .int .i64 b] w fun e w' => e = .returned (.int .i64 (cmp3 a b)) ∧ w' = w := by
  go_enter Tryz.func147, Tryz.ntmps147
  go_wp2
  all_goals (go_ret; exact ⟨by simp [cmp3]; omega, rfl⟩)
set_option maxHeartbeats 400000 in
theorem node1 (x : PNode) (pv : Value) (a : Int) (w : World) (S : Nat → Prop) (hp : PropsR S w pv x.props) :
    Calls Tryz.prog 146 #[.agg #[.int .i64 x.id, .string x.typ, pv], .int .i64 a] w fun e w' => e = .returned (.int .i64 (cmp3 x.id a)) ∧ Grow w w' := by
  obtain ⟨_, _, rfl⟩ := hp.isSlice
  have hg : ∀ o1, Grow w (w.alloc o1) := fun o1 => (Grow.rfl' w).allocd o1
  clear hp
  go_enter Tryz.func146, Tryz.ntmps146
  go_wp2_with (go_at_call 147; refine (compareAny _ _ _).mono ?_; rintro e w' ⟨rfl, rfl⟩)
  go_ret
  exact ⟨rfl, hg _⟩
set_option maxHeartbeats 400000 in
theorem edge1 (x : PEdge) (pv : Value) (a : Int) (w : World) (S : Nat → Prop) (hp : PropsR S w pv x.props) :
    Calls Tryz.prog 187 #[.agg #[.int .i64 x.id, .string x.typ, .int .i64 x.from_, .int .i64 x.to_, pv], .int .i64 a] w fun e w' => e = .returned (.int .i64 (cmp3 x.id a)) ∧ Grow w w' := by
  obtain ⟨_, _, rfl⟩ := hp.isSlice
  have hg : ∀ o1, Grow w (w.alloc o1) := fun o1 => (Grow.rfl' w).allocd o1
  clear hp
  go_enter Tryz.func187, Tryz.ntmps187
  go_wp2_with (go_at_call 147; refine (compareAny _ _ _).mono ?_; rintro e w' ⟨rfl, rfl⟩)
  go_ret
  exact ⟨rfl, hg _⟩

/-- where an Id stands in rising Ids, and whether it does -/
def BsOk (ids : List Int) (id : Int) (i : Nat) (b : Bool) : Prop := i ≤ ids.length ∧ ((b = true ∧ ids.idxOf? id = some i) ∨ (b = false ∧ ids.idxOf? id = none))
theorem bs_end {ids : List Int} {id : Int} {i : Nat} (hs : ids.Pairwise (· < ·)) (hi : i ≤ ids.length) (hlo : ∀ t x, t < i → ids[t]? = some x → x < id) (hhi : ∀ t x, i ≤ t → ids[t]? = some x → id ≤ x) (b : Bool)
    (hb : b = true ↔ ids[i]? = some id) : BsOk ids id i b := by
  refine ⟨hi, ?_⟩
  cases b with
  | true =>
    refine .inl ⟨rfl, ?_⟩
    have h := hb.1 rfl
    obtain ⟨hl, he⟩ := List.getElem?_eq_some_iff.1 h
    unfold List.idxOf?
    rw [List.findIdx?_eq_some_iff_getElem]
    refine ⟨hl, by simp [he], fun j hj => ?_⟩
    have := hlo j _ hj (List.getElem?_eq_getElem (by omega))
    simp; omega
  | false =>
    refine .inr ⟨rfl, ?_⟩
    unfold List.idxOf?
    rw [List.findIdx?_eq_none_iff]
    intro x hx
    obtain ⟨k, hk, rfl⟩ := List.mem_iff_getElem.1 hx
    by_cases hki : k < i
    · have := hlo k _ hki (List.getElem?_eq_getElem hk); simp; omega
    · have h1 := hhi k _ (by omega) (List.getElem?_eq_getElem hk)
      by_cases e : ids[k] = id
      · exfalso
        have hlt : i < ids.length := by omega
        have h2 := hhi i _ (Nat.le_refl _) (List.getElem?_eq_getElem hlt)
        by_cases hik : i = k
        · subst hik
          exact absurd (hb.2 (by rw [List.getElem?_eq_getElem hk, e])) (by simp)
        · have h3 := List.pairwise_iff_getElem.1 hs i k hlt hk (by omega)
          omega
      · simpa using e

def BsPost (ids : List Int) (id : Int) (w : World) (e : Ending) (w' : World) : Prop := ∃ (i : Nat) (b : Bool), e = .returned (.tuple #[.int .i64 i, .bool b]) ∧ BsOk ids id i b ∧ Grow w w'
theorem BsPost.mk {ids : List Int} {id : Int} {w : World} {e : Ending} {w' : World} (i : Nat) (b : Bool) (h1 : e = .returned (.tuple #[.int .i64 i, .bool b])) (h2 : BsOk ids id i b) (h3 : Grow w w') : BsPost ids id w e w' := ⟨i, b, h1, h2, h3⟩

set_option maxRecDepth 100000 in
set_option maxHeartbeats 1000000 in
theorem bsNodes (S : Nat → Prop) (v : Value) (l : List PNode) (id : Int) (w : World) (hl : NodesR S w v l) (hs : (l.map (·.id)).Pairwise (· < ·)) (hb : l.length ≤ 1099511627776) :
    Calls Tryz.prog 145 #[v, .int .i64 id, .func (.func 146) #[] #[]] w (BsPost (l.map (·.id)) id w) := by
  obtain ⟨aa, ca, rfl, hal, hac, hA⟩ := SlR.open hl
  clear hl
  unfold maxLen at hac
  have HA := Lib.hid hA; clear hA
  have HS := Lib.hid hs; have HB := Lib.hid hb; clear hs hb
  go_enter Tryz.func145, Tryz.ntmps145
  go_wp2
  go_loopg [9, 10] l.length (fun g vi vj wr => ∃ i j : Nat, i ≤ j ∧ j ≤ l.length ∧ g = j - i ∧ vi = .int .i64 i ∧ vj = .int .i64 j ∧ (∀ t x, t < i → (l.map (·.id))[t]? = some x → x < id) ∧ (∀ t x, j ≤ t → (l.map (·.id))[t]? = some x → id ≤ x) ∧ Grow w wr)
  case atStart => exact ⟨0, l.length, by omega, by omega, by omega, rfl, rfl, fun t x h => by omega, fun t x h hx => by have := (List.getElem?_eq_some_iff.1 hx).1; simp at this; omega, Grow.rfl' w⟩
  case round =>
    obtain ⟨i, j, hij, hj, rfl, rfl, rfl, hlo, hhi, hgr⟩ := hrel
    have HLO := Lib.hid hlo; have HHI := Lib.hid hhi; clear hlo hhi
    by_cases hlt : i < j
    · obtain ⟨h, hh⟩ : ∃ h, h = (i + j) / 2 := ⟨_, rfl⟩
      have hb1 : i + j ≤ 2 ^ 62 := by have := HB.out; omega
      have hh1 : i ≤ h := by omega
      have hh2 : h < j := by omega
      have hhl : h < l.length := by omega
      obtain ⟨ba, oa, ra, rfl, hSa, hba, hRa, hca⟩ := HA.out h l[h] (List.getElem?_eq_getElem hhl)
      obtain ⟨pva, hba', a0, a1, a2, hpa⟩ := hRa.at hba hgr hca
      clear hca hRa hSa hba
      have HE := Lib.hid (show (l.map (·.id))[h]? = some l[h].id by rw [List.getElem?_map, List.getElem?_eq_getElem hhl]; rfl)
      generalize l[h] = x at *
      have HPA := Lib.hid hpa
      obtain ⟨_, _, rfl⟩ := hpa.isSlice
      clear hpa
      have HLT := Lib.hid (show x.id < id → ∀ t y, t < h + 1 → (l.map (·.id))[t]? = some y → y < id from fun hx t y ht hy => by
        by_cases e : t = h
        · subst e; rw [HE.out] at hy; cases hy; exact hx
        · obtain ⟨h1, h2⟩ := List.getElem?_eq_some_iff.1 hy
          obtain ⟨h3, h4⟩ := List.getElem?_eq_some_iff.1 HE.out
          have := List.pairwise_iff_getElem.1 HS.out t h h1 h3 (by omega)
          omega)
      have HGE := Lib.hid (show id ≤ x.id → ∀ t y, h ≤ t → (l.map (·.id))[t]? = some y → id ≤ y from fun hx t y ht hy => by
        by_cases e : t = h
        · subst e; rw [HE.out] at hy; cases hy; exact hx
        · obtain ⟨h1, h2⟩ := List.getElem?_eq_some_iff.1 hy
          obtain ⟨h3, h4⟩ := List.getElem?_eq_some_iff.1 HE.out
          have := List.pairwise_iff_getElem.1 HS.out h t h3 h1 (by omega)
          omega)
      subst hh
      by_cases hx : x.id < id
      · have hc : cmp3 x.id id = -1 := by unfold cmp3; rw [if_pos hx]
        go_wp2_with (go_at_call 146; (with_reducible refine (node1 x _ id _ S HPA.out).mono ?_); rintro e w2 ⟨rfl, hw2⟩; rw [hc])
        go_roundg (j - ((i + j) / 2 + 1))
        case measure => omega
        case rel => exact ⟨(i + j) / 2 + 1, j, by omega, hj, rfl, by go_num, rfl, HLT.out hx, HHI.out, hgr.step ‹_›⟩
      · have hc : ∃ c : Int, cmp3 x.id id = c ∧ 0 ≤ c := by
          unfold cmp3; rw [if_neg hx]; split
          · exact ⟨1, rfl, by omega⟩
          · exact ⟨0, rfl, by omega⟩
        obtain ⟨c, hc, hc0⟩ := hc
        go_wp2_with (go_at_call 146; (with_reducible refine (node1 x _ id _ S HPA.out).mono ?_); rintro e w2 ⟨rfl, hw2⟩; rw [hc])
        go_roundg ((i + j) / 2 - i)
        case measure => omega
        case rel => exact ⟨i, (i + j) / 2, by omega, by omega, rfl, rfl, by go_num, HLO.out, HGE.out (by omega), hgr.step ‹_›⟩
    · obtain rfl : i = j := by omega
      by_cases hil : i < l.length
      · obtain ⟨ba, oa, ra, rfl, hSa, hba, hRa, hca⟩ := HA.out i l[i] (List.getElem?_eq_getElem hil)
        obtain ⟨pva, hba', a0, a1, a2, hpa⟩ := hRa.at hba hgr hca
        clear hca hRa hSa hba
        have HE := Lib.hid (show (l.map (·.id))[i]? = some l[i].id by rw [List.getElem?_map, List.getElem?_eq_getElem hil]; rfl)
        generalize l[i] = x at *
        have HPA := Lib.hid hpa
        obtain ⟨_, _, rfl⟩ := hpa.isSlice
        clear hpa
        have HQ := Lib.hid (show (cmp3 x.id id == 0) = true ↔ (l.map (·.id))[i]? = some id by
          rw [HE.out]; unfold cmp3
          constructor
          · intro h; split at h
            · simp at h
            · split at h
              · simp at h
              · congr 1; omega
          · intro h; simp only [Option.some.injEq] at h; rw [h]; simp)
        go_wp2_with (go_at_call 146; (with_reducible refine (node1 x _ id _ S HPA.out).mono ?_); rintro e w2 ⟨rfl, hw2⟩)
        go_ret2
        exact BsPost.mk i _ rfl (bs_end HS.out (by simp; omega) HLO.out HHI.out _ HQ.out) (hgr.step ‹_›)
      · have HQ := Lib.hid (show false = true ↔ (l.map (·.id))[i]? = some id by
          rw [List.getElem?_eq_none (by simp; omega)]; simp)
        go_wp2_with fail
        go_ret2
        exact BsPost.mk i _ rfl (bs_end HS.out (by simp; omega) HLO.out HHI.out _ HQ.out) hgr
set_option maxRecDepth 100000 in
set_option maxHeartbeats 1000000 in
theorem bsEdges (S : Nat → Prop) (v : Value) (l : List PEdge) (id : Int) (w : World) (hl : EdgesR S w v l) (hs : (l.map (·.id)).Pairwise (· < ·)) (hb : l.length ≤ 1099511627776) :
    Calls Tryz.prog 186 #[v, .int .i64 id, .func (.func 187) #[] #[]] w (BsPost (l.map (·.id)) id w) := by
  obtain ⟨aa, ca, rfl, hal, hac, hA⟩ := SlR.open hl
  clear hl
  unfold maxLen at hac
  have HA := Lib.hid hA; clear hA
  have HS := Lib.hid hs; have HB := Lib.hid hb; clear hs hb
  go_enter Tryz.func186, Tryz.ntmps186
  go_wp2
  go_loopg [9, 10] l.length (fun g vi vj wr => ∃ i j : Nat, i ≤ j ∧ j ≤ l.length ∧ g = j - i ∧ vi = .int .i64 i ∧ vj = .int .i64 j ∧ (∀ t x, t < i → (l.map (·.id))[t]? = some x → x < id) ∧ (∀ t x, j ≤ t → (l.map (·.id))[t]? = some x → id ≤ x) ∧ Grow w wr)
  case atStart => exact ⟨0, l.length, by omega, by omega, by omega, rfl, rfl, fun t x h => by omega, fun t x h hx => by have := (List.getElem?_eq_some_iff.1 hx).1; simp at this; omega, Grow.rfl' w⟩
  case round =>
    obtain ⟨i, j, hij, hj, rfl, rfl, rfl, hlo, hhi, hgr⟩ := hrel
    have HLO := Lib.hid hlo; have HHI := Lib.hid hhi; clear hlo hhi
    by_cases hlt : i < j
    · obtain ⟨h, hh⟩ : ∃ h, h = (i + j) / 2 := ⟨_, rfl⟩
      have hb1 : i + j ≤ 2 ^ 62 := by have := HB.out; omega
      have hh1 : i ≤ h := by omega
      have hh2 : h < j := by omega
      have hhl : h < l.length := by omega
      obtain ⟨ba, oa, ra, rfl, hSa, hba, hRa, hca⟩ := HA.out h l[h] (List.getElem?_eq_getElem hhl)
      obtain ⟨pva, hba', a0, a1, a2, a3, a4, hpa⟩ := hRa.at hba hgr hca
      clear hca hRa hSa hba
      have HE := Lib.hid (show (l.map (·.id))[h]? = some l[h].id by rw [List.getElem?_map, List.getElem?_eq_getElem hhl]; rfl)
      generalize l[h] = x at *
      have HPA := Lib.hid hpa
      obtain ⟨_, _, rfl⟩ := hpa.isSlice
      clear hpa
      have HLT := Lib.hid (show x.id < id → ∀ t y, t < h + 1 → (l.map (·.id))[t]? = some y → y < id from fun hx t y ht hy => by
        by_cases e : t = h
        · subst e; rw [HE.out] at hy; cases hy; exact hx
        · obtain ⟨h1, h2⟩ := List.getElem?_eq_some_iff.1 hy
          obtain ⟨h3, h4⟩ := List.getElem?_eq_some_iff.1 HE.out
          have := List.pairwise_iff_getElem.1 HS.out t h h1 h3 (by omega)
          omega)
      have HGE := Lib.hid (show id ≤ x.id → ∀ t y, h ≤ t → (l.map (·.id))[t]? = some y → id ≤ y from fun hx t y ht hy => by
        by_cases e : t = h
        · subst e; rw [HE.out] at hy; cases hy; exact hx
        · obtain ⟨h1, h2⟩ := List.getElem?_eq_some_iff.1 hy
          obtain ⟨h3, h4⟩ := List.getElem?_eq_some_iff.1 HE.out
          have := List.pairwise_iff_getElem.1 HS.out h t h3 h1 (by omega)
          omega)
      subst hh
      by_cases hx : x.id < id
      · have hc : cmp3 x.id id = -1 := by unfold cmp3; rw [if_pos hx]
        go_wp2_with (go_at_call 187; (with_reducible refine (edge1 x _ id _ S HPA.out).mono ?_); rintro e w2 ⟨rfl, hw2⟩; rw [hc])
        go_roundg (j - ((i + j) / 2 + 1))
        case measure => omega
        case rel => exact ⟨(i + j) / 2 + 1, j, by omega, hj, rfl, by go_num, rfl, HLT.out hx, HHI.out, hgr.step ‹_›⟩
      · have hc : ∃ c : Int, cmp3 x.id id = c ∧ 0 ≤ c := by
          unfold cmp3; rw [if_neg hx]; split
          · exact ⟨1, rfl, by omega⟩
          · exact ⟨0, rfl, by omega⟩
        obtain ⟨c, hc, hc0⟩ := hc
        go_wp2_with (go_at_call 187; (with_reducible refine (edge1 x _ id _ S HPA.out).mono ?_); rintro e w2 ⟨rfl, hw2⟩; rw [hc])
        go_roundg ((i + j) / 2 - i)
        case measure => omega
        case rel => exact ⟨i, (i + j) / 2, by omega, by omega, rfl, rfl, by go_num, HLO.out, HGE.out (by omega), hgr.step ‹_›⟩
    · obtain rfl : i = j := by omega
      by_cases hil : i < l.length
      · obtain ⟨ba, oa, ra, rfl, hSa, hba, hRa, hca⟩ := HA.out i l[i] (List.getElem?_eq_getElem hil)
        obtain ⟨pva, hba', a0, a1, a2, a3, a4, hpa⟩ := hRa.at hba hgr hca
        clear hca hRa hSa hba
        have HE := Lib.hid (show (l.map (·.id))[i]? = some l[i].id by rw [List.getElem?_map, List.getElem?_eq_getElem hil]; rfl)
        generalize l[i] = x at *
        have HPA := Lib.hid hpa
        obtain ⟨_, _, rfl⟩ := hpa.isSlice
        clear hpa
        have HQ := Lib.hid (show (cmp3 x.id id == 0) = true ↔ (l.map (·.id))[i]? = some id by
          rw [HE.out]; unfold cmp3
          constructor
          · intro h; split at h
            · simp at h
            · split at h
              · simp at h
              · congr 1; omega
          · intro h; simp only [Option.some.injEq] at h; rw [h]; simp)
        go_wp2_with (go_at_call 187; (with_reducible refine (edge1 x _ id _ S HPA.out).mono ?_); rintro e w2 ⟨rfl, hw2⟩)
        go_ret2
        exact BsPost.mk i _ rfl (bs_end HS.out (by simp; omega) HLO.out HHI.out _ HQ.out) (hgr.step ‹_›)
      · have HQ := Lib.hid (show false = true ↔ (l.map (·.id))[i]? = some id by
          rw [List.getElem?_eq_none (by simp; omega)]; simp)
        go_wp2_with fail
        go_ret2
        exact BsPost.mk i _ rfl (bs_end HS.out (by simp; omega) HLO.out HHI.out _ HQ.out) hgr
end Go.Hg

namespace Go.Hg
section
variable {P : Program} (W : World) (r : Nat) (hr : W.heap.size = r) {mty kt et : TypeId} (hm : P.underlying mty = some (.map kt et)) (hk : P.underlying kt = some (.int .i64)) (es : Array MapEntry) (c : Nat) (k : Int)
include hr hm hk
theorem run_ins (val : Value) (hf : Instr.findNow (.int .i64) (.int .i64 k) es.toList 0 = some none) :
    (Instr.mapUpdate mty (.map (some r)) (.int .i64 k) val).run P (W.alloc (.map es c)) = .ok () (W.alloc (.map (es.push { key := .int .i64 k, val := val, born := c }) (c + 1))) := by
  subst hr
  have hb : (W.alloc (.map es c)).heap[W.heap.size]? = some (.map es c) := heap_alloc_new W _
  have hc : (Instr.checkKey false 10000 kt (.int .i64 k)).run P (W.alloc (.map es c)) = .ok () (W.alloc (.map es c)) := MapKept.run_checkKey (k := .int .i64 k) hk (by simp [MapKept.IsKey]) false 9999
  have e : ({ (W.alloc (.map es c)) with heap := (W.alloc (.map es c)).heap.setIfInBounds W.heap.size (.map (es.push { key := .int .i64 k, val := val, born := c }) (c + 1)) } : World) = W.alloc (.map (es.push { key := .int .i64 k, val := val, born := c }) (c + 1)) := by
    have e2 : (W.heap.push (.map es c)).setIfInBounds W.heap.size (.map (es.push { key := .int .i64 k, val := val, born := c }) (c + 1)) = W.heap.push (.map (es.push { key := .int .i64 k, val := val, born := c }) (c + 1)) := by
      apply Array.ext'
      simp
    simp only [World.alloc, e2]
  rw [← e]
  simp [Instr.mapUpdate, run_underlying hm, MapKept.run_getObj_map hb, hc, MapKept.run_findKey hk hf, MapKept.run_setObj_map _ hb, Result.andThen]
theorem run_look_hit (i : Nat) (v : Value) (hf : Instr.findNow (.int .i64) (.int .i64 k) es.toList 0 = some (some (i, v))) :
    (Instr.lookup mty (.map (some r)) (.int .i64 k) true).run P (W.alloc (.map es c)) = .ok (.tuple #[v, .bool true]) (W.alloc (.map es c)) := by
  subst hr
  have hb : (W.alloc (.map es c)).heap[W.heap.size]? = some (.map es c) := heap_alloc_new W _
  have hc : (Instr.checkKey es.isEmpty 10000 kt (.int .i64 k)).run P (W.alloc (.map es c)) = .ok () (W.alloc (.map es c)) := MapKept.run_checkKey (k := .int .i64 k) hk (by simp [MapKept.IsKey]) es.isEmpty 9999
  have hf' := MapKept.run_findKey (P := P) (w := W.alloc (.map es c)) hk hf
  simp [Instr.lookup, run_underlying hm, MapKept.run_getObj_map hb, Result.andThen]
  rw [hc]
  simp [hf']
theorem run_look_miss (z : Value) (hz : ∀ w, (zeroValue et).run P w = .ok z w) (hf : Instr.findNow (.int .i64) (.int .i64 k) es.toList 0 = some none) :
    (Instr.lookup mty (.map (some r)) (.int .i64 k) true).run P (W.alloc (.map es c)) = .ok (.tuple #[z, .bool false]) (W.alloc (.map es c)) := by
  subst hr
  have hb : (W.alloc (.map es c)).heap[W.heap.size]? = some (.map es c) := heap_alloc_new W _
  have hc : (Instr.checkKey es.isEmpty 10000 kt (.int .i64 k)).run P (W.alloc (.map es c)) = .ok () (W.alloc (.map es c)) := MapKept.run_checkKey (k := .int .i64 k) hk (by simp [MapKept.IsKey]) es.isEmpty 9999
  have hf' := MapKept.run_findKey (P := P) (w := W.alloc (.map es c)) hk hf
  simp [Instr.lookup, run_underlying hm, MapKept.run_getObj_map hb, Result.andThen]
  rw [hc]
  simp [hf', hz]
end
end Go.Hg

namespace Go.Hg
open Go.RowKit Go.Proofs

theorem isEmpty_iff (s : ByteArray) : s.toList.isEmpty = decide (s = ByteArray.empty) := by
  rw [ByteArray.toList_eq]
  by_cases h : s = ByteArray.empty
  · subst h; rfl
  · rw [decide_eq_false h]
    cases h2 : s.data.toList with
    | nil => exact absurd (ByteArray.ext (Array.toList_inj.1 (by rw [h2]; rfl))) h
    | cons => rfl
attribute [go_sem] isEmpty_iff

set_option maxHeartbeats 400000 in
theorem ownBool (k n : Int) (s : ByteArray) (w : World) :
    Calls Tryz.prog 188 #[.agg #[.int .i64 k, .int .i64 n, .string s]] w fun e w' => e = .returned (.bool (decide ((n = 0 ∨ n = 1) ∧ s = ByteArray.empty))) ∧ Grow w w' := by
  have hg : ∀ o1, Grow w (w.alloc o1) := fun o1 => (Grow.rfl' w).allocd o1
  go_enter Tryz.func188, Tryz.ntmps188
  go_wp2
  all_goals
    go_ret
    refine ⟨?_, hg _⟩
    simp [*]
set_option maxHeartbeats 400000 in
theorem ownInt (k n : Int) (s : ByteArray) (w : World) :
    Calls Tryz.prog 189 #[.agg #[.int .i64 k, .int .i64 n, .string s]] w fun e w' => e = .returned (.bool (decide (s = ByteArray.empty))) ∧ Grow w w' := by
  have hg : ∀ o1, Grow w (w.alloc o1) := fun o1 => (Grow.rfl' w).allocd o1
  go_enter Tryz.func189, Tryz.ntmps189
  go_wp2
  all_goals
    go_ret
    refine ⟨?_, hg _⟩
    simp [*]
set_option maxHeartbeats 400000 in
theorem ownText (k n : Int) (s : ByteArray) (w : World) :
    Calls Tryz.prog 190 #[.agg #[.int .i64 k, .int .i64 n, .string s]] w fun e w' => e = .returned (.bool (decide (n = 0 ∧ s.size ≤ 1024))) ∧ Grow w w' := by
  have hg : ∀ o1, Grow w (w.alloc o1) := fun o1 => (Grow.rfl' w).allocd o1
  go_enter Tryz.func190, Tryz.ntmps190
  go_wp2
  all_goals
    go_ret
    refine ⟨?_, hg _⟩
    simp [*]
    try omega
set_option maxHeartbeats 400000 in
theorem refBlank (v : PVal) (w : World) :
    Calls Tryz.prog 141 #[.agg #[.int .i64 v.kind, .int .i64 v.n, .string v.s]] w fun e w' => e = .returned (.bool (decide (BlankV v))) ∧ Grow w w' := by
  obtain ⟨k, n, s⟩ := v
  unfold BlankV
  have hg : ∀ o1, Grow w (w.alloc o1) := fun o1 => (Grow.rfl' w).allocd o1
  go_enter Tryz.func141, Tryz.ntmps141
  go_wp2
  all_goals
    go_ret
    refine ⟨?_, hg _⟩
    simp [*]
set_option maxHeartbeats 400000 in
theorem refGoodV (v : PVal) (w : World) :
    Calls Tryz.prog 140 #[.agg #[.int .i64 v.kind, .int .i64 v.n, .string v.s]] w fun e w' => e = .returned (.bool (decide (GoodV v))) ∧ Grow w w' := by
  obtain ⟨k, n, s⟩ := v
  unfold GoodV
  have hg : ∀ o1, Grow w (w.alloc o1) := fun o1 => (Grow.rfl' w).allocd o1
  go_enter Tryz.func140, Tryz.ntmps140
  go_wp2
  all_goals
    (try simp only [beq_iff_eq, beq_eq_false_iff_ne, ne_eq] at *)
    go_ret
    refine ⟨?_, hg _⟩
    simp [*]
    try omega

theorem zeroOwn (w : World) : (zeroValue 237).run Tryz.prog w = .ok .nilFunc w := by kernel_rfl
set_option maxRecDepth 100000 in
set_option maxHeartbeats 1000000 in
theorem valGood (v : PVal) (w : World) :
    Calls Tryz.prog 162 #[.agg #[.int .i64 v.kind, .int .i64 v.n, .string v.s]] w fun e w' => e = .returned (.bool (decide (GoodV v))) ∧ Grow w w' := by
  obtain ⟨k, n, s⟩ := v
  have hsz : (w.alloc (.cells #[.int .i64 k, .int .i64 n, .string s] 42)).heap.size = w.heap.size + 1 := by simp
  have hT : Tryz.prog.underlying 240 = some (.map 3 237) := Tryz.underlying240
  have hI : Tryz.prog.underlying 3 = some (.int .i64) := Tryz.underlying3
  have i1 := run_ins _ _ hsz hT hI #[] 0 1 (.func (.func 188) #[] #[]) rfl
  have i2 := run_ins _ _ hsz hT hI #[{ key := .int .i64 1, val := .func (.func 188) #[] #[], born := 0 }] 1 2 (.func (.func 189) #[] #[]) rfl
  have i3 := run_ins _ _ hsz hT hI #[{ key := .int .i64 1, val := .func (.func 188) #[] #[], born := 0 }, { key := .int .i64 2, val := .func (.func 189) #[] #[], born := 1 }] 2 3 (.func (.func 190) #[] #[]) rfl
  simp only [List.push_toArray, List.cons_append, List.nil_append, Nat.reduceAdd] at i1 i2 i3
  have hmm := @run_makeMap Tryz.prog
  have hg : ∀ o1 o2, Grow w ((w.alloc o1).alloc o2) := fun o1 o2 => ((Grow.rfl' w).allocd o1).allocd o2
  have HG := Lib.hid hg; clear hg
  by_cases h1 : k = 1
  · subst h1
    have lk := run_look_hit _ _ hsz hT hI #[{ key := .int .i64 1, val := .func (.func 188) #[] #[], born := 0 }, { key := .int .i64 2, val := .func (.func 189) #[] #[], born := 1 }, { key := .int .i64 3, val := .func (.func 190) #[] #[], born := 2 }] 3 1 0 _ rfl
    clear hsz
    go_enter Tryz.func162, Tryz.ntmps162
    go_wp2_with (go_at_call 188; (with_reducible refine (ownBool _ _ _ _).mono ?_); rintro e w2 ⟨rfl, hw2⟩)
    go_ret
    exact ⟨by simp [GoodV], (HG.out _ _).step hw2⟩
  · by_cases h2 : k = 2
    · subst h2
      have lk := run_look_hit _ _ hsz hT hI #[{ key := .int .i64 1, val := .func (.func 188) #[] #[], born := 0 }, { key := .int .i64 2, val := .func (.func 189) #[] #[], born := 1 }, { key := .int .i64 3, val := .func (.func 190) #[] #[], born := 2 }] 3 2 1 _ rfl
      clear hsz h1
      go_enter Tryz.func162, Tryz.ntmps162
      go_wp2_with (go_at_call 189; (with_reducible refine (ownInt _ _ _ _).mono ?_); rintro e w2 ⟨rfl, hw2⟩)
      go_ret
      exact ⟨by simp [GoodV], (HG.out _ _).step hw2⟩
    · by_cases h3 : k = 3
      · subst h3
        have lk := run_look_hit _ _ hsz hT hI #[{ key := .int .i64 1, val := .func (.func 188) #[] #[], born := 0 }, { key := .int .i64 2, val := .func (.func 189) #[] #[], born := 1 }, { key := .int .i64 3, val := .func (.func 190) #[] #[], born := 2 }] 3 3 2 _ rfl
        clear hsz h1 h2
        go_enter Tryz.func162, Tryz.ntmps162
        go_wp2_with (go_at_call 190; (with_reducible refine (ownText _ _ _ _).mono ?_); rintro e w2 ⟨rfl, hw2⟩)
        go_ret
        exact ⟨by simp [GoodV], (HG.out _ _).step hw2⟩
      · have lk := run_look_miss _ _ hsz hT hI #[{ key := .int .i64 1, val := .func (.func 188) #[] #[], born := 0 }, { key := .int .i64 2, val := .func (.func 189) #[] #[], born := 1 }, { key := .int .i64 3, val := .func (.func 190) #[] #[], born := 2 }] 3 k .nilFunc zeroOwn (by simp [Instr.findNow, Instr.sameNow, beq_eq_false_iff_ne.2 h1, beq_eq_false_iff_ne.2 h2, beq_eq_false_iff_ne.2 h3])
        have HN := Lib.hid (show ¬ GoodV ⟨k, n, s⟩ by simp [GoodV, h1, h2, h3])
        clear hsz h1 h2 h3
        go_enter Tryz.func162, Tryz.ntmps162
        go_wp2
        go_ret
        exact ⟨by rw [decide_eq_false HN.out]; rfl, HG.out _ _⟩
end Go.Hg

namespace Go.Hg
open Go.RowKit Go.Proofs

def ltS (a b : ByteArray) : Bool := Op.bytesLess a.toList b.toList
theorem bytesLess_tri : ∀ a b : List UInt8, (Op.bytesLess a b || decide (a = b)) = !(Op.bytesLess b a)
  | [], [] => by simp [Op.bytesLess]
  | [], b :: bs => by simp [Op.bytesLess]
  | a :: l, [] => by simp [Op.bytesLess]
  | a :: l, b :: bs => by
    have ih := bytesLess_tri l bs
    unfold Op.bytesLess
    by_cases h1 : a < b
    · have h2 : ¬ b < a := by
        rw [UInt8.lt_iff_toNat_lt] at *; omega
      have h3 : ¬ b = a := fun e => by subst e; exact h2 h1
      simp [h1, h2, h3]
    · by_cases h2 : b < a
      · have h3 : ¬ a = b := fun e => by subst e; exact h1 h2
        simp [h1, h2, h3]
      · have h3 : a = b := by
          rw [UInt8.lt_iff_toNat_lt] at *
          exact UInt8.toNat_inj.1 (by omega)
        subst h3
        simp [h1, ih]
theorem ltS_tri (a b : ByteArray) : (ltS a b || decide (a = b)) = !(ltS b a) := by
  have h := bytesLess_tri a.toList b.toList
  have e : decide (a = b) = decide (a.toList = b.toList) := by
    rw [← ba_beq]
    by_cases h : a.toList = b.toList
    · simp [h]
    · rw [decide_eq_false h]; exact beq_eq_false_iff_ne.2 h
  unfold ltS
  rw [e]; exact h

def PropOkAt (l : List PProp) (i : Nat) : Prop := ∀ p, l[i]? = some p → NameOk p.name ∧ GoodV p.v ∧ (0 < i → ∀ q, l[i - 1]? = some q → ltS q.name p.name = true)
def PropsOk (l : List PProp) : Prop := l.length ≤ 8 ∧ ∀ i, i < l.length → PropOkAt l i
open Classical in
noncomputable def propsB (l : List PProp) : Bool := decide (PropsOk l)
theorem propsB_true {l : List PProp} (h : PropsOk l) : propsB l = true := by unfold propsB; simp [h]
theorem propsB_false {l : List PProp} (h : ¬ PropsOk l) : propsB l = false := by unfold propsB; simp [h]
theorem propsB_iff {l : List PProp} : propsB l = true ↔ PropsOk l := by unfold propsB; simp

end Go.Hg

namespace Go.Hg
open Go.RowKit Go.Proofs

structure PGraph where
  nodes : List PNode
  edges : List PEdge
  next : Int
deriving DecidableEq

/-- A graph (the program's or the reference's: T) at block B; what is its own lies in S. -/
def GraphOk (T : TypeId) (S : Nat → Prop) (w : World) (B : Nat) (G : PGraph) : Prop :=
  ∃ (nv ev : Value) (R : Nat → Prop) (on oe : Option Nat), w.heap[B]? = some (.cells #[nv, ev, .int .i64 G.next] T (0, 0)) ∧ S B ∧ ¬ R B ∧ (∀ b, R b → S b ∧ b < w.heap.size) ∧
    (∀ g, on = some g → S g ∧ ¬ R g) ∧ (∀ g, oe = some g → S g ∧ ¬ R g) ∧ OwnL w 94 3 (RNode R w) nv G.nodes on ∧ OwnL w 98 5 (REdge R w) ev G.edges oe

theorem OwnL.lt {α : Type} {w : World} {E : TypeId} {sz : Nat} {R : α → List Value → Prop} {v : Value} {l : List α} {ob : Option Nat} (h : OwnL w E sz R v l ob) : ∀ g, ob = some g → g < w.heap.size := by
  obtain ⟨_, _, _, h⟩ := h; exact h.lt
theorem OwnL.blkE {α : Type} {w : World} {E : TypeId} {sz : Nat} {R : α → List Value → Prop} {v : Value} {l : List α} {ob : Option Nat} (h : OwnL w E sz R v l ob) : ∀ g, ob = some g → ∃ cs, w.heap[g]? = some (.cells cs E (0, 0)) := by
  intro g hg
  obtain ⟨_, _, _, _, h⟩ := h
  rcases h with ⟨_, _, _, h, _⟩ | ⟨g', cap, cur, _, h, hh, _⟩
  · rw [h] at hg; cases hg
  · rw [h] at hg; cases hg; exact ⟨cur, hh⟩
theorem GraphOk.keep {T : TypeId} {S F : Nat → Prop} {w w' : World} {B : Nat} {G : PGraph} (h : GraphOk T S w B G) (g : Mod F w w') (hd : ∀ b, S b → ¬ F b) : GraphOk T S w' B G := by
  obtain ⟨nv, ev, R, on, oe, h1, h2, h3, h4, h5, h6, h7, h8⟩ := h
  refine ⟨nv, ev, R, on, oe, (g.block B (blk_lt h1) (hd B h2)).trans h1, h2, h3, fun b hb => ⟨(h4 b hb).1, Nat.lt_of_lt_of_le (h4 b hb).2 g.size⟩, h5, h6, ?_, ?_⟩
  · exact h7.keep (fun k hk => g.block k (h7.lt k hk) (hd k (h5 k hk).1)) (fun x r _ hR => hR.mod g (fun b hb => hd b (h4 b hb).1))
  · exact h8.keep (fun k hk => g.block k (h8.lt k hk) (hd k (h6 k hk).1)) (fun x r _ hR => hR.mod g (fun b hb => hd b (h4 b hb).1))
theorem GraphOk.grow {T : TypeId} {S : Nat → Prop} {w w' : World} {B : Nat} {G : PGraph} (h : GraphOk T S w B G) (g : Grow w w') : GraphOk T S w' B G := h.keep (Mod.of_grow (F := fun _ => False) g) (fun _ _ => id)
theorem GraphOk.cut {T : TypeId} {S : Nat → Prop} {w : World} {B : Nat} {G : PGraph} (h : GraphOk T S w B G) : GraphOk T (fun b => S b ∧ b < w.heap.size) w B G := by
  obtain ⟨nv, ev, R, on, oe, h1, h2, h3, h4, h5, h6, h7, h8⟩ := h
  exact ⟨nv, ev, R, on, oe, h1, ⟨h2, blk_lt h1⟩, h3, fun b hb => ⟨h4 b hb, (h4 b hb).2⟩, fun g hg => ⟨⟨(h5 g hg).1, h7.lt g hg⟩, (h5 g hg).2⟩, fun g hg => ⟨⟨(h6 g hg).1, h8.lt g hg⟩, (h6 g hg).2⟩, h7, h8⟩
theorem GraphOk.sub {T : TypeId} {S S' : Nat → Prop} {w : World} {B : Nat} {G : PGraph} (h : GraphOk T S w B G) (hS : ∀ b, S b → S' b) : GraphOk T S' w B G := by
  obtain ⟨nv, ev, R, on, oe, h1, h2, h3, h4, h5, h6, h7, h8⟩ := h
  exact ⟨nv, ev, R, on, oe, h1, hS _ h2, h3, fun b hb => ⟨hS _ (h4 b hb).1, (h4 b hb).2⟩, fun g hg => ⟨hS _ (h5 g hg).1, (h5 g hg).2⟩, fun g hg => ⟨hS _ (h6 g hg).1, (h6 g hg).2⟩, h7, h8⟩
/-- what a walk reads -/
theorem GraphOk.read {T : TypeId} {S : Nat → Prop} {w : World} {B : Nat} {G : PGraph} (h : GraphOk T S w B G) :
    ∃ na nc ea ec, B < w.heap.size ∧ w.cell? ⟨B, 0, none⟩ = some (.slice na G.nodes.length nc) ∧ w.cell? ⟨B, 1, none⟩ = some (.slice ea G.edges.length ec) ∧ w.cell? ⟨B, 2, none⟩ = some (.int .i64 G.next) ∧
      NodesR S w (.slice na G.nodes.length nc) G.nodes ∧ EdgesR S w (.slice ea G.edges.length ec) G.edges := by
  obtain ⟨nv, ev, R, on, oe, h1, h2, h3, h4, h5, h6, h7, h8⟩ := h
  have hn : NodesR S w nv G.nodes := SlR.sub (h7.toSl (S := S) (fun g hg => (h5 g hg).1)) (fun _ h => h) (fun x r _ hR => hR.sub (fun b hb => (h4 b hb).1))
  have he : EdgesR S w ev G.edges := SlR.sub (h8.toSl (S := S) (fun g hg => (h6 g hg).1)) (fun _ h => h) (fun x r _ hR => hR.sub (fun b hb => (h4 b hb).1))
  obtain ⟨na, nc, rfl, _⟩ := SlR.open hn
  obtain ⟨ea, ec, rfl, _⟩ := SlR.open he
  exact ⟨na, nc, ea, ec, blk_lt h1, by rw [blk_cell h1]; rfl, by rw [blk_cell h1]; rfl, by rw [blk_cell h1]; rfl, hn, he⟩

/-- what holds of each graph that the layers make -/
structure GInv (G : PGraph) : Prop where
  next0 : 1 ≤ G.next
  next1 : G.next ≤ 4611686018427387904
  items : G.nodes.length + G.edges.length ≤ 1024
  nodes : (G.nodes.map (·.id)).Pairwise (· < ·)
  edges : (G.edges.map (·.id)).Pairwise (· < ·)
  nodesB : ∀ x ∈ G.nodes, 1 ≤ x.id ∧ x.id < G.next ∧ x.props.length ≤ 8
  edgesB : ∀ x ∈ G.edges, 1 ≤ x.id ∧ x.id < G.next ∧ x.props.length ≤ 8

def PGraph.empty : PGraph := ⟨[], [], 1⟩
theorem GInv.empty : GInv PGraph.empty := ⟨by decide, by decide, by decide, by simp [PGraph.empty], by simp [PGraph.empty], by simp [PGraph.empty], by simp [PGraph.empty]⟩
def fullG (G : PGraph) : Bool := decide (1024 ≤ G.nodes.length + G.edges.length) || decide (4611686018427387903 < G.next)

set_option maxHeartbeats 400000 in
theorem graphNew (w : World) : Calls Tryz.prog 48 #[] w fun e w' => ∃ B, e = .returned (.pointer (some ⟨B, 0, none⟩)) ∧ GraphOk 120 (fun b => w.heap.size ≤ b) w' B PGraph.empty ∧ Grow w w' := by
  have hg : ∀ o, Grow w (w.alloc o) := fun o => (Grow.rfl' w).allocd o
  have HB := Lib.hid (heap_alloc_new w (.cells #[.slice none 0 0, .slice none 0 0, .int .i64 1] 120))
  have HG := Lib.hid hg; clear hg
  go_enter Tryz.func48, Tryz.ntmps48
  go_wp2
  go_ret
  exact ⟨_, rfl, ⟨_, _, fun _ => False, none, none, HB.out, Nat.le_refl _, id, fun _ h => h.elim, by simp, by simp, OwnL.nil _ _ _ _, OwnL.nil _ _ _ _⟩, HG.out _⟩
set_option maxHeartbeats 400000 in
theorem refNew (w : World) : Calls Tryz.prog 33 #[] w fun e w' => ∃ B, e = .returned (.pointer (some ⟨B, 0, none⟩)) ∧ GraphOk 55 (fun b => w.heap.size ≤ b) w' B PGraph.empty ∧ Grow w w' := by
  have hg : ∀ o, Grow w (w.alloc o) := fun o => (Grow.rfl' w).allocd o
  have HB := Lib.hid (heap_alloc_new w (.cells #[.slice none 0 0, .slice none 0 0, .int .i64 1] 55))
  have HG := Lib.hid hg; clear hg
  go_enter Tryz.func33, Tryz.ntmps33
  go_wp2
  go_ret
  exact ⟨_, rfl, ⟨_, _, fun _ => False, none, none, HB.out, Nat.le_refl _, id, fun _ h => h.elim, by simp, by simp, OwnL.nil _ _ _ _, OwnL.nil _ _ _ _⟩, HG.out _⟩
set_option maxHeartbeats 400000 in
theorem graphNext (S : Nat → Prop) (B : Nat) (G : PGraph) (w : World) (h : GraphOk 120 S w B G) :
    Calls Tryz.prog 83 #[.pointer (some ⟨B, 0, none⟩)] w fun e w' => e = .returned (.int .i64 G.next) ∧ w = w' := by
  obtain ⟨na, nc, ea, ec, hb, c0, c1, c2, -, -⟩ := h.read
  clear h
  go_enter Tryz.func83, Tryz.ntmps83
  go_wp2
  go_ret
  exact ⟨rfl, rfl⟩
set_option maxRecDepth 100000 in
set_option maxHeartbeats 1000000 in
theorem graphFull (S : Nat → Prop) (B : Nat) (G : PGraph) (w : World) (h : GraphOk 120 S w B G) (hi : G.nodes.length + G.edges.length ≤ 1024) :
    Calls Tryz.prog 152 #[.pointer (some ⟨B, 0, none⟩)] w fun e w' => e = .returned (.bool (fullG G)) ∧ Grow w w' := by
  obtain ⟨na, nc, ea, ec, hb, c0, c1, c2, -, -⟩ := h.read
  clear h
  have hw : IntKind.i64.wrap ((G.nodes.length : Int) + (G.edges.length : Int)) = (G.nodes.length : Int) + (G.edges.length : Int) := by rw [IntKind.wrap_i64]; omega
  unfold fullG
  by_cases h1 : 1024 ≤ G.nodes.length + G.edges.length
  · have h1' : decide (1024 ≤ (G.nodes.length : Int) + (G.edges.length : Int)) = true := by simp; omega
    have HX := Lib.hid (decide_eq_true h1)
    clear h1 hi
    go_enter Tryz.func152, Tryz.ntmps152
    go_wp2_with fail
    refine wp_region_grow (by kernel_rfl) (by kernel_rfl) ?_
    repeat (go_big_quiet_step (fail))
    refine wpQuiet_nil ?_
    intro w2 hw2
    go_wp2
    go_ret
    exact ⟨by rw [HX.out]; rfl, hw2⟩
  · have h1' : decide (1024 ≤ (G.nodes.length : Int) + (G.edges.length : Int)) = false := by simp; omega
    have HX := Lib.hid (decide_eq_false h1)
    clear h1 hi
    go_enter Tryz.func152, Tryz.ntmps152
    go_wp2_with fail
    refine wp_region_grow (by kernel_rfl) (by kernel_rfl) ?_
    repeat (go_big_quiet_step (fail))
    refine wpQuiet_nil ?_
    intro w2 hw2
    go_wp2
    go_ret
    exact ⟨by rw [HX.out]; rfl, hw2⟩
set_option maxHeartbeats 400000 in
theorem graphGiven (B : Nat) (nv ev : Value) (next : Int) (w : World) (h : w.heap[B]? = some (.cells #[nv, ev, .int .i64 next] 120 (0, 0))) (h0 : 1 ≤ next) (h1 : next ≤ 4611686018427387904) :
    Calls Tryz.prog 153 #[.pointer (some ⟨B, 0, none⟩)] w fun e w' => e = .returned (.int .i64 next) ∧ w'.heap[B]? = some (.cells #[nv, ev, .int .i64 (next + 1)] 120 (0, 0)) ∧ Mod (fun b => b = B) w w' := by
  have c2 : w.cell? ⟨B, 2, none⟩ = some (.int .i64 next) := by rw [blk_cell h]; rfl
  have f2 := blk_free h 2
  have HM := Lib.hid (show Mod (fun b => b = B) w (w.setCell ⟨B, 2, none⟩ (.int .i64 (next + 1))) from (Mod.rfl' (fun b => b = B) w).setd (p := ⟨B, 2, none⟩) (.inl rfl) _)
  have HH := Lib.hid (show (w.setCell ⟨B, 2, none⟩ (.int .i64 (next + 1))).heap[B]? = some (.cells #[nv, ev, .int .i64 (next + 1)] 120 (0, 0)) by
    rw [heap_setCell_same w B 2 _ 120 _ h]; rfl)
  clear h
  go_enter Tryz.func153, Tryz.ntmps153
  go_wp2
  go_ret
  refine ⟨?_, HH.out, HM.out⟩
  first | rfl | (congr 2; omega) | simp
set_option maxHeartbeats 400000 in
theorem graphNode_ (S : Nat → Prop) (B : Nat) (G : PGraph) (id : Int) (w : World) (h : GraphOk 120 S w B G) (hG : GInv G) :
    Calls Tryz.prog 103 #[.pointer (some ⟨B, 0, none⟩), .int .i64 id] w (BsPost (G.nodes.map (·.id)) id w) := by
  obtain ⟨na, nc, ea, ec, hb, c0, c1, c2, hn, -⟩ := h.read
  clear h
  have HN := Lib.hid hn; have HS := Lib.hid hG.nodes; have HI := Lib.hid hG.items; clear hn hG
  go_enter Tryz.func103, Tryz.ntmps103
  go_wp2_with fail
  refine (bsNodes S _ G.nodes id _ HN.out HS.out (by have := HI.out; omega)).mono ?_
  rintro e w2 ⟨i, b, rfl, hb, hg⟩
  have HB := Lib.hid hb; clear hb
  go_wp2
  go_ret2
  exact BsPost.mk i b rfl HB.out hg
set_option maxHeartbeats 400000 in
theorem graphEdge_ (S : Nat → Prop) (B : Nat) (G : PGraph) (id : Int) (w : World) (h : GraphOk 120 S w B G) (hG : GInv G) :
    Calls Tryz.prog 159 #[.pointer (some ⟨B, 0, none⟩), .int .i64 id] w (BsPost (G.edges.map (·.id)) id w) := by
  obtain ⟨na, nc, ea, ec, hb, c0, c1, c2, -, hn⟩ := h.read
  clear h
  have HN := Lib.hid hn; have HS := Lib.hid hG.edges; have HI := Lib.hid hG.items; clear hn hG
  go_enter Tryz.func159, Tryz.ntmps159
  go_wp2_with fail
  refine (bsEdges S _ G.edges id _ HN.out HS.out (by have := HI.out; omega)).mono ?_
  rintro e w2 ⟨i, b, rfl, hb, hg⟩
  have HB := Lib.hid hb; clear hb
  go_wp2
  go_ret2
  exact BsPost.mk i b rfl HB.out hg
end Go.Hg

namespace Go.Hg
open Go.RowKit Go.Proofs

def fil (l : List PProp) (name : ByteArray) : List PProp := l.filter fun p => decide (¬ p.name = name)
def ins (o : List PProp) (x : PProp) : List PProp := (o.takeWhile fun p => ltS p.name x.name) ++ x :: (o.dropWhile fun p => ltS p.name x.name)
/-- properties with one of them set -/
def setP (l : List PProp) (name : ByteArray) (v : PVal) : List PProp := if v.kind = 0 then fil l name else ins (fil l name) ⟨name, v⟩
def allLt (o : List PProp) (name : ByteArray) : Bool := o.all fun p => ltS p.name name
def mid (o : List PProp) (x : PProp) : List PProp := if allLt o x.name = true then o else ins o x

theorem ins_allLt {o : List PProp} {x : PProp} (h : allLt o x.name = true) : ins o x = o ++ [x] := by
  unfold allLt at h
  unfold ins
  have h1 : ∀ p ∈ o, ltS p.name x.name = true := by simpa using h
  have e1 : (o.takeWhile fun p => ltS p.name x.name) = o := by
    have h2 := List.takeWhile_append_of_pos (l₂ := []) h1
    simpa using h2
  have e2 : (o.dropWhile fun p => ltS p.name x.name) = [] := by
    have h2 := List.dropWhile_append_of_pos (l₂ := []) h1
    simpa using h2
  rw [e1, e2]
theorem ins_snoc {o : List PProp} {x p : PProp} (h : allLt o x.name = false) : ins (o ++ [p]) x = ins o x ++ [p] := by
  unfold allLt at h
  unfold ins
  have h1 : ∃ q ∈ o, ltS q.name x.name = false := by
    have := List.all_eq_false.1 h
    obtain ⟨q, hq, hn⟩ := this
    exact ⟨q, hq, by simpa using hn⟩
  obtain ⟨q, hq, hn⟩ := h1
  induction o with
  | nil => cases hq
  | cons a o ih =>
    by_cases ha : ltS a.name x.name = true
    · have hq' : q ∈ o := by
        rcases List.mem_cons.1 hq with e | e
        · subst e; rw [hn] at ha; cases ha
        · exact e
      have ih' := ih (List.all_eq_false.2 ⟨q, hq', by rw [hn]; simp⟩) hq'
      simp only [List.cons_append, List.takeWhile_cons, List.dropWhile_cons, ha, if_true]
      rw [ih']
    · simp [ha]
theorem ins_snoc_ge {o : List PProp} {x p : PProp} (h : allLt o x.name = true) (hp : ltS p.name x.name = false) : ins (o ++ [p]) x = o ++ [x] ++ [p] := by
  have h1 : ∀ p ∈ o, ltS p.name x.name = true := by simpa [allLt] using h
  unfold ins
  rw [List.takeWhile_append_of_pos h1, List.dropWhile_append_of_pos h1]
  simp [hp]
theorem allLt_snoc (o : List PProp) (p : PProp) (name : ByteArray) : allLt (o ++ [p]) name = (allLt o name && ltS p.name name) := by simp [allLt]
theorem fil_snoc_eq {l : List PProp} {p : PProp} {name : ByteArray} (h : p.name = name) : fil (l ++ [p]) name = fil l name := by simp [fil, h]
theorem fil_snoc_ne {l : List PProp} {p : PProp} {name : ByteArray} (h : ¬ p.name = name) : fil (l ++ [p]) name = fil l name ++ [p] := by simp [fil, h]
theorem fil_length (l : List PProp) (name : ByteArray) : (fil l name).length ≤ l.length := List.length_filter_le _ _
theorem setP_length (l : List PProp) (name : ByteArray) (v : PVal) : (setP l name v).length ≤ l.length + 1 := by
  have h := fil_length l name
  unfold setP
  split
  · omega
  · unfold ins
    have h2 := congrArg List.length (List.takeWhile_append_dropWhile (p := fun p : PProp => ltS p.name name) (l := fil l name))
    rw [List.length_append] at h2 ⊢
    simp only [List.length_cons]
    omega

/-- what IndexFunc tells: the first that is not below a name, or -1 -/
def IdxOk (l : List PProp) (name : ByteArray) (r : Int) : Prop :=
  (r = -1 ∧ allLt l name = true) ∨ ∃ k : Nat, r = k ∧ k < l.length ∧ l.take k = (l.takeWhile fun p => ltS p.name name) ∧ l.drop k = (l.dropWhile fun p => ltS p.name name)
theorem idx_hit {l : List PProp} {name : ByteArray} {k : Nat} {p : PProp} (hall : allLt (l.take k) name = true) (hp : l[k]? = some p) (hn : ltS p.name name = false) :
    k < l.length ∧ l.take k = (l.takeWhile fun p => ltS p.name name) ∧ l.drop k = (l.dropWhile fun p => ltS p.name name) := by
  have hk : k < l.length := (List.getElem?_eq_some_iff.1 hp).1
  have h1 : ∀ p ∈ l.take k, ltS p.name name = true := by simpa [allLt] using hall
  have e : l = l.take k ++ p :: l.drop (k + 1) := by
    have h3 := List.getElem?_eq_some_iff.1 hp
    obtain ⟨h4, h5⟩ := h3
    have : l.drop k = p :: l.drop (k + 1) := by rw [List.drop_eq_getElem_cons h4, h5]
    rw [← this, List.take_append_drop]
  have ed : l.drop k = p :: l.drop (k + 1) := by
    obtain ⟨h4, h5⟩ := List.getElem?_eq_some_iff.1 hp
    rw [List.drop_eq_getElem_cons h4, h5]
  refine ⟨hk, ?_, ?_⟩
  · conv => rhs; rw [e]
    rw [List.takeWhile_append_of_pos h1]
    simp [hn]
  · conv => rhs; rw [e]
    rw [List.dropWhile_append_of_pos h1]
    simp [hn, ed]

set_option maxHeartbeats 400000 in
theorem set1 (p : PProp) (nb : Nat) (name : ByteArray) (w : World) (hb : w.cell? ⟨nb, 0, none⟩ = some (.string name)) :
    Calls Tryz.prog 192 #[.agg #[.string p.name, .int .i64 p.v.kind, .int .i64 p.v.n, .string p.v.s], .pointer (some ⟨nb, 0, none⟩)] w fun e w' => e = .returned (.bool (!(ltS p.name name))) ∧ Grow w w' := by
  have hlt := cell_lt hb
  have hb2 : ∀ o, (w.alloc o).cell? ⟨nb, 0, none⟩ = some (.string name) := fun o => by exact ((Grow.rfl' w).allocd o).cell (p := ⟨nb, 0, none⟩) hlt |>.trans hb
  have hg : ∀ o1, Grow w (w.alloc o1) := fun o1 => (Grow.rfl' w).allocd o1
  go_enter Tryz.func192, Tryz.ntmps192
  go_wp2
  go_ret
  exact ⟨rfl, hg _⟩

set_option maxRecDepth 100000 in
set_option maxHeartbeats 1000000 in
theorem indexProp (S : Nat → Prop) (v : Value) (l : List PProp) (nb : Nat) (name : ByteArray) (w : World) (hl : PropsR S w v l) (hb : w.cell? ⟨nb, 0, none⟩ = some (.string name)) :
    Calls Tryz.prog 191 #[v, .func (.func 192) #[] #[.pointer (some ⟨nb, 0, none⟩)]] w fun e w' => ∃ r : Int, e = .returned (.int .i64 r) ∧ IdxOk l name r ∧ Grow w w' := by
  obtain ⟨aa, ca, rfl, hal, hac, hA⟩ := SlR.open hl
  clear hl
  unfold maxLen at hac
  have HA := Lib.hid hA; clear hA
  have HB := Lib.hid hb; have hlt := cell_lt hb; clear hb
  go_enter Tryz.func191, Tryz.ntmps191
  go_wp2
  go_loopg [8] l.length (fun g i wr => ∃ k : Nat, k ≤ l.length ∧ g = l.length - k ∧ i = .int .i64 k ∧ allLt (l.take k) name = true ∧ Grow w wr)
  case atStart => exact ⟨0, by omega, by omega, rfl, by simp [allLt], Grow.rfl' w⟩
  case round =>
    obtain ⟨k, hk, rfl, rfl, hall, hgr⟩ := hrel
    have HALL := Lib.hid hall; clear hall
    by_cases hkl : k < l.length
    · obtain ⟨ba, oa, ra, rfl, hSa, hba, hRa, hca⟩ := HA.out k l[k] (List.getElem?_eq_getElem hkl)
      obtain ⟨hba', a0, a1, a2, a3⟩ := hRa.at hba hgr hca
      clear hca hRa hSa hba
      have HE := Lib.hid (show l[k]? = some l[k] from List.getElem?_eq_getElem hkl)
      have HT := Lib.hid (show l.take (k + 1) = l.take k ++ [l[k]] from List.take_succ_eq_append_getElem hkl)
      generalize l[k] = p at *
      have HBW := Lib.hid (show wr.cell? ⟨nb, 0, none⟩ = some (.string name) from (hgr.cell (p := ⟨nb, 0, none⟩) hlt).trans HB.out)
      cases hn : ltS p.name name
      all_goals
        go_wp2_with (go_at_call 192; (with_reducible refine (set1 p nb name _ HBW.out).mono ?_); rintro e w2 ⟨rfl, hw2⟩)
      · go_ret
        obtain ⟨h1, h2, h3⟩ := idx_hit HALL.out HE.out hn
        exact ⟨_, rfl, .inr ⟨k, rfl, h1, h2, h3⟩, hgr.step ‹_›⟩
      · go_roundg (l.length - (k + 1))
        case measure => omega
        case rel => exact ⟨k + 1, by omega, rfl, by go_num, by rw [HT.out, allLt_snoc, HALL.out, hn]; rfl, hgr.step ‹_›⟩
    · have HX := Lib.hid (show l.take k = l from List.take_of_length_le (by omega))
      go_wp2
      go_ret
      exact ⟨_, rfl, .inl ⟨rfl, by rw [← HX.out]; exact HALL.out⟩, hgr⟩
end Go.Hg

namespace Go.Hg
section
variable {P : Program} (w : World)
theorem run_copy_row (dT sT ty e : TypeId) (i : TypeInfo) (ht : P.underlying dT = some (.slice e)) (hi : P.info? e = some i) (g o : Nat) (cur : Array Value) (E : TypeId) (hg : w.heap[g]? = some (.cells cur E (0, 0)))
    (dLen dCap : Nat) (oa : Option Addr) (sLen sCap n : Nat) (hn : Nat.min sLen dLen = n) (cs : List Value) (hl : cs.length = n * i.size)
    (hsrc : n = 0 ∨ ∃ a, oa = some a ∧ ∀ j u, cs[j]? = some u → w.cell? (a.add j) = some u) (hfit : o + cs.length ≤ cur.size) (h1 : ∀ v ∈ cs, v.oneCell' = true) :
    (Builtin.copy_ #[dT, sT] ty #[.slice (some ⟨g, o, none⟩) dLen dCap, .slice oa sLen sCap]).run P w = .ok (goInt n) (w.setRow g (cur.toList.take o ++ cs ++ cur.toList.drop (o + cs.length)).toArray) := by
  have hst := run_storeCells_at P g o E cs 0 cur w hg (by simpa using hfit) h1
  simp only [Nat.add_zero] at hst
  have hf : (Builtin.firstCells i.size n (.slice oa sLen sCap)).run P w = .ok cs.toArray w := by
    rcases hsrc with rfl | ⟨a, rfl, h⟩
    · have : cs = [] := List.eq_nil_of_length_eq_zero (by simpa using hl)
      subst this
      cases oa <;> simp [Builtin.firstCells, loadCells, loadCellsFrom]
    · exact run_firstCells_some (P := P) w i.size n a sLen sCap cs hl h
  simp only [Builtin.copy_, List.getElem?_toArray, List.getElem?_cons_zero, List.getElem?_cons_succ, Sem.run_bind, run_underlying ht, Result.andThen_ok, Builtin.lenOf, sizeOf, typeInfo, Sem.run_pure]
  simp [hi, hn, hf, hst]
theorem size_zeroCells' (z : Array Value) (n : Nat) : (Builtin.zeroCells z n).size = n * z.size := size_zeroCells z n
theorem run_append_zeros (t tn ty e : TypeId) (i : TypeInfo) (z : Value) (k kn : IntKind) (ht : P.underlying t = some (.slice e)) (htn : P.underlying tn = some (.int kn)) (hi : P.info? e = some i) (hz : i.zero = some z)
    (b : Addr) (sLen sCap n : Nat) (olds : List Value) (hlo : olds.length = sLen * i.size) (holds : ∀ j v, olds[j]? = some v → w.cell? (b.add j) = some v)
    (h0 : 0 < n) (hs : 0 < i.size) (hg : sCap < sLen + n) (h63 : ((sLen + n : Nat) : Int) ≤ 9223372036854775807) (hn48 : n * i.bytes ≤ 281474976710656) (hfit : Builtin.nextslicecap (sLen + n) sCap * i.bytes ≤ 281474976710656) :
    (Builtin.append_ #[t, tn] ty #[.slice (some b) sLen sCap, .int k n]).run P w =
      .ok (.slice (some ⟨w.heap.size, 0, none⟩) (sLen + n) (grownCap w (sLen + n) sCap e))
        (w.drew.alloc (.cells (olds.toArray ++ Builtin.zeroCells z.cells n ++ Builtin.zeroCells z.cells (grownCap w (sLen + n) sCap e - (sLen + n))) e)) := by
  have hn : n ≠ 0 := by omega
  have hw : IntKind.i64.wrap (n : Int) = n := by rw [IntKind.wrap_i64]; omega
  have hc : ¬ (sLen + n ≤ sCap) := by omega
  have h63' : ¬ (9223372036854775807 < ((sLen : Int) + (n : Int))) := by omega
  have h48' : ¬ (281474976710656 < Builtin.nextslicecap (sLen + n) sCap * i.bytes) := by omega
  have h48i : ¬ (281474976710656 < (n : Int) * (i.bytes : Int)) := by
    rw [← Int.natCast_mul]
    omega
  have hneg : ¬ ((n : Int) < 0) := by omega
  have hns : ¬ (n * i.size = 0) := Nat.mul_ne_zero hn (by omega)
  have hfo := run_firstCells_some (P := P) w.drew i.size sLen b sLen sCap olds hlo (by simpa using holds)
  simp [Builtin.append_, run_underlying ht, run_underlying htn, sizeOf, typeInfo, zeroValue, hi, hz, asInt, asIntOf, hw, hc, hneg, hns, h63', h48', h48i, Question.forced, hfo, newRow, grownCap]
theorem run_clear_row (t ty e : TypeId) (z : Value) (ht : P.underlying t = some (.slice e)) (hz : ∀ w, (zeroValue e).run P w = .ok z w) (g o n cap : Nat) (cur : Array Value) (E : TypeId) (hg : w.heap[g]? = some (.cells cur E (0, 0)))
    (hfit : o + n * z.cells.size ≤ cur.size) (h1 : ∀ v ∈ z.cells.toList, v.oneCell' = true) :
    ∃ cs : List Value, cs.length = n * z.cells.size ∧ (Builtin.clear_ #[t] ty #[.slice (some ⟨g, o, none⟩) n cap]).run P w = .ok (.tuple #[]) (w.setRow g (cur.toList.take o ++ cs ++ cur.toList.drop (o + cs.length)).toArray) := by
  by_cases hn : n = 0
  · subst hn
    refine ⟨[], by simp, ?_⟩
    have e2 : w.setRow g (cur.toList.take o ++ [] ++ cur.toList.drop (o + ([] : List Value).length)).toArray = w := by
      simp only [List.append_nil, List.length_nil, Nat.add_zero, List.take_append_drop, Array.toArray_toList]
      exact setRow_self w g cur E (0, 0) hg
    rw [e2]
    simp [Builtin.clear_, run_underlying ht]
  · have hlen : (Builtin.zeroCells z.cells n).toList.length = n * z.cells.size := by rw [Array.length_toList, size_zeroCells']
    refine ⟨(Builtin.zeroCells z.cells n).toList, hlen, ?_⟩
    have hst := run_storeCells_at P g o E (Builtin.zeroCells z.cells n).toList 0 cur w hg (by rw [hlen]; simpa using hfit) (fun v hv => by
      simp only [Builtin.zeroCells, Array.toList_map, List.mem_map] at hv
      obtain ⟨k, hk, rfl⟩ := hv
      have hk' : k < n * z.cells.size := by simpa using hk
      have hz0 : 0 < z.cells.size := by
        rcases Nat.eq_zero_or_pos z.cells.size with h | h
        · rw [h] at hk'; simp at hk'
        · exact h
      have hlt : k % z.cells.size < z.cells.size := Nat.mod_lt _ hz0
      rw [getElem!_pos z.cells _ hlt]
      exact h1 _ (Array.mem_toList_iff.2 (Array.getElem_mem hlt)))
    simp only [Nat.add_zero] at hst
    cases n with
    | zero => exact absurd rfl hn
    | succ n => simp [Builtin.clear_, run_underlying ht, hz, hst]

theorem wpList_run {ops : Array Oper} {rest : List Oper} {o : Oper} {a : Act} {Q : Exit → Act → World → Prop} (hgd : o.guard = none) {v' : Value} {w' : World}
    (hr : (execOp a.eval o).run P w = .ok (.value v') w') (h : wpList P ops Q rest (a.put o.dst v') w') : wpList P ops Q (o :: rest) a w :=
  wpList_plain hgd fun K hK => by
    unfold Oper.wp
    rw [hr]
    exact hK _ _ h
theorem step_run {ops : Array Oper} {o : Oper} {a : Act} {w : World} {K : Act → World → Prop} {Q : Exit → Act → World → Prop} {E : Prop} (hg : o.guard = none) {v' : Value} {w' : World}
    (hr : (execOp a.eval o).run P w = .ok (.value v') w') (hK : K (a.put o.dst v') w') : if Region.wanted o (yielded ops a.tmps) = true then Oper.wp P o a w K Q else E := by
  have hw : Region.wanted o (yielded ops a.tmps) = true := by simp [Region.wanted, hg]
  rw [if_pos hw]
  unfold Oper.wp
  rw [hr]
  exact hK

theorem exec_copy {o : Oper} {a : Act} (d s : Operand) (t t' : TypeId) (ho : o.op = .call { callee := .builtin .copy, args := #[d, s], argTypes := #[t, t'] }) {v u v' : Value} {w' : World} (hd : a.eval d = v) (hs : a.eval s = u)
    (hr : ∀ ty, (Builtin.copy_ #[t, t'] ty #[v, u]).run P w = .ok v' w') : (execOp a.eval o).run P w = .ok (.value v') w' := by
  unfold execOp
  simp only [ho, resolve, invoke, builtin, Sem.run_bind, Sem.run_pure, Result.andThen_ok, List.map_toArray, List.map_cons, List.map_nil, hd, hs, hr]
theorem exec_append {o : Oper} {a : Act} (d s : Operand) (t t' : TypeId) (ho : o.op = .call { callee := .builtin .append, args := #[d, s], argTypes := #[t, t'] }) {v u v' : Value} {w' : World} (hd : a.eval d = v) (hs : a.eval s = u)
    (hr : ∀ ty, (Builtin.append_ #[t, t'] ty #[v, u]).run P w = .ok v' w') : (execOp a.eval o).run P w = .ok (.value v') w' := by
  unfold execOp
  simp only [ho, resolve, invoke, builtin, Sem.run_bind, Sem.run_pure, Result.andThen_ok, List.map_toArray, List.map_cons, List.map_nil, hd, hs, hr]
theorem exec_clear {o : Oper} {a : Act} (d : Operand) (t : TypeId) (ho : o.op = .call { callee := .builtin .clear, args := #[d], argTypes := #[t] }) {v v' : Value} {w' : World} (hd : a.eval d = v)
    (hr : ∀ ty, (Builtin.clear_ #[t] ty #[v]).run P w = .ok v' w') : (execOp a.eval o).run P w = .ok (.value v') w' := by
  unfold execOp
  simp only [ho, resolve, invoke, builtin, Sem.run_bind, Sem.run_pure, Result.andThen_ok, List.map_toArray, List.map_cons, List.map_nil, hd, hr]
end
end Go.Hg
