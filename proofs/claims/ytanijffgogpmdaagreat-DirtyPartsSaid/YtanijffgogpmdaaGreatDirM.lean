/- dirty.Spots: the spots of changes, in order; ref17.Graph.Copy; the reference's changes of a graph whose blocks are of P; ref20.Spots, ref20.Join: spots in order; A law's row: how it is closed where the call returns true and nothing that was there has turned; A law's row: its argument of operations, opened. Conditions: those that each theorem names. -/
import Derived.WalkKit
import Derived.WalkSpells
import Derived.WalkLawsBesides
import Derived.Lib.Hide
import Derived.BigQuiet
import Derived.Deep.LoopGhost
import Derived.Test.YtanijffgogpmdaaGreatRows
import Derived.Lib.SliceRun
import Derived.WideMake
import Derived.Deep.RegionLaw
import Derived.Lib.Overlaps
import Derived.Deep.RegionHeld3
import Derived.Laws.ResultCell
import Derived.Laws.EntriesVeiled
import Derived.Maps.OwnOps
import Derived.Maps.OwnSet
import Derived.Carry
import Derived.Lib.SlKeysI
import Derived.Maps.RangeWalk
import Derived.Lib.SlMapFilter
import Derived.Deep.DeepCutAuto
import Derived.Shelf.SlIterI.Nil
import Derived.Shelf.SortM.Plain
import Derived.Shelf.SortM.SortNone
import Derived.Shelf.SlMaps.DeleteFunc
import Derived.Shelf.SlSortCmp.WholeK
import Derived.Shelf.SlIterI.Collect
import Derived.RangeFuncBox
import Derived.RangeFuncLeaves
import Derived.RangeFuncWrites
import Derived.Maps.AppendAt
import Derived.Deep.CutBlock
import Derived.BigRegion
import Derived.RowKit
import Derived.ReadAgain
import Derived.ChangeOld
import Derived.Deep.Slices
import Derived.Test.YtanijffgogpmdaaGreatDirL
namespace Go.Hg
open Go.RowKit Go.Proofs MapKept Go.Maps

theorem catOne (W : World) (t : ByteArray) : CatR (fun b => W.heap.size ≤ b) ((W.alloc (.cells #[.string t] 9)).alloc (.cells #[.string t] 9)) (.slice (some ⟨W.heap.size, 0, none⟩) 1 1) (.slice (some ⟨W.heap.size + 1, 0, none⟩) 1 1) (.slice none 0 0) (.slice none 0 0) ⟨[t], [t], [], [], 0⟩ := by
  have q1 := strsLit W [t] 9 (by simp [maxLen])
  have q2 := strsLit (W.alloc (.cells #[.string t] 9)) [t] 9 (by simp [maxLen])
  rw [World.size_alloc] at q2
  exact ⟨q1.growS ((Grow.rfl' _).allocd _), SlR.sub q2 (fun b hb => by omega) (fun _ _ _ h => h), (OwnL.nil _ 0 _ _).toSl (by simp), (OwnL.nil _ 0 _ _).toSl (by simp)⟩

set_option maxRecDepth 100000 in
set_option maxHeartbeats 8000000 in
theorem dirtySpots (S S2 : Nat → Prop) (B : Nat) (G : PGraph) (lv : Value) (l : List POp) (w : World) (h : GraphOk 120 S w B G) (hi : GInv G) (hl : OpsR S2 w lv l) (hlen : l.length ≤ 60) (hE : G.edges.length ≤ 200) :
    Calls Tryz.prog 38 #[.pointer (some ⟨B, 0, none⟩), lv] w fun e w' => ∃ v L, e = .returned v ∧ SpSet L (spotsG G l) ∧ SpotsR (fun q => w.heap.size ≤ q) w' v L ∧ Grow w w' := by
  obtain ⟨aa, ca, rfl, hal, hac, hA⟩ := SlR.open hl
  unfold maxLen at hac
  have HA := Lib.hid hA; have HOK := Lib.hid h; have HI := Lib.hid hi; have HLEN := Lib.hid hlen; have HE := Lib.hid hE
  have HM0 := Lib.hid (MapK.made (kv := PSpot.args) w)
  have HW := Lib.hid (show ∀ o1, Grow w (w.alloc o1) from fun o1 => (Grow.rfl' w).allocd o1)
  clear hl hA h hi hlen hE
  have hmm := @run_makeMap Tryz.prog
  go_enter Tryz.func38, Tryz.ntmps38
  go_wp2_with fail
  clear hmm
  refine (graphCopy S B G _ (HOK.out.grow (HW.out _)).rd (by have := HI.out.items; omega) (by have := HI.out.items; omega) (fun x hx => by have := (HI.out.nodesB x hx).2.2; omega) (fun x hx => by have := (HI.out.edgesB x hx).2.2; omega)).mono ?_
  rintro e w2 ⟨B2, rfl, hok2, g2⟩
  have HG2 := Lib.hid ((HW.out _).step g2)
  have HM2 := Lib.hid (show MapK PSpot.args w2 w.heap.size (cntK ([] : List PSpot)) 0 from HM0.out.grow g2)
  have HP2 := Lib.hid (show GraphP (fun b => w.heap.size + 1 ≤ b) w2 B2 G from ⟨_, hok2, fun b hb => by simpa using hb⟩)
  clear g2 hok2
  go_wp2
  go_loopg [17] l.length (fun g iv wr => ∃ k : Nat, k ≤ l.length ∧ g = l.length - k ∧ iv = .int .i64 k ∧ MapK PSpot.args wr w.heap.size (cntK (spotsG G (l.take k))) (k * 262) ∧ GraphP (fun b => w.heap.size + 1 ≤ b) wr B2 (runG G (l.take k)) ∧ Grow w wr)
  case atStart => exact ⟨0, by omega, by omega, rfl, HM2.out, HP2.out, HG2.out⟩
  case round =>
    obtain ⟨k, hk, rfl, rfl, hm, hp, hg⟩ := hrel
    have HM := Lib.hid hm; have HP := Lib.hid hp; have HG := Lib.hid hg
    by_cases hkl : k < l.length
    · obtain ⟨ba, oa, ra, rfl, hSa, hba, hRa, hca⟩ := HA.out k l[k] (List.getElem?_eq_getElem hkl)
      obtain ⟨hbl, c0, c1, c2, c3, c4, c5, c6, c7, c8, c9⟩ := opCells hRa hba hg hca
      have HT := Lib.hid (show l.take (k + 1) = l.take k ++ [l[k]] from List.take_succ_eq_append_getElem hkl)
      have HSN := Lib.hid (show spotsG G (l.take (k + 1)) = spotsG G (l.take k) ++ (if mayG (catO l[k]) l[k] (runG G (l.take k)) = 0 then noteG (runG G (l.take k)) l[k] else []) by rw [HT.out, spotsG_snoc])
      have HRN := Lib.hid (show runG G (l.take (k + 1)) = stepG (catO l[k]) l[k] (runG G (l.take k)) by rw [HT.out, runG_snoc])
      have HIK := Lib.hid (runG_inv HI.out (l.take k))
      have HLK := Lib.hid (show (spotsG G (l.take k)).length ≤ 100000 by
        have h1 := spotsG_len G (l.take k) (by have := HE.out; have := HLEN.out; rw [List.length_take]; omega)
        rw [List.length_take] at h1
        have := HLEN.out
        omega)
      have HEK := Lib.hid (show (runG G (l.take k)).edges.length ≤ 260 by
        have h1 := runG_edges G (l.take k)
        rw [List.length_take] at h1
        have := HE.out; have := HLEN.out
        omega)
      have hsz : w.heap.size + 1 ≤ wr.heap.size := hm.lt
      have HSZ := Lib.hid hsz
      clear hm hp hg hRa hba hca hSa
      generalize l[k] = o at *
      generalize runG G (l.take k) = Gk at *
      generalize spotsG G (l.take k) = Mk at *
      obtain ⟨S5, hok5, hS5⟩ := HP.out
      have HOK5 := Lib.hid hok5; have HS5 := Lib.hid hS5
      clear hok5 hS5
      obtain ⟨W5, hW5⟩ : ∃ W5, (((wr.alloc (.cells #[.int .i64 o.kind, .int .i64 o.id, .string o.typ, .int .i64 o.from_, .int .i64 o.to_, .string o.name, .int .i64 o.v.kind, .int .i64 o.v.n, .string o.v.s, .bool o.cascade] 44)).alloc (.cells #[.string o.typ] 9)).alloc (.cells #[.string o.typ] 9)).alloc (.cells #[.slice (some ⟨wr.heap.size + 1, 0, none⟩) 1 1, .slice (some ⟨wr.heap.size + 1 + 1, 0, none⟩) 1 1, .slice none 0 0, .slice none 0 0, .int .i64 0] 52) = W5 := ⟨_, rfl⟩
      have HG5 := Lib.hid (show Grow wr W5 by rw [← hW5]; exact ((((Grow.rfl' wr).allocd _).allocd _).allocd _).allocd _)
      have HOB := Lib.hid (show OpAt W5 wr.heap.size o by
        unfold OpAt
        rw [← hW5, ((((Grow.rfl' (wr.alloc _)).allocd _).allocd _).allocd _).heapEq (by simp)]
        exact heap_alloc_new wr _)
      have HC5 := Lib.hid (show CatR (fun b => wr.heap.size + 1 ≤ b) W5 (.slice (some ⟨wr.heap.size + 1, 0, none⟩) 1 1) (.slice (some ⟨wr.heap.size + 1 + 1, 0, none⟩) 1 1) (.slice none 0 0) (.slice none 0 0) (catO o) by
        have h1 := catOne (wr.alloc (.cells #[.int .i64 o.kind, .int .i64 o.id, .string o.typ, .int .i64 o.from_, .int .i64 o.to_, .string o.name, .int .i64 o.v.kind, .int .i64 o.v.n, .string o.v.s, .bool o.cascade] 44)) o.typ
        rw [World.size_alloc] at h1
        rw [← hW5]
        exact h1.grow ((Grow.rfl' _).allocd _))
      have HCB := Lib.hid (show CatAt W5 (wr.heap.size + 1 + 1 + 1) (.slice (some ⟨wr.heap.size + 1, 0, none⟩) 1 1) (.slice (some ⟨wr.heap.size + 1 + 1, 0, none⟩) 1 1) (.slice none 0 0) (.slice none 0 0) (catO o) by
        unfold CatAt
        have h1 := heap_alloc_new (((wr.alloc (.cells #[.int .i64 o.kind, .int .i64 o.id, .string o.typ, .int .i64 o.from_, .int .i64 o.to_, .string o.name, .int .i64 o.v.kind, .int .i64 o.v.n, .string o.v.s, .bool o.cascade] 44)).alloc (.cells #[.string o.typ] 9)).alloc (.cells #[.string o.typ] 9)) (.cells #[.slice (some ⟨wr.heap.size + 1, 0, none⟩) 1 1, .slice (some ⟨wr.heap.size + 1 + 1, 0, none⟩) 1 1, .slice none 0 0, .slice none 0 0, .int .i64 0] 52)
        rw [World.size_alloc, World.size_alloc, World.size_alloc] at h1
        rw [← hW5]
        exact h1)
      have HW5e := Lib.hid hW5
      clear hW5
      go_wp2_with fail
      rw [HW5e.out]
      clear HW5e c0 c1 c2 c3 c4 c5 c6 c7 c8 c9 hbl
      refine (graphMay S5 _ B2 Gk _ _ _ _ (catO o) o W5 (HOK5.out.grow HG5.out) HIK.out HC5.out).mono ?_
      rintro e w6 ⟨rfl, g6⟩
      have HG6 := Lib.hid g6; have HG6r := Lib.hid (HG5.out.step g6)
      clear g6
      by_cases hmay : mayG (catO o) o Gk = 0
      · rw [hmay]
        have HMAY := Lib.hid hmay
        clear hmay
        obtain ⟨hol, c0, c1, c2, c3, c4, c5, c6, c7, c8, c9⟩ := (HOB.out.grow HG6.out).at
        go_wp2_with fail
        refine (dirtyNote S5 w.heap.size B2 (k * 262) Mk Gk (catO o) o w6 (HOK5.out.grow HG6r.out) HIK.out HMAY.out (HM.out.grow HG6r.out) HLK.out (fun hb => by have := HS5.out _ hb; omega)).mono ?_
        rintro e w7 ⟨rfl, hm7, md7⟩
        have HM7 := Lib.hid hm7; have HD7 := Lib.hid md7
        have hob7 := (HOB.out.grow HG6.out).modd md7 (show wr.heap.size ≠ w.heap.size by have := HSZ.out; omega)
        have hcb7 : CatAt w7 _ _ _ _ _ (catO o) := (md7.block _ (blk_lt (HCB.out.grow HG6.out)) (show wr.heap.size + 1 + 1 + 1 ≠ w.heap.size by have := HSZ.out; omega)).trans (HCB.out.grow HG6.out)
        have HC7 := Lib.hid ((HC5.out.grow HG6.out).mod md7 (fun b hb => by have := HSZ.out; omega))
        have HP7 := Lib.hid (show GraphP (fun b => w.heap.size + 1 ≤ b) w7 B2 Gk from ⟨S5, (HOK5.out.grow HG6r.out).keep md7 (fun b hb hq => by have := HS5.out b hb; omega), HS5.out⟩)
        have HSZ7 := Lib.hid (show w.heap.size + 1 ≤ w7.heap.size from Nat.le_trans HSZ.out (Nat.le_trans HG6r.out.size md7.size))
        clear hol c0 c1 c2 c3 c4 c5 c6 c7 c8 c9 hm7 md7
        obtain ⟨hol, c0, c1, c2, c3, c4, c5, c6, c7, c8, c9⟩ := hob7.at
        obtain ⟨hcl, d0, d1, d2, d3, d4⟩ := hcb7.at
        clear hob7 hcb7
        go_wp2_with fail
        refine (doP (fun b => w.heap.size + 1 ≤ b) _ B2 Gk _ _ _ _ (catO o) o w7 w7 HP7.out (Grow.rfl' _) (fun b hb => by have := HSZ7.out; omega) HIK.out HC7.out).mono ?_
        rintro e w8 ⟨rfl, hp8, md8⟩
        have HM8 := Lib.hid (HM7.out.mod md8 (fun hb => by have := hb.1; omega))
        have HP8 := Lib.hid hp8
        have HG8 := Lib.hid (((HG.out.step HG6r.out).modd HD7.out (fun b hb => by omega)).modd md8 (fun b hb => by have := hb.1; omega))
        clear hol c0 c1 c2 c3 c4 c5 c6 c7 c8 c9 hp8 md8 hcl d0 d1 d2 d3 d4
        go_wp2
        go_roundg (l.length - (k + 1))
        case measure => omega
        case rel => exact ⟨k + 1, by omega, rfl, by go_num, by rw [HSN.out, if_pos HMAY.out]; exact HM8.out.mono (by have := HEK.out; omega), by rw [HRN.out]; exact HP8.out, HG8.out⟩
      · have hb : (mayG (catO o) o Gk == 0) = false := by simpa using hmay
        have HMAY := Lib.hid hmay
        clear hmay
        go_wp2
        go_roundg (l.length - (k + 1))
        case measure => omega
        case rel => exact ⟨k + 1, by omega, rfl, by go_num, by rw [HSN.out, if_neg HMAY.out, List.append_nil]; exact (HM.out.grow HG6r.out).mono (by omega), by rw [HRN.out]; unfold stepG; rw [if_neg HMAY.out]; exact HP.out.grow HG6r.out, HG.out.step HG6r.out⟩
    · have hkk : l.take k = l := List.take_of_length_le (by omega)
      rw [hkk] at HM HP
      have HD := Lib.hid (dirtySorted w.heap.size _ _ wr HM.out (by have := HLEN.out; omega))
      clear hm hp hg
      go_wp2_with fail
      refine HD.out.mono ?_
      rintro e w3 ⟨v, L, rfl, h1, h2, h3, h4⟩
      obtain ⟨_, _, rfl, _⟩ := SlR.open h3
      have HX := Lib.hid (And.intro h1 (And.intro h2 (And.intro h3 h4)))
      clear h1 h2 h3 h4
      go_wp2
      go_ret
      exact ⟨_, L, rfl, ⟨HX.out.1, fun x => (HX.out.2.1 x).trans (cntK_mem _ _)⟩, HX.out.2.2.1.sub (fun q hq => by have := HG.out.size; omega) (fun _ _ _ h => h), HG.out.step HX.out.2.2.2⟩
end Go.Hg

namespace Go.Hg
open Go.RowKit Go.Proofs

def GraphPr (P : Nat → Prop) (w : World) (B : Nat) (G : PGraph) : Prop := ∃ S : Nat → Prop, GraphOk 55 S w B G ∧ ∀ b, S b → P b
theorem GraphPr.grow {P : Nat → Prop} {w w' : World} {B : Nat} {G : PGraph} (h : GraphPr P w B G) (g : Grow w w') : GraphPr P w' B G := by
  obtain ⟨S, h1, h2⟩ := h
  exact ⟨S, h1.grow g, h2⟩
end Go.Hg

namespace Go.Hg
open Go.RowKit Go.Proofs

theorem SlR.cut {α : Type} {S : Nat → Prop} {w : World} {sz : Nat} {R : α → List Value → Prop} {v : Value} {l : List α} (h : SlR S w sz R v l) : SlR (fun b => S b ∧ b < w.heap.size) w sz R v l := by
  obtain ⟨a, cap, rows, hv, h1, h2, h3, h4, h5⟩ := h
  exact ⟨a, cap, rows, hv, h1, h2, h3, h4, fun h0 => let ⟨b, off, e, hS, hb, hc⟩ := h5 h0; ⟨b, off, e, ⟨hS, hb⟩, hb, hc⟩⟩

end Go.Hg

namespace Go.Hg
open Go.RowKit Go.ChangeShapes

section
variable {H : Type} {enc : TypeId × Value → H} {P : Program} {W W' : World}
theorem sameAt_grow (hg : Grow W W') {p : MemPlace} (hp : p.block < W.heap.size) : W.sameAt W' p := Below.same hg hp
theorem trodAll_grow {base : Nat} {sp : Nat → Bool} {hd : Bool} (hg : Grow W W') : ∀ {ts : List TypeId} {vs : List Value} {ds : List (DataW H)} {ps : List MemPlace}, DataW.TrodAll enc P W base sp hd ts vs ds ps → DataW.TrodAll enc P W' base sp hd ts vs ds ps
  | [], [], [], _, h => h
  | _ :: _, _ :: _, _ :: _, _, ⟨p, q, ⟨n, h1⟩, h2, e⟩ => ⟨p, q, ⟨n, DataW.trod_carry n _ _ _ h1 (fun x hx => sameAt_grow hg (DataW.trod_lt n _ _ _ h1 x hx))⟩, trodAll_grow hg h2, e⟩
theorem lawPost {f : Func} {s : ChangeSpec} {apart fresh handsOn again : Bool} {args : Array Value} {ds gs : List (DataW H)} {before : List MemPlace} {t : TypeId}
    (K : Kids P (· < P.types.size)) (hz : ∀ t e, t < P.types.size → P.underlying t = some (.slice e) → 0 < P.cellsOf e) (hts : ∀ t ∈ f.params.toList, t < P.types.size)
    (hW : DataW.Whole enc P f.params.toList s.vars apart W args.toList ds gs before) (hv : s.vars = []) (hres : (s.fn H (ds ++ gs)).results = [.lit (.bool true)]) (hargs : (s.fn H (ds ++ gs)).args = ds) (hvars : (s.fn H (ds ++ gs)).vars = [])
    (hrt : f.resultTypes = #[t]) (ht : P.underlying t = some .bool) (hg : Grow W W') : s.post enc P f apart fresh handsOn again W args (.bool true) W' := by
  have hlt := hW.lt
  have hold : ∀ p ∈ before, (fun b => decide (b < W.heap.size)) p.block = true := fun p hp => by simpa using hlt p hp
  have hW2 := hW
  obtain ⟨p, q, h1, h2, e, hfz, hnd⟩ := hW2
  rw [hv] at h2
  obtain ⟨rfl, rfl⟩ : gs = [] ∧ q = [] := by
    cases gs with
    | nil => exact ⟨rfl, h2⟩
    | cons => exact h2.elim
  rw [List.append_nil] at e
  subst e
  have hA : ∀ sp : Nat → Bool, (∀ x ∈ before, sp x.block = true) → DataW.TrodAll enc P W' 0 sp true f.params.toList args.toList (s.fn H (ds ++ [])).args before := fun sp hsp => by
    rw [hargs]
    exact (trodAll_grow hg h1).respare K hz hts hsp
  have hR : ∀ (b : Nat) (sp : Nat → Bool) (hd : Bool), DataW.TrodAll enc P W' b sp hd f.resultTypes.toList ((Value.bool true).resultList f.resultTypes.size) (s.fn H (ds ++ [])).results [] := fun b sp hd => by
    rw [hres, hrt]
    exact ⟨[], [], shut_bool ht true, rfl, rfl⟩
  have hV : ∀ sp : Nat → Bool, DataW.TrodVars enc P W' sp s.vars (s.fn H (ds ++ [])).vars [] := fun sp => by rw [hv, hvars]; rfl
  refine ⟨ds, [], before, [], before, [], hW, hR _ _ _, hA _ hold, hV _, World.keptBut_mono (fun p hp => ⟨hp, ?_⟩) (Below.frame hg (· ∈ before)), fun _ => ?_⟩
  · exact Or.inr (Or.inl hp)
  · refine ⟨ok_one hrt rfl (okWide_bool_mk ht true), _, _, ([] ++ before) ++ [], ⟨[] ++ before, [], trodAll_append (hA _ (fun _ _ => rfl)) (hR _ _ _), hV _, rfl, ?_, ?_⟩, ?_⟩
    · intro b off hp
      have hp' : MemPlace.cell b off ∈ before := by simpa using hp
      rw [Below.frozen hg (p := ⟨b, off, none⟩) (hlt _ hp')]
      exact hfz b off hp'
    · intro ha
      simpa using hnd ha
    · intro p hp _
      simpa using hp
end
end Go.Hg

namespace Go.Hg
open Go.RowKit Go.ChangeShapes Go.WideShapes Go.Deep Go.Proofs

theorem cellsI : Tryz.prog.cellsOf 3 = 1 := by kernel_rfl
theorem cellsStr : Tryz.prog.cellsOf 9 = 1 := by kernel_rfl
section
variable {H : Type} {enc : TypeId × Value → H} {W : World} {base : Nat} {sp : Nat → Bool} {held : Bool}
theorem list3 {α : Type} {l : List α} (h : l.length = 3) : ∃ a b c, l = [a, b, c] := by
  match l, h with
  | [a, b, c], _ => exact ⟨a, b, c, rfl⟩
theorem field_at {t : TypeId} {fs : Array Field} {n : Nat} {cs : List Value} {xs : List (DataW H × List MemPlace)} (hsz : xs.length = fs.size)
    (hf : ∀ (i : Nat) (f : Field), fs[i]? = some f → DataW.trod enc Tryz.prog W base sp held n f.type ((cs.drop f.offset).take (Tryz.prog.cellsOf f.type)) = xs[i]?) (i : Nat) {f : Field} (hi : fs[i]? = some f) (ht : f.type = t) {c o : Nat} (hc : Tryz.prog.cellsOf t = c) (ho : f.offset = o) :
    ∃ y, DataW.trod enc Tryz.prog W base sp held n t ((cs.drop o).take c) = some y := by
  have h := hf i f hi
  have hlt : i < xs.length := by rw [hsz]; exact (Array.getElem?_eq_some_iff.1 hi).1
  rw [List.getElem?_eq_getElem hlt, ht, hc, ho] at h
  exact ⟨_, h⟩
end
end Go.Hg
