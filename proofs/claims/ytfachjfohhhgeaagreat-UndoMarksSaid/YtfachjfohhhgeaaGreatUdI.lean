/- What a change's closure holds, and that it takes the change back; undo.prop: a property's value; (undo.Trail).back: what takes a change back that is to come; A trail: the plain words, what lies there; A row of numbers of one's own, made since a block: the law of append; A row of structs of one's own, made since a block: the law of append. Conditions: those that each theorem names. -/
import Derived.WalkKit
import Derived.WalkSpells
import Derived.WalkLawsBesides
import Derived.Lib.Hide
import Derived.BigQuiet
import Derived.Deep.LoopGhost
import Derived.Maps.OwnOps
import Derived.Maps.OwnSet
import Derived.Carry
import Derived.Test.YtfachjfohhhgeaaGreatRows
import Derived.Lib.SlKeysI
import Derived.Lib.SliceRun
import Derived.WideMake
import Derived.Deep.RegionLaw
import Derived.Lib.Overlaps
import Derived.Deep.RegionHeld3
import Derived.Laws.ResultCell
import Derived.Shelf.SlSortCmp.WholeK
import Derived.Laws.EntriesVeiled
import Derived.Test.YtfachjfohhhgeaaGreatUdH
namespace Go.Hg
open Go.RowKit Go.Proofs

theorem slCut {α : Type} {S : Nat → Prop} {w : World} {sz : Nat} {R : α → List Value → Prop} {v : Value} {l : List α} (h : SlR S w sz R v l) : SlR (fun b => S b ∧ b < w.heap.size) w sz R v l := by
  obtain ⟨a, cap, rows, hv, hl, hc, hr, hR1, h⟩ := h
  refine ⟨a, cap, rows, hv, hl, hc, hr, hR1, fun h0 => ?_⟩
  obtain ⟨b, off, ha, hS, hb, hcell⟩ := h h0
  exact ⟨b, off, ha, ⟨hS, hb⟩, hb, hcell⟩
theorem edgesCut {S : Nat → Prop} {w : World} {v : Value} {l : List PEdge} (h : EdgesR S w v l) : EdgesR (fun b => S b ∧ b < w.heap.size) w v l := SlR.sub (slCut h) (fun _ h => h) (fun _ _ _ hR => hR.cut)
theorem edgesMod {F S : Nat → Prop} {w w' : World} {v : Value} {l : List PEdge} (h : EdgesR S w v l) (g : Mod F w w') (hd : ∀ b, S b → ¬ F b) : EdgesR S w' v l := SlR.sub (SlR.modS h g hd) (fun _ h => h) (fun _ _ _ hR => hR.mod g hd)
theorem edgesSub {S S' : Nat → Prop} {w : World} {v : Value} {l : List PEdge} (h : EdgesR S w v l) (hS : ∀ b, S b → S' b) : EdgesR S' w v l := SlR.sub h hS (fun _ _ _ hR => hR.sub hS)

theorem slNil {α : Type} (S : Nat → Prop) (w : World) (sz : Nat) (R : α → List Value → Prop) : SlR S w sz R (.slice none 0 0) [] := ⟨none, 0, [], rfl, Nat.le_refl _, by simp [maxLen], rfl, by simp, by simp⟩
theorem noCat (S : Nat → Prop) (w : World) : CatR S w (.slice none 0 0) (.slice none 0 0) (.slice none 0 0) (.slice none 0 0) noC := ⟨slNil _ _ _ _, slNil _ _ _ _, slNil _ _ _ _, slNil _ _ _ _⟩
theorem slOne {α : Type} {S : Nat → Prop} {w : World} {b sz : Nat} {cs : Array Value} {T : TypeId} {R : α → List Value → Prop} (hb : w.heap[b]? = some (.cells cs T (0, 0))) (hS : S b) (x : α) (hR : R x cs.toList) : SlR S w sz R (.slice (some ⟨b, 0, none⟩) 1 1) [x] := by
  refine ⟨some ⟨b, 0, none⟩, 1, [cs.toList], rfl, Nat.le_refl _, by simp [maxLen], rfl, ?_, fun _ => ⟨b, 0, rfl, hS, blk_lt hb, ?_⟩⟩
  · intro k y r hy hr
    cases k with
    | zero => simp at hy hr; subst hy; subst hr; exact hR
    | succ k => simp at hy
  · intro k r j c hr hj
    cases k with
    | zero =>
      simp at hr
      subst hr
      rw [blk_cell hb]
      simpa using hj
    | succ k => simp at hr

def BoxU (K : Nat → Prop) (w : World) (b : Nat) (cs : Array Value) (T : TypeId) : Prop := K b ∧ w.heap[b]? = some (.cells cs T (0, 0))
theorem BoxU.mod {F K : Nat → Prop} {w w' : World} {b : Nat} {cs : Array Value} {T : TypeId} (h : BoxU K w b cs T) (g : Mod F w w') (hd : ∀ b, K b → ¬ F b) : BoxU K w' b cs T := ⟨h.1, blk_mod h.2 g (hd b h.1)⟩
theorem BoxU.sub {K K' : Nat → Prop} {w : World} {b : Nat} {cs : Array Value} {T : TypeId} (h : BoxU K w b cs T) (hK : ∀ b, K b → K' b) : BoxU K' w b cs T := ⟨hK _ h.1, h.2⟩
theorem BoxU.cut {K : Nat → Prop} {w : World} {b : Nat} {cs : Array Value} {T : TypeId} (h : BoxU K w b cs T) : BoxU (fun b => K b ∧ b < w.heap.size) w b cs T := ⟨⟨h.1, blk_lt h.2⟩, h.2⟩
abbrev capU (b : Nat) : Value := .pointer (some ⟨b, 0, none⟩)
def BackV (K : Nat → Prop) (w : World) (B : Nat) (o : POp) (g : PGraph) (fv : Value) : Prop :=
  ∃ gb, BoxU K w gb #[capU B] 24 ∧
    (((o.kind = 1 ∨ o.kind = 3) ∧ ∃ nb, BoxU K w nb #[.int .i64 g.next] 2 ∧ fv = .func (.func 62) #[] #[capU gb, capU nb]) ∨
     (o.kind = 5 ∧ ∃ ob vb ps, findP g o.id = some ps ∧ BoxU K w ob o.cells.toArray 35 ∧ BoxU K w vb #[.int .i64 (getV ps o.name).kind, .int .i64 (getV ps o.name).n, .string (getV ps o.name).s] 33 ∧ fv = .func (.func 65) #[] #[capU gb, capU ob, capU vb]) ∨
     (o.kind = 4 ∧ ∃ eb x pv, x ∈ g.edges ∧ x.id = o.id ∧ BoxU K w eb #[.int .i64 x.id, .string x.typ, .int .i64 x.from_, .int .i64 x.to_, pv] 91 ∧ PropsR K w pv x.props ∧ fv = .func (.func 67) #[] #[capU gb, capU eb]) ∨
     (o.kind = 2 ∧ ∃ nb eb x pv ev, x ∈ g.nodes ∧ x.id = o.id ∧ BoxU K w nb #[.int .i64 x.id, .string x.typ, pv] 89 ∧ PropsR K w pv x.props ∧ BoxU K w eb #[ev] 84 ∧ EdgesR K w ev (g.edges.filter fun y => atE y o.id) ∧ fv = .func (.func 70) #[] #[capU gb, capU nb, capU eb]))
theorem BackV.mod {F K : Nat → Prop} {w w' : World} {B : Nat} {o : POp} {g : PGraph} {fv : Value} (h : BackV K w B o g fv) (m : Mod F w w') (hd : ∀ b, K b → ¬ F b) : BackV K w' B o g fv := by
  obtain ⟨gb, h0, h⟩ := h
  refine ⟨gb, h0.mod m hd, ?_⟩
  rcases h with ⟨h1, nb, h2, h3⟩ | ⟨h1, ob, vb, ps, h2, h3, h4, h5⟩ | ⟨h1, eb, x, pv, h2, h3, h4, h5, h6⟩ | ⟨h1, nb, eb, x, pv, ev, h2, h3, h4, h5, h6, h7, h8⟩
  · exact .inl ⟨h1, nb, h2.mod m hd, h3⟩
  · exact .inr (.inl ⟨h1, ob, vb, ps, h2, h3.mod m hd, h4.mod m hd, h5⟩)
  · exact .inr (.inr (.inl ⟨h1, eb, x, pv, h2, h3, h4.mod m hd, h5.mod m hd, h6⟩))
  · exact .inr (.inr (.inr ⟨h1, nb, eb, x, pv, ev, h2, h3, h4.mod m hd, h5.mod m hd, h6.mod m hd, edgesMod h7 m hd, h8⟩))
theorem BackV.sub {K K' : Nat → Prop} {w : World} {B : Nat} {o : POp} {g : PGraph} {fv : Value} (h : BackV K w B o g fv) (hK : ∀ b, K b → K' b) : BackV K' w B o g fv := by
  obtain ⟨gb, h0, h⟩ := h
  refine ⟨gb, h0.sub hK, ?_⟩
  rcases h with ⟨h1, nb, h2, h3⟩ | ⟨h1, ob, vb, ps, h2, h3, h4, h5⟩ | ⟨h1, eb, x, pv, h2, h3, h4, h5, h6⟩ | ⟨h1, nb, eb, x, pv, ev, h2, h3, h4, h5, h6, h7, h8⟩
  · exact .inl ⟨h1, nb, h2.sub hK, h3⟩
  · exact .inr (.inl ⟨h1, ob, vb, ps, h2, h3.sub hK, h4.sub hK, h5⟩)
  · exact .inr (.inr (.inl ⟨h1, eb, x, pv, h2, h3, h4.sub hK, h5.sub hK, h6⟩))
  · exact .inr (.inr (.inr ⟨h1, nb, eb, x, pv, ev, h2, h3, h4.sub hK, h5.sub hK, h6.sub hK, edgesSub h7 hK, h8⟩))
theorem BackV.cut {K : Nat → Prop} {w : World} {B : Nat} {o : POp} {g : PGraph} {fv : Value} (h : BackV K w B o g fv) : BackV (fun b => K b ∧ b < w.heap.size) w B o g fv := by
  obtain ⟨gb, h0, h⟩ := h
  refine ⟨gb, h0.cut, ?_⟩
  rcases h with ⟨h1, nb, h2, h3⟩ | ⟨h1, ob, vb, ps, h2, h3, h4, h5⟩ | ⟨h1, eb, x, pv, h2, h3, h4, h5, h6⟩ | ⟨h1, nb, eb, x, pv, ev, h2, h3, h4, h5, h6, h7, h8⟩
  · exact .inl ⟨h1, nb, h2.cut, h3⟩
  · exact .inr (.inl ⟨h1, ob, vb, ps, h2, h3.cut, h4.cut, h5⟩)
  · exact .inr (.inr (.inl ⟨h1, eb, x, pv, h2, h3, h4.cut, h5.cut, h6⟩))
  · exact .inr (.inr (.inr ⟨h1, nb, eb, x, pv, ev, h2, h3, h4.cut, h5.cut, h6.cut, edgesCut h7, h8⟩))

def BackPost (S : Nat → Prop) (B : Nat) (g : PGraph) (w : World) (e : Ending) (w' : World) : Prop :=
  e = .returned (.tuple #[]) ∧ GraphOk 101 (fun b => S b ∨ w.heap.size ≤ b) w' B g ∧ Mod S w w'
theorem backPost_of {S : Nat → Prop} {B : Nat} {g : PGraph} {w w' : World} (hB : S B) (h : GraphOk 101 (fun b => b = B ∨ w.heap.size ≤ b) w' B g) (m : Mod (fun b => b = B) w w') : BackPost S B g w (.returned (.tuple #[])) w' :=
  ⟨rfl, h.sub (fun b hb => hb.elim (fun e => .inl (by rw [e]; exact hB)) .inr), m.mono (fun b e => by rw [e]; exact hB)⟩

set_option maxHeartbeats 1000000 in
theorem back1 (S : Nat → Prop) (B gb nb : Nat) (H g : PGraph) (w : World) (h : GraphOk 101 S w B H) (hH : GInv H) (hg : goodG g = true) (e : goneG H g.next = g) (h1 : w.heap[gb]? = some (.cells #[capU B] 24 (0, 0))) (h2 : w.heap[nb]? = some (.cells #[.int .i64 g.next] 2 (0, 0))) :
    Calls Tryz.prog 62 #[capU gb, capU nb] w (BackPost S B g w) := by
  have hSB : S B := by obtain ⟨_, _, _, _, _, _, h, _⟩ := h; exact h
  have HGR := Lib.hid h; have HH := Lib.hid hH; have HE := Lib.hid e; have HG := Lib.hid hg; have HSB := Lib.hid hSB
  have hl1 := blk_lt h1; have hl2 := blk_lt h2
  have c1 : w.cell? ⟨gb, 0, none⟩ = some (capU B) := (blk_cell h1 0).trans rfl
  have c2 : w.cell? ⟨nb, 0, none⟩ = some (.int .i64 g.next) := (blk_cell h2 0).trans rfl
  clear h hH hg e hSB h1 h2
  go_enter Tryz.func62, Tryz.ntmps62
  go_wp2_with fail
  refine (undoGone S B H g.next _ HGR.out HH.out (by rw [HE.out]; exact HG.out)).mono ?_
  rintro e w2 ⟨rfl, hok, hm⟩
  rw [HE.out] at hok
  go_wp2
  go_end0
  exact backPost_of HSB.out hok hm

set_option maxHeartbeats 1000000 in
theorem back2 (S : Nat → Prop) (B gb ob vb : Nat) (H g : PGraph) (o : POp) (v : PVal) (w : World) (h : GraphOk 101 S w B H) (hH : GInv H) (e1 : mayG noC (wasOp o v) H = 0) (e2 : doG (wasOp o v) H = g) (h1 : w.heap[gb]? = some (.cells #[capU B] 24 (0, 0))) (h2 : w.heap[ob]? = some (.cells o.cells.toArray 35 (0, 0))) (h3 : w.heap[vb]? = some (.cells #[.int .i64 v.kind, .int .i64 v.n, .string v.s] 33 (0, 0))) :
    Calls Tryz.prog 65 #[capU gb, capU ob, capU vb] w (BackPost S B g w) := by
  have HGR := Lib.hid h; have HH := Lib.hid hH; have HE1 := Lib.hid e1; have HE2 := Lib.hid e2
  have hl1 := blk_lt h1; have hl2 := blk_lt h2; have hl3 := blk_lt h3
  have c1 : w.cell? ⟨gb, 0, none⟩ = some (capU B) := (blk_cell h1 0).trans rfl
  have c2 : w.cell? ⟨ob, 1, none⟩ = some (.int .i64 o.id) := (blk_cell h2 1).trans rfl
  have c3 : w.cell? ⟨ob, 5, none⟩ = some (.string o.name) := (blk_cell h2 5).trans rfl
  have c4 : w.cell? ⟨vb, 0, none⟩ = some (.int .i64 v.kind) := (blk_cell h3 0).trans rfl
  have c5 : w.cell? ⟨vb, 1, none⟩ = some (.int .i64 v.n) := (blk_cell h3 1).trans rfl
  have c6 : w.cell? ⟨vb, 2, none⟩ = some (.string v.s) := (blk_cell h3 2).trans rfl
  clear h hH e1 e2 h1 h2 h3
  go_enter Tryz.func65, Tryz.ntmps65
  go_wp2_with fail
  have hd := graphDo S (fun _ => False) B H (.slice none 0 0) (.slice none 0 0) (.slice none 0 0) (.slice none 0 0) noC (wasOp o v) w HGR.out HH.out (noCat _ _)
  refine hd.mono ?_
  rintro e w2 ⟨rfl, hok, hm⟩
  unfold Hg.stepG at hok
  rw [if_pos HE1.out, HE2.out] at hok
  go_wp2
  go_end0
  exact ⟨rfl, hok, hm⟩

set_option maxHeartbeats 1000000 in
theorem back3 (S K : Nat → Prop) (B gb eb : Nat) (H g : PGraph) (x : PEdge) (pv : Value) (w : World) (h : GraphOk 101 S w B H) (hH : GInv H) (hg : goodG g = true) (e1 : H.nodes = g.nodes) (e2 : (H.edges ++ [x]).Perm g.edges) (e3 : g.next = H.next)
    (h1 : w.heap[gb]? = some (.cells #[capU B] 24 (0, 0))) (h2 : w.heap[eb]? = some (.cells #[.int .i64 x.id, .string x.typ, .int .i64 x.from_, .int .i64 x.to_, pv] 91 (0, 0))) (hp : PropsR K w pv x.props) :
    Calls Tryz.prog 67 #[capU gb, capU eb] w (BackPost S B g w) := by
  have hSB : S B := by obtain ⟨_, _, _, _, _, _, h, _⟩ := h; exact h
  obtain ⟨pa, pc, rfl⟩ := hp.isSlice
  have HGR := Lib.hid h; have HH := Lib.hid hH; have HE1 := Lib.hid e1; have HE2 := Lib.hid e2; have HE3 := Lib.hid e3; have HG := Lib.hid hg; have HSB := Lib.hid hSB
  have hl1 := blk_lt h1; have hl2 := blk_lt h2
  have c1 : w.cell? ⟨gb, 0, none⟩ = some (capU B) := (blk_cell h1 0).trans rfl
  have d0 : w.cell? ⟨eb, 0, none⟩ = some (.int .i64 x.id) := (blk_cell h2 0).trans rfl
  have d1 : w.cell? ⟨eb, 1, none⟩ = some (.string x.typ) := (blk_cell h2 1).trans rfl
  have d2 : w.cell? ⟨eb, 2, none⟩ = some (.int .i64 x.from_) := (blk_cell h2 2).trans rfl
  have d3 : w.cell? ⟨eb, 3, none⟩ = some (.int .i64 x.to_) := (blk_cell h2 3).trans rfl
  have d4 : w.cell? ⟨eb, 4, none⟩ = some (.slice pa x.props.length pc) := (blk_cell h2 4).trans rfl
  have hgr : ∀ o1, Grow w (w.alloc o1) := fun o1 => (Grow.rfl' w).allocd o1
  have HGW := Lib.hid hgr
  have HER := Lib.hid (show EdgesR (fun _ => True) (w.alloc (.cells #[.int .i64 x.id, .string x.typ, .int .i64 x.from_, .int .i64 x.to_, .slice pa x.props.length pc] 91)) (.slice (some ⟨w.heap.size, 0, none⟩) 1 1) [x] from
    slOne (heap_alloc_new w _) trivial x ⟨_, rfl, (hp.grow (hgr _)).sub (fun _ _ => trivial)⟩)
  clear h hH hg e1 e2 e3 hSB h1 h2 hp hgr
  go_enter Tryz.func67, Tryz.ntmps67
  go_wp2_with fail
  refine (undoAgain S (fun _ => True) B H g [] [x] _ _ _ (HGR.out.grow (HGW.out _)) HH.out (slNil _ _ _ _) HER.out (by rw [List.append_nil, HE1.out]) HE2.out HE3.out HG.out).mono ?_
  rintro e w2 ⟨rfl, hok, hm⟩
  go_wp2
  go_end0
  exact backPost_of HSB.out (hok.sub (fun b hb => hb.imp id (fun h => by simp at h; omega))) ((Mod.of_grow (HGW.out _)).step hm)

set_option maxHeartbeats 1000000 in
theorem back4 (S K : Nat → Prop) (B gb nb eb : Nat) (H g : PGraph) (x : PNode) (pv ev : Value) (es : List PEdge) (w : World) (h : GraphOk 101 S w B H) (hH : GInv H) (hg : goodG g = true) (e1 : (H.nodes ++ [x]).Perm g.nodes) (e2 : (H.edges ++ es).Perm g.edges) (e3 : g.next = H.next)
    (h1 : w.heap[gb]? = some (.cells #[capU B] 24 (0, 0))) (h2 : w.heap[nb]? = some (.cells #[.int .i64 x.id, .string x.typ, pv] 89 (0, 0))) (hp : PropsR K w pv x.props) (h3 : w.heap[eb]? = some (.cells #[ev] 84 (0, 0))) (he : EdgesR K w ev es) :
    Calls Tryz.prog 70 #[capU gb, capU nb, capU eb] w (BackPost S B g w) := by
  have hSB : S B := by obtain ⟨_, _, _, _, _, _, h, _⟩ := h; exact h
  obtain ⟨pa, pc, rfl⟩ := hp.isSlice
  obtain ⟨ea, ec, rfl, _⟩ := SlR.open he
  have HGR := Lib.hid h; have HH := Lib.hid hH; have HE1 := Lib.hid e1; have HE2 := Lib.hid e2; have HE3 := Lib.hid e3; have HG := Lib.hid hg; have HSB := Lib.hid hSB
  have hl1 := blk_lt h1; have hl2 := blk_lt h2; have hl3 := blk_lt h3
  have c1 : w.cell? ⟨gb, 0, none⟩ = some (capU B) := (blk_cell h1 0).trans rfl
  have d0 : w.cell? ⟨nb, 0, none⟩ = some (.int .i64 x.id) := (blk_cell h2 0).trans rfl
  have d1 : w.cell? ⟨nb, 1, none⟩ = some (.string x.typ) := (blk_cell h2 1).trans rfl
  have d2 : w.cell? ⟨nb, 2, none⟩ = some (.slice pa x.props.length pc) := (blk_cell h2 2).trans rfl
  have hgr : ∀ o1, Grow w (w.alloc o1) := fun o1 => (Grow.rfl' w).allocd o1
  have c2 : ∀ o1, (w.alloc o1).cell? ⟨eb, 0, none⟩ = some (.slice ea es.length ec) := fun o1 => (blk_cell (((hgr o1).heapEq hl3).trans h3) 0).trans rfl
  have HGW := Lib.hid hgr
  have HNR := Lib.hid (show NodesR (fun _ => True) (w.alloc (.cells #[.int .i64 x.id, .string x.typ, .slice pa x.props.length pc] 89)) (.slice (some ⟨w.heap.size, 0, none⟩) 1 1) [x] from
    slOne (heap_alloc_new w _) trivial x ⟨_, rfl, (hp.grow (hgr _)).sub (fun _ _ => trivial)⟩)
  have HER := Lib.hid (show ∀ o1, EdgesR (fun _ => True) (w.alloc o1) (.slice ea es.length ec) es from fun o1 => edgesSub (he.grow (hgr o1)) (fun _ _ => trivial))
  clear h hH hg e1 e2 e3 hSB h1 h2 h3 hp he hgr
  go_enter Tryz.func70, Tryz.ntmps70
  go_wp2_with fail
  refine (undoAgain S (fun _ => True) B H g [x] es _ _ _ (HGR.out.grow (HGW.out _)) HH.out HNR.out (HER.out _) HE1.out HE2.out HE3.out HG.out).mono ?_
  rintro e w2 ⟨rfl, hok, hm⟩
  go_wp2
  go_end0
  exact backPost_of HSB.out (hok.sub (fun b hb => hb.imp id (fun h => by simp at h; omega))) ((Mod.of_grow (HGW.out _)).step hm)

theorem backCall (S K : Nat → Prop) (B : Nat) (o : POp) (g : PGraph) (fv : Value) (w : World) (hb : BackV K w B o g fv) (h : GraphOk 101 S w B (doG o g)) (hg : goodG g = true) (hm : mayG typesC o g = 0) :
    ∃ (f : Nat) (caps : Array Value), fv = .func (.func f) #[] caps ∧ (∀ args w, (callFunc f args).run Tryz.prog w = .ok (.enter f args) w) ∧ Calls Tryz.prog f caps w (BackPost S B g w) := by
  obtain ⟨hi, hx⟩ := goodG_iff.1 hg
  have hH : GInv (doG o g) := by
    have h2 := goodG_inv (goodG_step (o := o) typesC_names hg)
    unfold Hg.stepG at h2
    rwa [if_pos hm] at h2
  obtain ⟨gb, h0, hb⟩ := hb
  rcases hb with ⟨h1, nb, h2, h3⟩ | ⟨h1, ob, vb, ps, h2, h3, h4, h5⟩ | ⟨h1, eb, x, pv, h2, h3, h4, h5, h6⟩ | ⟨h1, nb, eb, x, pv, ev, h2, h3, h4, h5, h6, h7, h8⟩
  · refine ⟨_, _, h3, fun args w => enterF Tryz.func62 (by kernel_rfl) rfl args w, back1 S B gb nb _ g w h hH hg ?_ h0.2 h2.2⟩
    unfold Hg.doG goneG
    rcases h1 with h1 | h1
    · rw [if_pos h1]; exact gone_node hi o
    · rw [if_neg (by omega), if_neg (by omega), if_pos h1]; exact gone_edge hi o
  · have hn : NameOk o.name := by
      unfold mayG at hm
      rw [if_neg (by omega), if_neg (by omega), if_neg (by omega), if_neg (by omega), if_pos h1] at hm
      by_cases hN : ¬NameOk o.name ∨ ¬GoodV o.v ∧ ¬BlankV o.v
      · rw [if_pos hN] at hm; cases hm
      · exact Classical.not_not.1 (fun h => hN (.inl h))
    have hd : doG o g = setPropG o g := by unfold Hg.doG; rw [if_neg (by omega), if_neg (by omega), if_neg (by omega), if_neg (by omega), if_pos h1]
    obtain ⟨s1, s2⟩ := set_back hi hx h2 hn
    rw [← hd] at s1 s2
    exact ⟨_, _, h5, fun args w => enterF Tryz.func65 (by kernel_rfl) rfl args w, back2 S B gb ob vb _ g o _ w h hH s1 s2 h0.2 h3.2 h4.2⟩
  · have hd : doG o g = dropEdgeG o g := by unfold Hg.doG; rw [if_neg (by omega), if_neg (by omega), if_neg (by omega), if_pos h1]
    refine ⟨_, _, h6, fun args w => enterF Tryz.func67 (by kernel_rfl) rfl args w, back3 S K B gb eb _ g x pv w h hH hg (by rw [hd]; rfl) ?_ (by rw [hd]; rfl) h0.2 h4.2 h5⟩
    rw [hd]
    have := again_edge hi h2
    rw [h3] at this
    exact this
  · have hd : doG o g = dropNodeG o g := by unfold Hg.doG; rw [if_neg (by omega), if_pos h1]
    refine ⟨_, _, h8, fun args w => enterF Tryz.func70 (by kernel_rfl) rfl args w, back4 S K B gb nb eb _ g x pv ev _ w h hH hg ?_ ?_ (by rw [hd]; rfl) h0.2 h4.2 h5 h6.2 h7⟩
    · rw [hd]
      have := again_nodes hi h2
      rw [h3] at this
      exact this
    · rw [hd]
      exact again_edges g o.id
end Go.Hg

namespace Go.Hg
open Go.RowKit Go.Proofs

section
variable {P : Program} (w : World)
theorem run_append_0 (t ty e : TypeId) (i : TypeInfo) (ht : P.underlying t = some (.slice e)) (hi : P.info? e = some i) (oa : Option Addr) (n cap : Nat) (hc : n ≤ cap) :
    (Builtin.append_ #[t, t] ty #[.slice oa n cap, .slice none 0 0]).run P w = .ok (.slice oa n cap) w := by
  cases oa <;> simp [Builtin.append_, run_underlying ht, sizeOf, typeInfo, hi, Builtin.lenOf, hc, Builtin.firstCells, loadCells, storeCells]
theorem wp_append_0 {o : Oper} {a : Act} {K : Act → World → Prop} {Q : Exit → Act → World → Prop} (s x : Operand) (t : TypeId)
    (ho : o.op = .call { callee := .builtin .append, args := #[s, x], argTypes := #[t, t] })
    (e : TypeId) (i : TypeInfo) (ht : P.underlying t = some (.slice e)) (hi : P.info? e = some i)
    (oa : Option Addr) (n cap : Nat) (hc : n ≤ cap) (hs : a.eval s = .slice oa n cap) (hxv : a.eval x = .slice none 0 0)
    (h : K (a.put o.dst (.slice oa n cap)) w) : o.wp P a w K Q := by
  have hr := run_append_0 (P := P) w t o.type e i ht hi oa n cap hc
  unfold Oper.wp execOp
  simp only [ho, resolve, invoke, builtin, Sem.run_bind, Sem.run_pure, Result.andThen_ok, List.map_toArray, List.map_cons, List.map_nil, hs, hxv, hr]
  exact h
theorem wpList_append_0 {ops : Array Oper} {rest : List Oper} {o : Oper} {a : Act} {Q : Exit → Act → World → Prop} (hgd : o.guard = none) (s x : Operand) (t : TypeId)
    (ho : o.op = .call { callee := .builtin .append, args := #[s, x], argTypes := #[t, t] })
    (e : TypeId) (i : TypeInfo) (ht : P.underlying t = some (.slice e)) (hi : P.info? e = some i)
    (oa : Option Addr) (n cap : Nat) (hc : n ≤ cap) (hs : a.eval s = .slice oa n cap) (hxv : a.eval x = .slice none 0 0)
    (h : wpList P ops Q rest (a.put o.dst (.slice oa n cap)) w) : wpList P ops Q (o :: rest) a w :=
  wpList_plain hgd fun _ hK => wp_append_0 w s x t ho e i ht hi oa n cap hc hs hxv (hK _ _ h)
end

theorem propsOwn {w : World} {v : Value} {l : List PProp} {ob : Option Nat} (h : OwnS w 105 4 v l.length (l.map PProp.cells).flatten ob) : PropsR (fun _ => True) w v l :=
  (show OwnL w 105 4 RProp v l ob from ⟨l.map PProp.cells, by simp, fun k x r hx hr => by
    rw [List.getElem?_map, hx] at hr
    simp only [Option.map_some, Option.some.injEq] at hr
    subst hr
    exact ⟨rfl, rfl⟩, h⟩).toSl (S := fun _ => True) (fun _ _ => trivial)
set_option maxRecDepth 100000 in
set_option maxHeartbeats 1000000 in
theorem undoProp (S : Nat → Prop) (B : Nat) (G : PGraph) (id : Int) (name : ByteArray) (ps : List PProp) (w : World) (h : GraphOk 101 S w B G) (hg : goodG G = true) (hf : findP G id = some ps) :
    Calls Tryz.prog 64 #[capU B, .int .i64 id, .string name] w fun e w' => e = .returned ((getV ps name).args) ∧ Grow w w' := by
  obtain ⟨hi, hx⟩ := goodG_iff.1 hg
  have HRD := Lib.hid h.rd
  have HSN := Lib.hid hi.nodes; have HSE := Lib.hid hi.edges
  have HPN := Lib.hid (show ∀ x ∈ G.nodes, x.props.length ≤ 1099511627776 from fun x hx => by have := (hi.nodesB x hx).2.2; omega)
  have HPE := Lib.hid (show ∀ x ∈ G.edges, x.props.length ≤ 1099511627776 from fun x hx => by have := (hi.edgesB x hx).2.2; omega)
  have HIT := Lib.hid hi.items
  have HX := Lib.hid hx; have HF := Lib.hid hf
  have HNB := Lib.hid hi.nodesB; have HEB := Lib.hid hi.edgesB
  have HW := Lib.hid (show ∀ o1, Grow w (w.alloc o1) from fun o1 => (Grow.rfl' w).allocd o1)
  obtain ⟨iP, hiP, hzP0, hzP1, hzP2⟩ := info_parts infoProp
  clear h hg hf hi hx
  go_enter Tryz.func64, Tryz.ntmps64
  go_wp2_with fail
  refine (graphGetNode S B G id _ (HRD.out.grow (HW.out _)) HSN.out (by have := HIT.out; omega) HPN.out).mono ?_
  rintro e w2 ⟨hn, hg2⟩
  have HG2 := Lib.hid ((HW.out _).step hg2)
  have hz : w2.heap.size ≥ w.heap.size + 1 := by have := hg2.size; simpa using this
  have HR2 := Lib.hid ((hg2.heapEq (by simp)).trans (heap_alloc_new w (.cells #[.int .i64 0, .int .i64 0, .string ByteArray.empty] 33)))
  clear hg2
  rcases hn with ⟨hfn, rfl⟩ | ⟨x, pv, hfn, rfl, hpv⟩
  · have HFN := Lib.hid hfn; clear hfn
    go_wp2_with fail
    refine (graphGetEdge S B G id _ (HRD.out.grow (HG2.out.step ((Grow.rfl' _).allocd _))) HSE.out (by have := HIT.out; omega) HPE.out).mono ?_
    rintro e w3 ⟨he, hg3⟩
    have HG3 := Lib.hid ((HG2.out.step ((Grow.rfl' _).allocd _)).step hg3)
    have HR3 := Lib.hid (show w3.heap[w.heap.size]? = some (.cells #[.int .i64 0, .int .i64 0, .string ByteArray.empty] 33 (0, 0)) from (hg3.heapEq (by simp; omega)).trans ((((Grow.rfl' w2).allocd _).heapEq (by omega)).trans HR2.out))
    have n2 : ∀ o1, (w3.alloc o1).cell? ⟨w2.heap.size, 2, none⟩ = some (.slice none 0 0) := fun o1 => (blk_cell (((hg3.step ((Grow.rfl' _).allocd o1)).heapEq (by simp)).trans (heap_alloc_new w2 _)) 2).trans rfl
    have hz3 : w2.heap.size < w3.heap.size := by have := hg3.size; simp at this; omega
    clear hg3
    rcases he with ⟨hfe, rfl⟩ | ⟨x, pv, hfe, rfl, hpv⟩
    · have h1 := HF.out
      unfold findP at h1
      rw [HFN.out, hfe] at h1
      cases h1
    · have hps : x.props = ps := by
        have h1 := HF.out
        unfold findP at h1
        rw [HFN.out, hfe] at h1
        simpa using h1
      subst hps
      have hx8 : x.props.length ≤ 8 := (HEB.out x (List.mem_of_find?_eq_some hfe)).2.2
      have HPV := Lib.hid hpv
      have HRP := Lib.hid (show ∀ o1, Rd (w3.alloc o1) 4 pv x.props.length (x.props.map PProp.cells).flatten from fun o1 => hpv.rd.grow ((Grow.rfl' _).allocd o1))
      obtain ⟨pa, pc, rfl⟩ := hpv.isSlice
      have HG3a := Lib.hid (show ∀ o1, Grow w (w3.alloc o1) from fun o1 => HG3.out.step ((Grow.rfl' _).allocd o1))
      clear hpv hfe
      go_wp2_with (at_builtin; go_must (refine wpList_append_S _ rfl (.tmp 27) (.tmp 29) 87 rfl 105 iP _ 4 48 Tryz.underlying87 hiP hzP0 hzP1 hzP2 rfl (by decide) (.slice none 0 0) 0 [] none rfl (OwnS.nil _ _ _) (.slice pa x.props.length pc) rfl x.props.length _ (HRP.out _) (oneCell_props _) (by unfold maxLen; omega) (by omega) ?_))
      intro v4 w4 ob4 k1 k2 k3 _
      have hg4 : Grow w w4 := (HG3a.out _).modd k2 (fun b hb => by cases hb)
      have k1 : OwnS w4 105 4 v4 x.props.length (x.props.map PProp.cells).flatten ob4 := by simpa using k1
      have HPR4 := Lib.hid (propsOwn k1)
      have HR4 := Lib.hid (show w4.heap[w.heap.size]? = some (.cells #[.int .i64 0, .int .i64 0, .string ByteArray.empty] 33 (0, 0)) from by
        have e1 := k2.block w.heap.size (by simp; omega) (by simp)
        rw [e1]
        exact (((Grow.rfl' w3).allocd _).heapEq (by omega)).trans HR3.out)
      have HG4 := Lib.hid hg4
      clear k1 k2 k3 hg4
      obtain ⟨pa4, pc4, rfl⟩ := HPR4.out.isSlice
      go_wp2_with fail
      refine (valGet (fun _ => True) _ x.props name _ HPR4.out).mono ?_
      rintro e w5 ⟨rfl, hg5⟩
      have HR5 := Lib.hid ((hg5.heapEq (blk_lt HR4.out)).trans HR4.out)
      have HG5 := Lib.hid (HG4.out.step hg5)
      have hr5 : w.heap.size < w5.heap.size := blk_lt HR5.out
      have r0 : w5.cell? ⟨w.heap.size, 0, none⟩ = some (.int .i64 0) := (blk_cell HR5.out 0).trans rfl
      have r1 : w5.cell? ⟨w.heap.size, 1, none⟩ = some (.int .i64 0) := (blk_cell HR5.out 1).trans rfl
      have r2 : w5.cell? ⟨w.heap.size, 2, none⟩ = some (.string ByteArray.empty) := (blk_cell HR5.out 2).trans rfl
      have rf : ∀ i, w5.frozen? ⟨w.heap.size, i, none⟩ = false := fun i => blk_free HR5.out i
      generalize hu : getV x.props name = u at *
      have HU := Lib.hid hu
      clear hu
      generalize (getP x.props name).isSome = ub at *
      clear hg5
      go_wp2
      refine bodyPost_ret (v := .agg #[.int .i64 u.kind, .int .i64 u.n, .string u.s]) ?_ rfl ⟨by rw [HU.out], ?_⟩
      · rw [results_cell1 rfl]
        go_simp
      · exact (((HG5.out.setd (p := ⟨w.heap.size, 0, none⟩) (Nat.le_refl _) _).setd (p := ⟨w.heap.size, 1, none⟩) (Nat.le_refl _) _).setd (p := ⟨w.heap.size, 2, none⟩) (Nat.le_refl _) _).allocd _
  · have hps : x.props = ps := by
      have h1 := HF.out
      unfold findP at h1
      rw [hfn] at h1
      simpa using h1
    subst hps
    have hxm := List.mem_of_find?_eq_some hfn
    have hxi : x.id = id := by simpa using List.find?_some hfn
    have hx8 : x.props.length ≤ 8 := (HNB.out x hxm).2.2
    have HPV := Lib.hid hpv
    obtain ⟨pa, pc, hpe, hpl, -⟩ := SlR.open hpv
    subst hpe
    have HXM := Lib.hid (show ∃ y ∈ G.nodes, y.id = id from ⟨x, hxm, hxi⟩)
    have hbx := heap_alloc_new w2 (.cells #[.int .i64 x.id, .string x.typ, .slice pa x.props.length pc] 89)
    have HBX := Lib.hid hbx
    clear hpv hfn hxm hxi hbx
    go_wp2_with fail
    refine (graphGetEdge S B G id _ (HRD.out.grow (HG2.out.step ((Grow.rfl' _).allocd _))) HSE.out (by have := HIT.out; omega) HPE.out).mono ?_
    rintro e w3 ⟨he, hg3⟩
    have HG3 := Lib.hid ((HG2.out.step ((Grow.rfl' _).allocd _)).step hg3)
    have n2 : ∀ o1, (w3.alloc o1).cell? ⟨w2.heap.size, 2, none⟩ = some (.slice pa x.props.length pc) := fun o1 => (blk_cell (((hg3.step ((Grow.rfl' _).allocd o1)).heapEq (by simp)).trans HBX.out) 2).trans rfl
    have hz3 : w2.heap.size < w3.heap.size := by have := hg3.size; simp at this; omega
    have HR3 := Lib.hid (show w3.heap[w.heap.size]? = some (.cells #[.int .i64 0, .int .i64 0, .string ByteArray.empty] 33 (0, 0)) from (hg3.heapEq (by simp; omega)).trans ((((Grow.rfl' w2).allocd _).heapEq (by omega)).trans HR2.out))
    have HPV3 := Lib.hid (HPV.out.grow (((Grow.rfl' w2).allocd _).step hg3))
    rcases he with ⟨hfe, rfl⟩ | ⟨y, qv, hfe, rfl, hqv⟩
    · clear hg3 hfe
      have HR4 := Lib.hid (show ∀ o1, (w3.alloc o1).heap[w.heap.size]? = some (.cells #[.int .i64 0, .int .i64 0, .string ByteArray.empty] 33 (0, 0)) from fun o1 => (((Grow.rfl' w3).allocd o1).heapEq (by omega)).trans HR3.out)
      have HG4 := Lib.hid (show ∀ o1, Grow w (w3.alloc o1) from fun o1 => HG3.out.step ((Grow.rfl' _).allocd o1))
      have HPR4 := Lib.hid (show ∀ o1, PropsR (fun _ => True) (w3.alloc o1) (.slice pa x.props.length pc) x.props from fun o1 => (HPV3.out.grow ((Grow.rfl' _).allocd o1)).sub (fun _ _ => trivial))
      go_wp2_with (at_builtin; go_must (refine wpList_append_0 _ rfl (.tmp 27) (.tmp 29) 87 rfl 105 iP Tryz.underlying87 hiP pa x.props.length pc hpl rfl rfl ?_))
      replace HR4 := Lib.hid (HR4.out (.cells #[.int .i64 0, .string ByteArray.empty, .int .i64 0, .int .i64 0, .slice none 0 0] 91))
      replace HG4 := Lib.hid (HG4.out (.cells #[.int .i64 0, .string ByteArray.empty, .int .i64 0, .int .i64 0, .slice none 0 0] 91))
      replace HPR4 := Lib.hid (HPR4.out (.cells #[.int .i64 0, .string ByteArray.empty, .int .i64 0, .int .i64 0, .slice none 0 0] 91))
      go_wp2_with fail
      refine (valGet (fun _ => True) _ x.props name _ HPR4.out).mono ?_
      rintro e w5 ⟨rfl, hg5⟩
      have HR5 := Lib.hid ((hg5.heapEq (blk_lt HR4.out)).trans HR4.out)
      have HG5 := Lib.hid (HG4.out.step hg5)
      have hr5 : w.heap.size < w5.heap.size := blk_lt HR5.out
      have r0 : w5.cell? ⟨w.heap.size, 0, none⟩ = some (.int .i64 0) := (blk_cell HR5.out 0).trans rfl
      have r1 : w5.cell? ⟨w.heap.size, 1, none⟩ = some (.int .i64 0) := (blk_cell HR5.out 1).trans rfl
      have r2 : w5.cell? ⟨w.heap.size, 2, none⟩ = some (.string ByteArray.empty) := (blk_cell HR5.out 2).trans rfl
      have rf : ∀ i, w5.frozen? ⟨w.heap.size, i, none⟩ = false := fun i => blk_free HR5.out i
      generalize hu : getV x.props name = u at *
      have HU := Lib.hid hu
      clear hu
      generalize (getP x.props name).isSome = ub at *
      clear hg5
      go_wp2
      refine bodyPost_ret (v := .agg #[.int .i64 u.kind, .int .i64 u.n, .string u.s]) ?_ rfl ⟨by rw [HU.out], ?_⟩
      · rw [results_cell1 rfl]
        go_simp
      · exact (((HG5.out.setd (p := ⟨w.heap.size, 0, none⟩) (Nat.le_refl _) _).setd (p := ⟨w.heap.size, 1, none⟩) (Nat.le_refl _) _).setd (p := ⟨w.heap.size, 2, none⟩) (Nat.le_refl _) _).allocd _
    · exfalso
      have h1 := (HX.out.edges y (List.mem_of_find?_eq_some hfe)).1
      have h2 : y.id = id := by simpa using List.find?_some hfe
      rw [h2, hasN_true.2 HXM.out] at h1
      cases h1
end Go.Hg

namespace Go.Hg
open Go.RowKit Go.Proofs

def BackRes (B : Nat) (o : POp) (G : PGraph) (w : World) (e : Ending) (w' : World) : Prop := ∃ fv, e = .returned fv ∧ BackV (fun b => w.heap.size ≤ b) w' B o G fv ∧ Grow w w'
theorem boxAtU {w w' : World} {n : Nat} {cs : Array Value} {T : TypeId} (K : Nat → Prop) (hK : K w.heap.size) (g : Grow (w.alloc (.cells cs T)) w') (e : w.heap.size = n := by rfl) : BoxU K w' n cs T := by
  subst e
  exact ⟨hK, (g.heapEq (by simp)).trans (heap_alloc_new w _)⟩

set_option maxRecDepth 100000 in
set_option maxHeartbeats 2000000 in
theorem undoBack1 (S : Nat → Prop) (A B : Nat) (lv mv : Value) (G : PGraph) (o : POp) (w : World) (hA : w.heap[A]? = some (.cells #[capU B, lv, mv] 74 (0, 0))) (h : GraphOk 101 S w B G) (hg : goodG G = true) (hm : mayG typesC o G = 0) (hk : o.kind = 1) :
    Calls Tryz.prog 41 #[capU A, o.args] w (BackRes B o G w) := by
  have HOK := Lib.hid h; have HGD := Lib.hid hg
  obtain ⟨hi, hx⟩ := goodG_iff.1 hg
  have HI := Lib.hid hi
  obtain ⟨kind, id, typ, from_, to_, name, v, cascade⟩ := o
  subst hk
  have HM := Lib.hid hm
  have hlA := blk_lt hA
  have a0 : ∀ o1, (w.alloc o1).cell? ⟨A, 0, none⟩ = some (capU B) := fun o1 => (blk_cell ((((Grow.rfl' w).allocd o1).heapEq hlA).trans hA) 0).trans rfl
  have HA := Lib.hid hA
  have HW2 := Lib.hid (show ∀ o1 o2, Grow w ((w.alloc o1).alloc o2) from fun o1 o2 => ((Grow.rfl' w).allocd o1).allocd o2)
  clear h hg hm hi hx hA
  go_enter Tryz.func41, Tryz.ntmps41
  go_wp2_with fail
  refine (graphNext S B G _ (HOK.out.grow (HW2.out _ _))).mono ?_
  rintro e w2 ⟨rfl, hw2⟩
  subst hw2
  have HL := Lib.hid (show ∀ o1 o2 o3, Grow w (((w.alloc o1).alloc o2).alloc o3) from fun o1 o2 o3 => (((Grow.rfl' w).allocd o1).allocd o2).allocd o3)
  go_wp2
  go_ret
  refine ⟨_, rfl, ⟨w.heap.size + 1, ?_, .inl ⟨.inl rfl, w.heap.size + 1 + 1, ?_, rfl⟩⟩, HL.out _ _ _⟩
  · exact ⟨Nat.le_succ _, ((Grow.rfl' _).allocd _).heapEq (by simp) |>.trans ((by simp : (w.alloc (.cells _ _)).heap.size = w.heap.size + 1) ▸ heap_alloc_new (w.alloc _) _)⟩
  · exact ⟨Nat.le_trans (Nat.le_succ _) (Nat.le_succ _), (by simp : ((w.alloc (.cells _ _)).alloc (.cells _ _)).heap.size = w.heap.size + 1 + 1) ▸ heap_alloc_new ((w.alloc _).alloc _) _⟩

set_option maxRecDepth 100000 in
set_option maxHeartbeats 2000000 in
theorem undoBack3 (S : Nat → Prop) (A B : Nat) (lv mv : Value) (G : PGraph) (o : POp) (w : World) (hA : w.heap[A]? = some (.cells #[capU B, lv, mv] 74 (0, 0))) (h : GraphOk 101 S w B G) (hg : goodG G = true) (hm : mayG typesC o G = 0) (hk : o.kind = 3) :
    Calls Tryz.prog 41 #[capU A, o.args] w (BackRes B o G w) := by
  have HOK := Lib.hid h; have HGD := Lib.hid hg
  obtain ⟨hi, hx⟩ := goodG_iff.1 hg
  have HI := Lib.hid hi
  obtain ⟨kind, id, typ, from_, to_, name, v, cascade⟩ := o
  subst hk
  have HM := Lib.hid hm
  have hlA := blk_lt hA
  have a0 : ∀ o1, (w.alloc o1).cell? ⟨A, 0, none⟩ = some (capU B) := fun o1 => (blk_cell ((((Grow.rfl' w).allocd o1).heapEq hlA).trans hA) 0).trans rfl
  have HA := Lib.hid hA
  have HW2 := Lib.hid (show ∀ o1 o2, Grow w ((w.alloc o1).alloc o2) from fun o1 o2 => ((Grow.rfl' w).allocd o1).allocd o2)
  clear h hg hm hi hx hA
  go_enter Tryz.func41, Tryz.ntmps41
  go_wp2_with fail
  refine (graphNext S B G _ (HOK.out.grow (HW2.out _ _))).mono ?_
  rintro e w2 ⟨rfl, hw2⟩
  subst hw2
  have HL := Lib.hid (show ∀ o1 o2 o3, Grow w (((w.alloc o1).alloc o2).alloc o3) from fun o1 o2 o3 => (((Grow.rfl' w).allocd o1).allocd o2).allocd o3)
  go_wp2
  go_ret
  refine ⟨_, rfl, ⟨w.heap.size + 1, ?_, .inl ⟨.inr rfl, w.heap.size + 1 + 1, ?_, rfl⟩⟩, HL.out _ _ _⟩
  · exact ⟨Nat.le_succ _, ((Grow.rfl' _).allocd _).heapEq (by simp) |>.trans ((by simp : (w.alloc (.cells _ _)).heap.size = w.heap.size + 1) ▸ heap_alloc_new (w.alloc _) _)⟩
  · exact ⟨Nat.le_trans (Nat.le_succ _) (Nat.le_succ _), (by simp : ((w.alloc (.cells _ _)).alloc (.cells _ _)).heap.size = w.heap.size + 1 + 1) ▸ heap_alloc_new ((w.alloc _).alloc _) _⟩

set_option maxRecDepth 100000 in
set_option maxHeartbeats 2000000 in
theorem undoBack5 (S : Nat → Prop) (A B : Nat) (lv mv : Value) (G : PGraph) (o : POp) (w : World) (hA : w.heap[A]? = some (.cells #[capU B, lv, mv] 74 (0, 0))) (h : GraphOk 101 S w B G) (hg : goodG G = true) (hm : mayG typesC o G = 0) (hk : o.kind = 5) :
    Calls Tryz.prog 41 #[capU A, o.args] w (BackRes B o G w) := by
  have HOK := Lib.hid h; have HGD := Lib.hid hg
  obtain ⟨hi, hx⟩ := goodG_iff.1 hg
  have HI := Lib.hid hi
  obtain ⟨kind, id, typ, from_, to_, name, v, cascade⟩ := o
  subst hk
  have HM := Lib.hid hm
  have hlA := blk_lt hA
  have a0 : ∀ o1, (w.alloc o1).cell? ⟨A, 0, none⟩ = some (capU B) := fun o1 => (blk_cell ((((Grow.rfl' w).allocd o1).heapEq hlA).trans hA) 0).trans rfl
  have HA := Lib.hid hA
  have HW2 := Lib.hid (show ∀ o1 o2, Grow w ((w.alloc o1).alloc o2) from fun o1 o2 => ((Grow.rfl' w).allocd o1).allocd o2)
  clear h hg hm hi hx hA
  go_enter Tryz.func41, Tryz.ntmps41
  go_wp2_with fail
  refine (graphNext S B G _ (HOK.out.grow (HW2.out _ _))).mono ?_
  rintro e w2 ⟨rfl, hw2⟩
  subst hw2
  obtain ⟨ps, hps⟩ := may_find5 HM.out
  have HPS := Lib.hid hps
  have HL := Lib.hid (show ∀ o1 o2 o3, Grow w (((w.alloc o1).alloc o2).alloc o3) from fun o1 o2 o3 => (((Grow.rfl' w).allocd o1).allocd o2).allocd o3)
  have hB3 : ∀ o1 o2 o3, Grow (w.alloc o1) (((w.alloc o1).alloc o2).alloc o3) := fun o1 o2 o3 => ((Grow.rfl' _).allocd o2).allocd o3
  have hB4 : ∀ o1 o2 o3, Grow ((w.alloc o1).alloc o2) (((w.alloc o1).alloc o2).alloc o3) := fun o1 o2 o3 => (Grow.rfl' _).allocd o3
  clear hps
  go_wp2_with fail
  refine (undoProp S B G id name ps _ (HOK.out.grow (HL.out _ _ _)) HGD.out HPS.out).mono ?_
  rintro e w4 ⟨rfl, hg4⟩
  have HG4 := Lib.hid ((HL.out _ _ _).step hg4)
  have HBO := Lib.hid (boxAtU (fun b => w.heap.size ≤ b) (Nat.le_refl _) ((hB3 _ _ _).step hg4))
  have HBG := Lib.hid (boxAtU (fun b => w.heap.size ≤ b) (by simp) ((hB4 _ _ _).step hg4) (n := w.heap.size + 1) (by simp))
  clear hB3 hB4 hg4
  go_wp2
  go_ret
  refine ⟨_, rfl, ⟨w.heap.size + 1, HBG.out.mod (Mod.of_grow (F := fun _ => False) ((Grow.rfl' _).allocd _)) (fun _ _ h => h), .inr (.inl ⟨rfl, w.heap.size, w4.heap.size, ps, HPS.out, HBO.out.mod (Mod.of_grow (F := fun _ => False) ((Grow.rfl' _).allocd _)) (fun _ _ h => h), ?_, rfl⟩)⟩, HG4.out.allocd _⟩
  exact boxAtU (fun b => w.heap.size ≤ b) HG4.out.size (Grow.rfl' _)

set_option maxRecDepth 100000 in
set_option maxHeartbeats 2000000 in
theorem undoBack4 (S : Nat → Prop) (A B : Nat) (lv mv : Value) (G : PGraph) (o : POp) (w : World) (hA : w.heap[A]? = some (.cells #[capU B, lv, mv] 74 (0, 0))) (h : GraphOk 101 S w B G) (hg : goodG G = true) (hm : mayG typesC o G = 0) (hk : o.kind = 4) :
    Calls Tryz.prog 41 #[capU A, o.args] w (BackRes B o G w) := by
  have HOK := Lib.hid h; have HGD := Lib.hid hg
  obtain ⟨hi, hx⟩ := goodG_iff.1 hg
  have HI := Lib.hid hi
  obtain ⟨kind, id, typ, from_, to_, name, v, cascade⟩ := o
  subst hk
  have HM := Lib.hid hm
  have hlA := blk_lt hA
  have a0 : ∀ o1, (w.alloc o1).cell? ⟨A, 0, none⟩ = some (capU B) := fun o1 => (blk_cell ((((Grow.rfl' w).allocd o1).heapEq hlA).trans hA) 0).trans rfl
  have HA := Lib.hid hA
  have HW2 := Lib.hid (show ∀ o1 o2, Grow w ((w.alloc o1).alloc o2) from fun o1 o2 => ((Grow.rfl' w).allocd o1).allocd o2)
  clear h hg hm hi hx hA
  go_enter Tryz.func41, Tryz.ntmps41
  go_wp2_with fail
  refine (graphNext S B G _ (HOK.out.grow (HW2.out _ _))).mono ?_
  rintro e w2 ⟨rfl, hw2⟩
  subst hw2
  have hh := may_has4 HM.out
  have HL := Lib.hid (show ∀ o1 o2 o3, Grow w (((w.alloc o1).alloc o2).alloc o3) from fun o1 o2 o3 => (((Grow.rfl' w).allocd o1).allocd o2).allocd o3)
  have hB4 : ∀ o1 o2 o3, Grow ((w.alloc o1).alloc o2) (((w.alloc o1).alloc o2).alloc o3) := fun o1 o2 o3 => (Grow.rfl' _).allocd o3
  have HHE := Lib.hid hh
  clear hh
  go_wp2_with fail
  refine (graphGetEdge S B G id _ (HOK.out.rd.grow (HL.out _ _ _)) HI.out.edges (by have := HI.out.items; omega) (fun x hx => by have := (HI.out.edgesB x hx).2.2; omega)).mono ?_
  rintro e w4 ⟨he, hg4⟩
  have HG4 := Lib.hid ((HL.out _ _ _).step hg4)
  have HBG := Lib.hid (boxAtU (fun b => w.heap.size ≤ b) (by simp) ((hB4 _ _ _).step hg4) (n := w.heap.size + 1) (by simp))
  rcases he with ⟨hfe, -⟩ | ⟨x, pv, hfe, rfl, hpv⟩
  · exfalso
    have h1 := HHE.out
    rw [List.find?_eq_none] at hfe
    exact absurd h1 (by unfold hasE; rw [Bool.not_eq_true, List.any_eq_false]; exact hfe)
  have HXM := Lib.hid (List.mem_of_find?_eq_some hfe)
  have HXI := Lib.hid (show x.id = id by simpa using List.find?_some hfe)
  have HPV := Lib.hid (hpv.sub (S' := fun b => w.heap.size ≤ b) (fun b hb => by simp at hb; omega))
  obtain ⟨pa, pc, rfl⟩ := hpv.isSlice
  clear hB4 hg4 hfe hpv
  go_wp2
  go_ret
  refine ⟨_, rfl, ⟨w.heap.size + 1, HBG.out.mod (Mod.of_grow (F := fun _ => False) ((Grow.rfl' _).allocd _)) (fun _ _ h => h), .inr (.inr (.inl ⟨rfl, w4.heap.size, x, _, HXM.out, HXI.out, ?_, HPV.out.grow ((Grow.rfl' _).allocd _), rfl⟩))⟩, HG4.out.allocd _⟩
  exact boxAtU (fun b => w.heap.size ≤ b) HG4.out.size (Grow.rfl' _)

theorem snocE {R R' : Nat → Prop} {w w' w2 : World} {v' : Value} {l : List PEdge} {x : PEdge} {pv : Value} {rows : List (List Value)} {ob ob' : Option Nat} (h1 : rows.length = l.length)
    (h2 : ∀ (k : Nat) y r, l[k]? = some y → rows[k]? = some r → REdge R w y r ∧ r.length = 5) (g : Grow w w') (hm : Mod (fun k => ob = some k) w' w2) (hR : ∀ b, R b → ob ≠ some b) (hRR : ∀ b, R b → b < w.heap.size → R' b) (hp : PropsR R' w2 pv x.props)
    (k1 : OwnS w2 91 5 v' (l.length + 1) (rows.flatten ++ [.int .i64 x.id, .string x.typ, .int .i64 x.from_, .int .i64 x.to_, pv]) ob') : OwnL w2 91 5 (REdge R' w2) v' (l ++ [x]) ob' := by
  obtain ⟨c1, c2⟩ := joinRows (Q := REdge R' w2) (sz := 5) (m := [x]) (r2 := [[.int .i64 x.id, .string x.typ, .int .i64 x.from_, .int .i64 x.to_, pv]]) h1 (fun k y r hy hr => by
    obtain ⟨p, q⟩ := h2 k y r hy hr
    exact ⟨(((p.cut).mod (Mod.of_grow (F := fun _ => False) g) (fun _ _ h => h)).mod hm (fun b hb hh => hR b hb.1 hh)).sub (fun b hb => hRR b hb.1 hb.2), q⟩) rfl (fun k y r hy hr => by
    cases k with
    | zero => simp at hy hr; subst hy; subst hr; exact ⟨⟨_, rfl, hp⟩, rfl⟩
    | succ k => simp at hy)
  refine ⟨_, c1, c2, ?_⟩
  rw [List.flatten_append, List.length_append]
  simpa using k1

set_option maxRecDepth 100000 in
set_option maxHeartbeats 2000000 in
theorem undoBack2 (S : Nat → Prop) (A B : Nat) (lv mv : Value) (G : PGraph) (o : POp) (w : World) (hA : w.heap[A]? = some (.cells #[capU B, lv, mv] 74 (0, 0))) (h : GraphOk 101 S w B G) (hg : goodG G = true) (hm : mayG typesC o G = 0) (hk : o.kind = 2) :
    Calls Tryz.prog 41 #[capU A, o.args] w (BackRes B o G w) := by
  have HOK := Lib.hid h; have HGD := Lib.hid hg
  obtain ⟨hi, hx⟩ := goodG_iff.1 hg
  have HI := Lib.hid hi
  obtain ⟨kind, id, typ, from_, to_, name, v, cascade⟩ := o
  subst hk
  have HM := Lib.hid hm
  have hlA := blk_lt hA
  have a0 : ∀ o1, (w.alloc o1).cell? ⟨A, 0, none⟩ = some (capU B) := fun o1 => (blk_cell ((((Grow.rfl' w).allocd o1).heapEq hlA).trans hA) 0).trans rfl
  have HA := Lib.hid hA
  have HW2 := Lib.hid (show ∀ o1 o2, Grow w ((w.alloc o1).alloc o2) from fun o1 o2 => ((Grow.rfl' w).allocd o1).allocd o2)
  clear h hg hm hi hx hA
  go_enter Tryz.func41, Tryz.ntmps41
  go_wp2_with fail
  refine (graphNext S B G _ (HOK.out.grow (HW2.out _ _))).mono ?_
  rintro e w2 ⟨rfl, hw2⟩
  subst hw2
  have hh := may_has2 HM.out
  have HL := Lib.hid (show ∀ o1 o2 o3, Grow w (((w.alloc o1).alloc o2).alloc o3) from fun o1 o2 o3 => (((Grow.rfl' w).allocd o1).allocd o2).allocd o3)
  have hB3 : ∀ o1 o2 o3, Grow (w.alloc o1) (((w.alloc o1).alloc o2).alloc o3) := fun o1 o2 o3 => ((Grow.rfl' _).allocd o2).allocd o3
  have hB4 : ∀ o1 o2 o3, Grow ((w.alloc o1).alloc o2) (((w.alloc o1).alloc o2).alloc o3) := fun o1 o2 o3 => (Grow.rfl' _).allocd o3
  have HHN := Lib.hid hh
  clear hh
  go_wp2_with fail
  refine (graphGetNode S B G id _ (HOK.out.rd.grow (HL.out _ _ _)) HI.out.nodes (by have := HI.out.items; omega) (fun x hx => by have := (HI.out.nodesB x hx).2.2; omega)).mono ?_
  rintro e w4 ⟨he, hg4⟩
  have HG4 := Lib.hid ((HL.out _ _ _).step hg4)
  have HBO := Lib.hid (boxAtU (fun b => w.heap.size ≤ b) (Nat.le_refl _) ((hB3 _ _ _).step hg4))
  have HBG := Lib.hid (boxAtU (fun b => w.heap.size ≤ b) (by simp) ((hB4 _ _ _).step hg4) (n := w.heap.size + 1) (by simp))
  rcases he with ⟨hfe, -⟩ | ⟨x, pv, hfe, rfl, hpv⟩
  · exfalso
    have h1 := HHN.out
    rw [List.find?_eq_none] at hfe
    exact absurd h1 (by unfold hasN; rw [Bool.not_eq_true, List.any_eq_false]; exact hfe)
  have HXM := Lib.hid (List.mem_of_find?_eq_some hfe)
  have HXI := Lib.hid (show x.id = id by simpa using List.find?_some hfe)
  have HPV := Lib.hid (hpv.sub (S' := fun b => w.heap.size ≤ b) (fun b hb => by simp at hb; omega)).cut
  obtain ⟨pa, pc, rfl⟩ := hpv.isSlice
  have hz4 : w.heap.size + 1 + 1 < w4.heap.size := by have := hg4.size; simp at this; omega
  have hz41 : w.heap.size + 1 < w4.heap.size := by omega
  have hz40 : w.heap.size < w4.heap.size := by omega
  clear hB3 hB4 hg4 hfe hpv
  have b1 : w4.cell? ⟨w.heap.size + 1, 0, none⟩ = some (capU B) := (blk_cell HBG.out.2 0).trans rfl
  have HG5 := Lib.hid (show ∀ o1 o2, Grow w4 ((w4.alloc o1).alloc o2) from fun o1 o2 => ((Grow.rfl' w4).allocd o1).allocd o2)
  go_wp2_with fail
  refine (graphEdges S B G _ (HOK.out.rd.grow (HG4.out.step (HG5.out _ _))) (by have := HI.out.items; omega) (fun x hx => by have := (HI.out.edgesB x hx).2.2; omega)).mono ?_
  rintro e w6 ⟨v6, ob6, rfl, hown6, hob6, hg6⟩
  have HG46 := Lib.hid ((HG5.out _ _).step hg6)
  have HNB := Lib.hid ((boxAtU (fun b => w.heap.size ≤ b) HG4.out.size ((Grow.rfl' _).allocd _)).mod (Mod.of_grow (F := fun _ => False) hg6) (fun _ _ h => h))
  obtain ⟨iE, hiE, hzE0, hzE1, hzE2⟩ := info_parts infoEdge
  have HEB := Lib.hid ((hg6.heapEq (by simp)).trans ((by simp : (w4.alloc (.cells _ _)).heap.size = w4.heap.size + 1) ▸ heap_alloc_new (w4.alloc _) _))
  have hz6 : w4.heap.size + 1 < w6.heap.size := by have := hg6.size; simp at this; omega
  have HER := Lib.hid (show EdgesR (fun b => w4.heap.size + 1 < b ∧ b < w6.heap.size) w6 v6 G.edges from
    SlR.sub (slCut (hown6.toSl (S := fun b => w4.heap.size + 1 < b) (fun g hg => by have := hob6 g hg; simp at this; omega))) (fun b h => h) (fun y r _ hR => hR.cut.sub (fun b hb => ⟨by have := hb.1.1; simp at this; omega, hb.2⟩)))
  have HIT := Lib.hid (show G.edges.length ≤ 1024 by have := HI.out.items; omega)
  obtain ⟨a6, c6, rfl⟩ : ∃ a c, v6 = .slice a G.edges.length c := by obtain ⟨_, _, _, h⟩ := hown6; obtain ⟨oa, cap, h, _⟩ := h.isSlice; exact ⟨oa, cap, h⟩
  clear hown6 hob6 hg6
  go_wp2
  go_loopg [56] G.edges.length (fun gg i wr => ∃ (k : Nat) (v : Value) (ob : Option Nat), k ≤ G.edges.length ∧ gg = G.edges.length - k ∧ i = .int .i64 k ∧ wr.heap[w4.heap.size + 1]? = some (.cells #[v] 84 (0, 0)) ∧
    OwnL wr 91 5 (REdge (fun b => w4.heap.size + 1 < b ∧ ob ≠ some b) wr) v ((G.edges.take k).filter fun y => atE y id) ob ∧ (∀ g, ob = some g → w6.heap.size ≤ g) ∧ Mod (fun b => b = w4.heap.size + 1) w6 wr)
  case atStart =>
    refine ⟨0, _, none, Nat.zero_le _, by omega, rfl, HEB.out, OwnL.nil _ _ _ _, by simp, Mod.rfl' _ _⟩
  case round =>
    obtain ⟨k, v, ob, hk, rfl, rfl, hvb, hown, hob, hmod⟩ := hrel
    have hll : ((G.edges.take k).filter fun y => atE y id).length ≤ k := Nat.le_trans (List.length_filter_le _ _) (by rw [List.length_take]; omega)
    have hl0 : ∃ l, l = ((G.edges.take k).filter fun y => atE y id) := ⟨_, rfl⟩
    obtain ⟨l, hl⟩ := hl0
    rw [← hl] at hown hll
    have HLF := Lib.hid hl
    clear hl
    have HVB := Lib.hid hvb; have HOWN := Lib.hid hown; have HOB := Lib.hid hob; have HMOD := Lib.hid hmod
    have hzr := hmod.size
    obtain ⟨oa, oc, rfl⟩ : ∃ a c, v = .slice a l.length c := by obtain ⟨_, _, _, h⟩ := hown; obtain ⟨oa, cap, h, _⟩ := h.isSlice; exact ⟨oa, cap, h⟩
    have hbr := blk_lt hvb
    have v0 : wr.cell? ⟨w4.heap.size + 1, 0, none⟩ = some (.slice oa l.length oc) := (blk_cell hvb 0).trans rfl
    have vf := blk_free hvb 0
    have o1 : wr.cell? ⟨w.heap.size, 1, none⟩ = some (.int .i64 id) := (blk_cell (((HBO.out.mod (Mod.of_grow (F := fun _ => False) HG46.out) (fun _ _ h => h)).2 |> fun h => blk_mod h hmod (by omega))) 1).trans rfl
    have hob1 : w.heap.size < wr.heap.size := by omega
    obtain ⟨a7, c7, hsl, -, -, hA⟩ := SlR.open (edgesMod HER.out hmod (fun b hb hh => by omega))
    simp only [Value.slice.injEq, true_and] at hsl
    obtain ⟨rfl, rfl⟩ := hsl
    have HA := Lib.hid hA
    clear hA hvb hown hob hmod
    by_cases hkl : k < G.edges.length
    · obtain ⟨ba, off, ra, rfl, hSa, hba, hRa, hca⟩ := HA.out k G.edges[k] (List.getElem?_eq_getElem hkl)
      obtain ⟨pva, hba', a0, a1, a2, a3, a4, hpa⟩ := hRa.at hba (Grow.rfl' wr) hca
      have HT := Lib.hid (show G.edges.take (k + 1) = G.edges.take k ++ [G.edges[k]] from List.take_succ_eq_append_getElem hkl)
      clear hca hRa hSa hba
      generalize G.edges[k] = y at *
      have HPA := Lib.hid hpa.cut
      obtain ⟨pb, pd, rfl⟩ := hpa.isSlice
      clear hpa
      have HGA := Lib.hid (show ∀ o1 o2, Grow wr ((wr.alloc o1).alloc o2) from fun o1 o2 => ((Grow.rfl' wr).allocd o1).allocd o2)
      obtain ⟨rows, r1, rlen, r2, r3⟩ := HOWN.out.rowLen
      have R1 := Lib.hid r1; have R2 := Lib.hid r2
      have R3 := Lib.hid (show ∀ o1 o2, OwnS ((wr.alloc o1).alloc o2) 91 5 (.slice oa l.length oc) l.length rows.flatten ob from fun o1 o2 => r3.grow (HGA.out o1 o2))
      have HVB2 := Lib.hid (show ∀ o1 o2, ((wr.alloc o1).alloc o2).heap[w4.heap.size + 1]? = some (.cells #[.slice oa l.length oc] 84 (0, 0)) from fun o1 o2 => ((HGA.out o1 o2).heapEq hbr).trans HVB.out)
      have HRD := Lib.hid (show Rd ((wr.alloc (.cells #[.int .i64 y.id, .string y.typ, .int .i64 y.from_, .int .i64 y.to_, .slice pb y.props.length pd] 91)).alloc (.cells #[.int .i64 y.id, .string y.typ, .int .i64 y.from_, .int .i64 y.to_, .slice pb y.props.length pd] 91)) 5 (.slice (some ⟨wr.heap.size + 1, 0, none⟩) 1 1) 1 [.int .i64 y.id, .string y.typ, .int .i64 y.from_, .int .i64 y.to_, .slice pb y.props.length pd] from by
        have h := Rd.lit (wr.alloc (.cells #[.int .i64 y.id, .string y.typ, .int .i64 y.from_, .int .i64 y.to_, .slice pb y.props.length pd] 91)) #[.int .i64 y.id, .string y.typ, .int .i64 y.from_, .int .i64 y.to_, .slice pb y.props.length pd] 91 5 1 rfl
        rw [World.size_alloc] at h
        exact h)
      clear r1 rlen r2 r3
      cases e1 : (y.from_ == id)
      · cases e2 : (y.to_ == id)
        · have HAT := Lib.hid (show atE y id = false by simp [atE, show ¬ y.from_ = id by simpa using e1, show ¬ y.to_ = id by simpa using e2])
          go_wp2
          go_roundg (G.edges.length - (k + 1))
          case measure => omega
          case rel =>
            have gA : Grow wr (wr.alloc (.cells #[.int .i64 y.id, .string y.typ, .int .i64 y.from_, .int .i64 y.to_, .slice pb y.props.length pd] 91)) := (Grow.rfl' wr).allocd _
            have hit := HIT.out
            refine ⟨k + 1, _, ob, by omega, rfl, by first | go_num | (unfold wrap64; refine congrArg _ ?_; omega), (gA.heapEq hbr).trans HVB.out, ?_, HOB.out, HMOD.out.step (Mod.of_grow gA)⟩
            rw [HT.out, List.filter_append, ← HLF.out, List.filter_cons, if_neg (by rw [HAT.out]; simp), List.filter_nil, List.append_nil]
            exact HOWN.out.keep (fun g hg => gA.heapEq (HOWN.out.lt g hg)) (fun z r _ hR => hR.mod (Mod.of_grow (F := fun _ => False) gA) (fun _ _ h => h))
        · have HAT := Lib.hid (show atE y id = true by simp [atE, show y.to_ = id by simpa using e2])
          go_wp2_with (at_builtin; go_must (refine wpList_append_S _ rfl (.tmp 72) (.tmp 74) 84 rfl 91 iE _ 5 64 Tryz.underlying84 hiE hzE0 hzE1 hzE2 rfl (by decide) (.slice oa l.length oc) l.length _ ob rfl (R3.out _ _) (.slice (some ⟨wr.heap.size + 1, 0, none⟩) 1 1) rfl 1 _ HRD.out (by intro u hu; simp only [List.mem_cons, List.not_mem_nil, or_false] at hu; rcases hu with rfl | rfl | rfl | rfl | rfl <;> rfl) (by have := HIT.out; unfold maxLen; omega) (by have := HIT.out; omega) ?_))
          intro v8 w8 ob8 k1 k2 k3
          try (intro _)
          obtain ⟨oa8, oc8, rfl, -, -⟩ := k1.isSlice
          have hs8 := k2.size
          have ho8 : ∀ g, ob8 = some g → w6.heap.size ≤ g := fun g hg => by
            rcases k3 with h | ⟨g', h, hge⟩
            · exact HOB.out g (h ▸ hg)
            · rw [h] at hg; cases hg; (try simp at hge); omega
          have hvb8 := (k2.block (w4.heap.size + 1) (by simp; omega) (fun hh => by have := HOB.out _ hh; omega)).trans (HVB2.out _ _)
          have HVB8 := Lib.hid hvb8
          have v8c : w8.cell? ⟨w4.heap.size + 1, 0, none⟩ = some (.slice oa l.length oc) := (blk_cell hvb8 0).trans rfl
          have v8f := blk_free hvb8 0
          have hb8 := blk_lt hvb8
          have HM8 := Lib.hid (show Mod (fun b => b = w4.heap.size + 1) w6 w8 from ((HMOD.out.allocd _).allocd _).step' k2 (fun x hx => .inr (HOB.out x hx)))
          have HF8 := Lib.hid (snocE (R' := fun b => w4.heap.size + 1 < b ∧ ob8 ≠ some b) R1.out R2.out (HGA.out _ _) k2 (fun b hb => hb.2) (fun b hb hlt => ⟨hb.1, fun hh => by
            rcases k3 with h | ⟨g', h, hge⟩
            · exact hb.2 (h ▸ hh)
            · rw [h] at hh; cases hh; (try simp at hge); omega⟩) (((HPA.out.grow (HGA.out _ _)).mod k2 (fun b hb hh => by have := HOB.out b hh; omega)).sub (fun b hb => ⟨hb.1.1, fun hh => by have := ho8 b hh; omega⟩)) k1)
          have HO8 := Lib.hid ho8
          clear k1 k2 k3 hvb8 ho8
          go_wp2_with fail
          go_roundg (G.edges.length - (k + 1))
          case measure => omega
          case rel =>
            have m9 : Mod (fun b => b = w4.heap.size + 1) w8 (w8.setCell ⟨w4.heap.size + 1, 0, none⟩ (.slice oa8 (l.length + 1) oc8)) := (Mod.rfl' (fun b => b = w4.heap.size + 1) w8).setd (p := ⟨w4.heap.size + 1, 0, none⟩) (.inl rfl) _
            have hit := HIT.out
            refine ⟨k + 1, _, ob8, by omega, rfl, by first | go_num | (unfold wrap64; refine congrArg _ ?_; omega), heap_setCell_same w8 _ 0 _ _ _ HVB8.out, ?_, HO8.out, HM8.out.step m9⟩
            rw [HT.out, List.filter_append, ← HLF.out, List.filter_cons, if_pos HAT.out, List.filter_nil]
            exact HF8.out.keep (fun g hg => m9.block g (HF8.out.lt g hg) (fun hh => by have := HO8.out g hg; omega)) (fun z r _ hR => hR.mod m9 (fun b hb hh => by have := hb.1; omega))
      · have HAT := Lib.hid (show atE y id = true by simp [atE, show y.from_ = id by simpa using e1])
        go_wp2_with (at_builtin; go_must (refine wpList_append_S _ rfl (.tmp 72) (.tmp 74) 84 rfl 91 iE _ 5 64 Tryz.underlying84 hiE hzE0 hzE1 hzE2 rfl (by decide) (.slice oa l.length oc) l.length _ ob rfl (R3.out _ _) (.slice (some ⟨wr.heap.size + 1, 0, none⟩) 1 1) rfl 1 _ HRD.out (by intro u hu; simp only [List.mem_cons, List.not_mem_nil, or_false] at hu; rcases hu with rfl | rfl | rfl | rfl | rfl <;> rfl) (by have := HIT.out; unfold maxLen; omega) (by have := HIT.out; omega) ?_))
        intro v8 w8 ob8 k1 k2 k3
        try (intro _)
        obtain ⟨oa8, oc8, rfl, -, -⟩ := k1.isSlice
        have hs8 := k2.size
        have ho8 : ∀ g, ob8 = some g → w6.heap.size ≤ g := fun g hg => by
          rcases k3 with h | ⟨g', h, hge⟩
          · exact HOB.out g (h ▸ hg)
          · rw [h] at hg; cases hg; (try simp at hge); omega
        have hvb8 := (k2.block (w4.heap.size + 1) (by simp; omega) (fun hh => by have := HOB.out _ hh; omega)).trans (HVB2.out _ _)
        have HVB8 := Lib.hid hvb8
        have v8c : w8.cell? ⟨w4.heap.size + 1, 0, none⟩ = some (.slice oa l.length oc) := (blk_cell hvb8 0).trans rfl
        have v8f := blk_free hvb8 0
        have hb8 := blk_lt hvb8
        have HM8 := Lib.hid (show Mod (fun b => b = w4.heap.size + 1) w6 w8 from ((HMOD.out.allocd _).allocd _).step' k2 (fun x hx => .inr (HOB.out x hx)))
        have HF8 := Lib.hid (snocE (R' := fun b => w4.heap.size + 1 < b ∧ ob8 ≠ some b) R1.out R2.out (HGA.out _ _) k2 (fun b hb => hb.2) (fun b hb hlt => ⟨hb.1, fun hh => by
          rcases k3 with h | ⟨g', h, hge⟩
          · exact hb.2 (h ▸ hh)
          · rw [h] at hh; cases hh; (try simp at hge); omega⟩) (((HPA.out.grow (HGA.out _ _)).mod k2 (fun b hb hh => by have := HOB.out b hh; omega)).sub (fun b hb => ⟨hb.1.1, fun hh => by have := ho8 b hh; omega⟩)) k1)
        have HO8 := Lib.hid ho8
        clear k1 k2 k3 hvb8 ho8
        go_wp2_with fail
        go_roundg (G.edges.length - (k + 1))
        case measure => omega
        case rel =>
          have m9 : Mod (fun b => b = w4.heap.size + 1) w8 (w8.setCell ⟨w4.heap.size + 1, 0, none⟩ (.slice oa8 (l.length + 1) oc8)) := (Mod.rfl' (fun b => b = w4.heap.size + 1) w8).setd (p := ⟨w4.heap.size + 1, 0, none⟩) (.inl rfl) _
          have hit := HIT.out
          refine ⟨k + 1, _, ob8, by omega, rfl, by first | go_num | (unfold wrap64; refine congrArg _ ?_; omega), heap_setCell_same w8 _ 0 _ _ _ HVB8.out, ?_, HO8.out, HM8.out.step m9⟩
          rw [HT.out, List.filter_append, ← HLF.out, List.filter_cons, if_pos HAT.out, List.filter_nil]
          exact HF8.out.keep (fun g hg => m9.block g (HF8.out.lt g hg) (fun hh => by have := HO8.out g hg; omega)) (fun z r _ hR => hR.mod m9 (fun b hb hh => by have := hb.1; omega))
    · have hke : k = G.edges.length := by omega
      have HKE := Lib.hid (show l = G.edges.filter fun y => atE y id by rw [HLF.out, List.take_of_length_le (by omega)])
      go_wp2
      go_ret
      have hgr : Grow w4 wr := HG46.out.modd HMOD.out (fun b hb => by omega)
      have hs4 := HG4.out.size
      refine ⟨_, rfl, ⟨w.heap.size + 1, (HBG.out.mod (Mod.of_grow (F := fun _ => False) hgr) (fun _ _ h => h)), .inr (.inr (.inr ⟨rfl, w4.heap.size, w4.heap.size + 1, x, .slice pa x.props.length pc, .slice oa l.length oc, HXM.out, HXI.out, ?_, ?_, ⟨(show w.heap.size ≤ w4.heap.size + 1 by omega), HVB.out⟩, ?_, rfl⟩))⟩, HG4.out.step hgr⟩
      · exact ⟨HNB.out.1, blk_mod HNB.out.2 HMOD.out (by omega)⟩
      · exact (HPV.out.grow hgr).sub (fun b hb => hb.1)
      · rw [← HKE.out]
        exact SlR.sub (HOWN.out.toSl (S := fun b => w.heap.size ≤ b) (fun g hg => by have := HOB.out g hg; omega)) (fun _ h => h) (fun z r _ hR => hR.sub (fun b hb => by have := hb.1; omega))

theorem undoBack (S : Nat → Prop) (A B : Nat) (lv mv : Value) (G : PGraph) (o : POp) (w : World) (hA : w.heap[A]? = some (.cells #[capU B, lv, mv] 74 (0, 0))) (h : GraphOk 101 S w B G) (hg : goodG G = true) (hm : mayG typesC o G = 0) :
    Calls Tryz.prog 41 #[capU A, o.args] w (BackRes B o G w) := by
  rcases may_kind hm with hk | hk | hk | hk | hk
  · exact undoBack1 S A B lv mv G o w hA h hg hm hk
  · exact undoBack2 S A B lv mv G o w hA h hg hm hk
  · exact undoBack3 S A B lv mv G o w hA h hg hm hk
  · exact undoBack4 S A B lv mv G o w hA h hg hm hk
  · exact undoBack5 S A B lv mv G o w hA h hg hm hk
end Go.Hg

namespace Go.Hg
open Go.RowKit Go.Proofs

structure PTrail where
  g : PGraph
  l : List (POp × PGraph)
  marks : List (ByteArray × Nat)
def opId (o : POp) (g : PGraph) : POp := if o.kind = 1 ∨ o.kind = 3 then { o with id := g.next } else o
def ChainT (l : List (POp × PGraph)) (G : PGraph) : Prop :=
  ∀ i o g, l[i]? = some (o, g) → goodG g = true ∧ mayG typesC o g = 0 ∧ doG o g = ((l[i + 1]?).map (·.2)).getD G
structure TInv (T : PTrail) : Prop where
  good : goodG T.g = true
  len : T.l.length ≤ 64
  mlen : T.marks.length ≤ 8
  mat : ∀ m ∈ T.marks, m.2 ≤ 64
  mnd : (T.marks.map (·.1)).Nodup
  chain : ChainT T.l T.g
def cutT (T : PTrail) (n : Nat) : PTrail := ⟨((T.l[n]?).map (·.2)).getD T.g, T.l.take n, T.marks⟩
theorem cutT_none {T : PTrail} {n : Nat} (h : T.l.length ≤ n) : cutT T n = T := by
  unfold cutT
  rw [List.getElem?_eq_none h, List.take_of_length_le h]
  rfl
theorem TInv.cut {T : PTrail} (h : TInv T) (n : Nat) : TInv (cutT T n) := by
  refine ⟨?_, Nat.le_trans (by unfold cutT; rw [List.length_take]; omega) h.len, h.mlen, h.mat, h.mnd, ?_⟩
  · unfold cutT
    cases hn : T.l[n]? with
    | none => exact h.good
    | some x => exact (h.chain n x.1 x.2 hn).1
  · intro i o g hi
    unfold cutT at hi ⊢
    rw [List.getElem?_take] at hi
    split at hi
    · rename_i hlt
      obtain ⟨a, b, c⟩ := h.chain i o g hi
      refine ⟨a, b, c.trans ?_⟩
      rw [List.getElem?_take]
      by_cases h2 : i + 1 < n
      · rw [if_pos h2]
        have : i < T.l.length := (List.getElem?_eq_some_iff.1 hi).1
        cases h3 : T.l[i + 1]? with
        | some x => rfl
        | none =>
          have h4 : T.l.length ≤ n := by have := List.getElem?_eq_none_iff.1 h3; omega
          rw [List.getElem?_eq_none h4]
          rfl
      · rw [if_neg h2]
        have : i + 1 = n := by omega
        rw [this]
        rfl
    · cases hi
theorem opId_kind (o : POp) (g : PGraph) : (opId o g).kind = o.kind := by unfold opId; split <;> rfl
theorem mayG_opId (c : PCat) (o : POp) (g : PGraph) : mayG c (opId o g) g = mayG c o g := by
  unfold opId
  split
  · rename_i h
    unfold mayG
    rcases h with h | h <;> simp [h]
  · rfl
theorem doG_opId (o : POp) (g : PGraph) : doG (opId o g) g = doG o g := by
  unfold opId
  split
  · rename_i h
    unfold Hg.doG
    rcases h with h | h <;> simp [h, addNodeG, addEdgeG]
  · rfl
theorem BackV.opId {K : Nat → Prop} {w : World} {B : Nat} {o : POp} {g : PGraph} {fv : Value} (h : BackV K w B o g fv) : BackV K w B (opId o g) g fv := by
  by_cases hk : o.kind = 1 ∨ o.kind = 3
  · obtain ⟨gb, h0, h⟩ := h
    rcases h with ⟨h1, nb, h2, h3⟩ | ⟨h1, _⟩ | ⟨h1, _⟩ | ⟨h1, _⟩
    · exact ⟨gb, h0, .inl ⟨by rw [opId_kind]; exact hk, nb, h2, h3⟩⟩
    · omega
    · omega
    · omega
  · unfold Hg.opId
    rw [if_neg hk]
    exact h

def RChg (K : Nat → Prop) (w : World) (B : Nat) (c : POp × PGraph) (r : List Value) : Prop := ∃ fv, r = c.1.cells ++ [fv] ∧ BackV K w B c.1 c.2 fv
def RMark (m : ByteArray × Nat) (r : List Value) : Prop := r = [.string m.1, .int .i64 m.2]
def TrailAt (S K : Nat → Prop) (ol om : Option Nat) (w : World) (A B : Nat) (T : PTrail) : Prop :=
  ∃ lv mv, w.heap[A]? = some (.cells #[capU B, lv, mv] 74 (0, 0)) ∧ OwnL w 78 11 (RChg K w B) lv T.l ol ∧ OwnL w 81 2 RMark mv T.marks om ∧
    GraphOk 101 S w B T.g ∧ (∀ b, S b → ¬ K b ∧ b ≠ A ∧ ol ≠ some b ∧ om ≠ some b ∧ b < w.heap.size) ∧ ¬ K A ∧ (∀ g, ol = some g → ¬ K g ∧ g ≠ A ∧ om ≠ some g) ∧ (∀ g, om = some g → ¬ K g ∧ g ≠ A) ∧ ∀ b, K b → b < w.heap.size
def TrailOk (P : Nat → Prop) (w : World) (A B : Nat) (T : PTrail) : Prop :=
  ∃ (S K : Nat → Prop) (ol om : Option Nat), TrailAt S K ol om w A B T ∧ P A ∧ (∀ b, S b → P b) ∧ (∀ b, K b → P b) ∧ (∀ g, ol = some g → P g) ∧ ∀ g, om = some g → P g
theorem TrailAt.keep {S K F : Nat → Prop} {ol om : Option Nat} {w w' : World} {A B : Nat} {T : PTrail} (h : TrailAt S K ol om w A B T) (m : Mod F w w') (hA : ¬ F A) (hS : ∀ b, S b → ¬ F b) (hK : ∀ b, K b → ¬ F b) (h1 : ∀ g, ol = some g → ¬ F g) (h2 : ∀ g, om = some g → ¬ F g) : TrailAt S K ol om w' A B T := by
  obtain ⟨lv, mv, q1, q2, q3, q4, q5, q6, q7, q8, q9⟩ := h
  refine ⟨lv, mv, blk_mod q1 m hA, q2.keep (fun g hg => m.block g (q2.lt g hg) (h1 g hg)) (fun x r _ hR => ?_), q3.keep (fun g hg => m.block g (q3.lt g hg) (h2 g hg)) (fun _ _ _ h => h), q4.keep m hS, fun b hb => ?_, q6, q7, q8, fun b hb => Nat.lt_of_lt_of_le (q9 b hb) m.size⟩
  · obtain ⟨fv, hr, hb⟩ := hR
    exact ⟨fv, hr, hb.mod m hK⟩
  · obtain ⟨a, b, c, d, e⟩ := q5 b hb
    exact ⟨a, b, c, d, Nat.lt_of_lt_of_le e m.size⟩
theorem TrailOk.keep {P F : Nat → Prop} {w w' : World} {A B : Nat} {T : PTrail} (h : TrailOk P w A B T) (m : Mod F w w') (hP : ∀ b, P b → ¬ F b) : TrailOk P w' A B T := by
  obtain ⟨S, K, ol, om, h0, h1, h2, h3, h4, h5⟩ := h
  exact ⟨S, K, ol, om, h0.keep m (hP _ h1) (fun b hb => hP _ (h2 b hb)) (fun b hb => hP _ (h3 b hb)) (fun g hg => hP _ (h4 g hg)) (fun g hg => hP _ (h5 g hg)), h1, h2, h3, h4, h5⟩
theorem TrailOk.grow {P : Nat → Prop} {w w' : World} {A B : Nat} {T : PTrail} (h : TrailOk P w A B T) (g : Grow w w') : TrailOk P w' A B T := h.keep (Mod.of_grow (F := fun _ => False) g) (fun _ _ h => h)
theorem TrailOk.sub {P P' : Nat → Prop} {w : World} {A B : Nat} {T : PTrail} (h : TrailOk P w A B T) (hP : ∀ b, P b → P' b) : TrailOk P' w A B T := by
  obtain ⟨S, K, ol, om, h0, h1, h2, h3, h4, h5⟩ := h
  exact ⟨S, K, ol, om, h0, hP _ h1, fun b hb => hP _ (h2 b hb), fun b hb => hP _ (h3 b hb), fun g hg => hP _ (h4 g hg), fun g hg => hP _ (h5 g hg)⟩
theorem TrailOk.cut {P : Nat → Prop} {w : World} {A B : Nat} {T : PTrail} (h : TrailOk P w A B T) : TrailOk (fun b => P b ∧ b < w.heap.size) w A B T := by
  obtain ⟨S, K, ol, om, h0, h1, h2, h3, h4, h5⟩ := h
  have h0' := h0
  obtain ⟨lv, mv, q1, q2, q3, q4, q5, q6, q7, q8, q9⟩ := h0
  exact ⟨S, K, ol, om, h0', ⟨h1, blk_lt q1⟩, fun b hb => ⟨h2 b hb, (q5 b hb).2.2.2.2⟩, fun b hb => ⟨h3 b hb, q9 b hb⟩, fun g hg => ⟨h4 g hg, q2.lt g hg⟩, fun g hg => ⟨h5 g hg, q3.lt g hg⟩⟩
theorem TrailOk.graph {P : Nat → Prop} {w : World} {A B : Nat} {T : PTrail} (h : TrailOk P w A B T) : GraphOk 101 P w B T.g := by
  obtain ⟨S, K, ol, om, ⟨lv, mv, q1, q2, q3, q4, _⟩, h1, h2, _⟩ := h
  exact q4.sub h2
theorem TrailAt.read {S K : Nat → Prop} {ol om : Option Nat} {w : World} {A B : Nat} {T : PTrail} (h : TrailAt S K ol om w A B T) :
    ∃ la lc ma mc, w.heap[A]? = some (.cells #[capU B, .slice la T.l.length lc, .slice ma T.marks.length mc] 74 (0, 0)) ∧ A < w.heap.size ∧ w.cell? ⟨A, 0, none⟩ = some (capU B) ∧ w.cell? ⟨A, 1, none⟩ = some (.slice la T.l.length lc) ∧ w.cell? ⟨A, 2, none⟩ = some (.slice ma T.marks.length mc) ∧
      OwnL w 78 11 (RChg K w B) (.slice la T.l.length lc) T.l ol ∧ OwnL w 81 2 RMark (.slice ma T.marks.length mc) T.marks om := by
  obtain ⟨lv, mv, q1, q2, q3, -⟩ := h
  obtain ⟨la, lc, rfl⟩ : ∃ a c, lv = .slice a T.l.length c := by obtain ⟨_, _, _, h⟩ := q2; obtain ⟨oa, cap, h, _⟩ := h.isSlice; exact ⟨oa, cap, h⟩
  obtain ⟨ma, mc, rfl⟩ : ∃ a c, mv = .slice a T.marks.length c := by obtain ⟨_, _, _, h⟩ := q3; obtain ⟨oa, cap, h, _⟩ := h.isSlice; exact ⟨oa, cap, h⟩
  exact ⟨la, lc, ma, mc, q1, blk_lt q1, (blk_cell q1 0).trans rfl, (blk_cell q1 1).trans rfl, (blk_cell q1 2).trans rfl, q2, q3⟩

set_option maxHeartbeats 400000 in
theorem undoNew (S : Nat → Prop) (B : Nat) (G : PGraph) (w : World) (h : GraphOk 101 S w B G) :
    Calls Tryz.prog 12 #[capU B] w fun e w' => ∃ A, e = .returned (capU A) ∧ TrailOk (fun b => S b ∨ w.heap.size ≤ b) w' A B ⟨G, [], []⟩ ∧ Grow w w' := by
  have HOK := Lib.hid (h.cut.grow ((Grow.rfl' w).allocd (.cells #[capU B, .slice none 0 0, .slice none 0 0] 74)))
  have HG := Lib.hid ((Grow.rfl' w).allocd (.cells #[capU B, .slice none 0 0, .slice none 0 0] 74))
  have HN := Lib.hid (heap_alloc_new w (.cells #[capU B, .slice none 0 0, .slice none 0 0] 74))
  clear h
  go_enter Tryz.func12, Tryz.ntmps12
  go_wp2
  go_ret
  refine ⟨w.heap.size, rfl, ⟨fun b => S b ∧ b < w.heap.size, fun _ => False, none, none, ⟨_, _, HN.out, OwnL.nil _ _ _ _, OwnL.nil _ _ _ _, HOK.out, fun b hb => ⟨id, by omega, by simp, by simp, by simp; omega⟩, id, by simp, by simp, fun b hb => hb.elim⟩, .inr (Nat.le_refl _), fun b hb => .inl hb.1, fun b hb => hb.elim, by simp, by simp⟩, HG.out⟩
set_option maxHeartbeats 400000 in
theorem undoNone2 (A B : Nat) (w : World) (h : w.cell? ⟨A, 0, none⟩ = some (capU B)) : Calls Tryz.prog 39 #[capU A] w fun e w' => e = .returned (.bool false) ∧ w = w' := by
  have hl := cell_lt h
  go_enter Tryz.func39, Tryz.ntmps39
  go_wp2
  go_ret
  exact ⟨rfl, rfl⟩
end Go.Hg

namespace Go.Hg
open Go.RowKit Go.Proofs

def IdsW (n : Nat) (w : World) (v : Value) (l : List Int) : Prop := ∃ ob, IdsO w v l ob ∧ ∀ q, ob = some q → n ≤ q
theorem IdsW.nil (n : Nat) (w : World) : IdsW n w (.slice none 0 0) [] := ⟨none, OwnS.nil w _ 1, by simp⟩
theorem IdsW.grow {n : Nat} {w w' : World} {v : Value} {l : List Int} (h : IdsW n w v l) (g : Grow w w') : IdsW n w' v l := by
  obtain ⟨ob, h1, h2⟩ := h
  exact ⟨ob, OwnS.grow h1 g, h2⟩
theorem IdsW.isSlice {n : Nat} {w : World} {v : Value} {l : List Int} (h : IdsW n w v l) : ∃ oa cap, v = .slice oa l.length cap ∧ l.length ≤ cap ∧ cap ≤ maxLen := by
  obtain ⟨ob, h1, _⟩ := h
  exact OwnS.isSlice h1
theorem IdsW.post {w w' : World} {v : Value} {l : List Int} (h : IdsW w.heap.size w' v l) (g : Grow w w') : IdsPost l w (.returned v) w' := by
  obtain ⟨ob, h1, h2⟩ := h
  exact ⟨v, ob, rfl, h1, h2, g⟩
theorem IdsPost.open {l : List Int} {w w' : World} {e : Ending} (h : IdsPost l w e w') : ∃ v, e = .returned v ∧ IdsW w.heap.size w' v l ∧ Grow w w' := by
  obtain ⟨v, ob, h0, h1, h2, h3⟩ := h
  exact ⟨v, h0, ⟨ob, h1, h2⟩, h3⟩
end Go.Hg

namespace Go.Hg
open Go.RowKit Go.Proofs

def OwnN {α : Type} (e : TypeId) (sz : Nat) (R : α → List Value → Prop) (n : Nat) (w : World) (v : Value) (l : List α) : Prop := ∃ ob, OwnL w e sz R v l ob ∧ ∀ q, ob = some q → n ≤ q
section
variable {α : Type} {e : TypeId} {sz : Nat} {R : α → List Value → Prop} {n : Nat} {w w' : World} {v : Value} {l : List α}
theorem OwnN.nil (n : Nat) (w : World) : OwnN e sz R n w (.slice none 0 0) [] := ⟨none, OwnL.nil w e sz R, by simp⟩
theorem OwnN.grow (h : OwnN e sz R n w v l) (g : Grow w w') : OwnN e sz R n w' v l := by
  obtain ⟨ob, h1, h2⟩ := h
  exact ⟨ob, h1.keep (fun q hq => g.heapEq (h1.lt q hq)) (fun _ _ _ h => h), h2⟩
theorem OwnN.mod {F : Nat → Prop} (h : OwnN e sz R n w v l) (g : Mod F w w') (hF : ∀ k, n ≤ k → ¬ F k) : OwnN e sz R n w' v l := by
  obtain ⟨ob, h1, h2⟩ := h
  exact ⟨ob, h1.keep (fun q hq => g.block q (h1.lt q hq) (hF q (h2 q hq))) (fun _ _ _ h => h), h2⟩
theorem OwnN.isSlice (h : OwnN e sz R n w v l) : ∃ oa cap, v = .slice oa l.length cap ∧ l.length ≤ cap ∧ cap ≤ maxLen := by
  obtain ⟨ob, ⟨rows, _, _, h1⟩, _⟩ := h
  exact OwnS.isSlice h1
theorem OwnN.imp {R' : α → List Value → Prop} (h : OwnN e sz R n w v l) (hR : ∀ x r, x ∈ l → R x r → R' x r) : OwnN e sz R' n w v l := by
  obtain ⟨ob, h1, h2⟩ := h
  exact ⟨ob, h1.keep (fun _ _ => rfl) hR, h2⟩
end
end Go.Hg
