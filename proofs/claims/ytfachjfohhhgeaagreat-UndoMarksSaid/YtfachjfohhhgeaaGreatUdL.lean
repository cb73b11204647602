/- (undo.Trail).Do; What holds of each trail: it is kept by each call; hedgerowlaw19.wakes: true; A law's row: how it is closed where the call returns true and nothing that was there has turned. Conditions: those that each theorem names. -/
import Derived.WalkKit
import Derived.WalkSpells
import Derived.WalkLawsBesides
import Derived.Lib.Hide
import Derived.BigQuiet
import Derived.Deep.LoopGhost
import Derived.Maps.OwnOps
import Derived.Maps.OwnSet
import Derived.Carry
import Derived.Test.YtfachjfohhhgeaaGreatRows
import Derived.Lib.SlKeysI
import Derived.Lib.SliceRun
import Derived.WideMake
import Derived.Deep.RegionLaw
import Derived.Lib.Overlaps
import Derived.Deep.RegionHeld3
import Derived.Laws.ResultCell
import Derived.Shelf.SlSortCmp.WholeK
import Derived.Laws.EntriesVeiled
import Derived.Deep.DeepCutAuto
import Derived.RowKit
import Derived.ReadAgain
import Derived.ChangeOld
import Derived.Test.YtfachjfohhhgeaaGreatUdK
namespace Go.Hg
open Go.RowKit Go.Proofs

def doT (T : PTrail) (o : POp) : (Int × Int) × PTrail :=
  if mayG typesC o T.g ≠ 0 then ((0, mayG typesC o T.g), T) else if T.l.length = 64 then ((0, 3), T) else ((idG o T.g, 0), ⟨doG o T.g, T.l ++ [(opId o T.g, T.g)], T.marks⟩)
def DoPostT (P : Nat → Prop) (A B : Nat) (T : PTrail) (o : POp) (w : World) (e : Ending) (w' : World) : Prop :=
  e = .returned (.tuple #[.int .i64 (doT T o).1.1, .int .i64 (doT T o).1.2]) ∧ TrailOk (fun b => P b ∨ w.heap.size ≤ b) w' A B (doT T o).2 ∧ Mod P w w'
abbrev OpC (w : World) (b : Nat) (o : POp) : Prop := b < w.heap.size ∧ w.cell? ⟨b, 0, none⟩ = some (.int .i64 o.kind) ∧ w.cell? ⟨b, 1, none⟩ = some (.int .i64 o.id) ∧ w.cell? ⟨b, 2, none⟩ = some (.string o.typ) ∧
    w.cell? ⟨b, 3, none⟩ = some (.int .i64 o.from_) ∧ w.cell? ⟨b, 4, none⟩ = some (.int .i64 o.to_) ∧ w.cell? ⟨b, 5, none⟩ = some (.string o.name) ∧ w.cell? ⟨b, 6, none⟩ = some (.int .i64 o.v.kind) ∧ w.cell? ⟨b, 7, none⟩ = some (.int .i64 o.v.n) ∧ w.cell? ⟨b, 8, none⟩ = some (.string o.v.s) ∧ w.cell? ⟨b, 9, none⟩ = some (.bool o.cascade)
abbrev CatC5 (w : World) (b : Nat) (nv ev rv iv : Value) (n : Int) : Prop := b < w.heap.size ∧ w.cell? ⟨b, 0, none⟩ = some nv ∧ w.cell? ⟨b, 1, none⟩ = some ev ∧ w.cell? ⟨b, 2, none⟩ = some rv ∧ w.cell? ⟨b, 3, none⟩ = some iv ∧ w.cell? ⟨b, 4, none⟩ = some (.int .i64 n)
def BoxD (w2 : World) (B : Nat) (o : POp) (G : PGraph) (xv : Value) (w' : World) : Prop :=
  ∃ xb f caps, xv = capU xb ∧ w2.heap.size ≤ xb ∧ w'.heap[xb]? = some (.cells #[.int .i64 o.kind, .int .i64 o.id, .string o.typ, .int .i64 o.from_, .int .i64 o.to_, .string o.name, .int .i64 o.v.kind, .int .i64 o.v.n, .string o.v.s, .bool o.cascade, .func (.func f) #[] caps] 78 (0, 0)) ∧ BackV (fun b => (w2.heap.size ≤ b ∧ b ≠ xb) ∧ b < w'.heap.size) w' B o G (.func (.func f) #[] caps) ∧ Grow w2 w'
theorem step_store_row {P : Program} {ops : Array Oper} {o : Oper} {a : Act} {w : World} {K : Act → World → Prop} {Q : Exit → Act → World → Prop} {E : Prop} (hgd : o.guard = none) (ty : TypeId) (x y : Operand) (ho : o.op = .store ty x y)
    (g : Nat) (cells : Array Value) (hx : a.eval x = .pointer (some ⟨g, 0, none⟩)) (hy : a.eval y = .agg cells)
    (t : TypeId) (old : Array Value) (hg : w.heap[g]? = some (.cells old t (0, 0))) (hi : (P.info? ty).map (·.size) = some cells.size)
    (hold : old.size = cells.size) (h1 : cells.all (·.oneCell') = true) (h : K (a.put o.dst undef) (w.setRow g cells)) :
    if Region.wanted o (yielded ops a.tmps) = true then Oper.wp P o a w K Q else E := by
  have hw : Region.wanted o (yielded ops a.tmps) = true := by simp [Region.wanted, hgd]
  rw [if_pos hw]
  exact wp_store_row ty x y ho g cells hx hy t old hg hi hold h1 h
theorem infoSz : (Tryz.prog.info? 78).map (·.size) = some 11 := by kernel_rfl
theorem setRowAt {w : World} {g : Nat} {old cells : Array Value} {T : TypeId} (hg : w.heap[g]? = some (.cells old T (0, 0))) : (w.setRow g cells).heap[g]? = some (.cells cells T (0, 0)) ∧ Mod (fun b => b = g) w (w.setRow g cells) :=
  ⟨setRow_heap w g old cells T (0, 0) hg, ⟨rfl, rfl, rfl, by simp, fun k _ hn => by rw [setRow_other _ _ _ _ hn]⟩⟩
theorem TrailAt.lAt {S K : Nat → Prop} {ol om : Option Nat} {w w7 : World} {A B : Nat} {T : PTrail} {lv : Value} (hat : TrailAt S K ol om w A B T) (q2 : OwnL w 78 11 (RChg K w B) lv T.l ol) (m7 : Mod S w w7) : OwnL w7 78 11 (RChg K w7 B) lv T.l ol := by
  obtain ⟨_, mv, q1, _, q3, q4, q5, q6, q7, q8, q9⟩ := hat
  refine q2.keep (fun g hg => m7.block g (q2.lt g hg) (fun hh => (q5 g hh).2.2.1 hg)) (fun x r _ hR => ?_)
  obtain ⟨fv, hr, hb⟩ := hR
  exact ⟨fv, hr, hb.mod m7 (fun b hb hh => (q5 b hh).1 hb)⟩
theorem doFin {S K P : Nat → Prop} {ol om ol8 : Option Nat} {w w2 w4 w7 w8 : World} {A B xb : Nat} {T : PTrail} {o : POp} {fv v8 : Value} {rows : List (List Value)} (hat : TrailAt S K ol om w A B T) (h2 : w.heap.size ≤ w2.heap.size) (h4 : w2.heap.size ≤ w4.heap.size) (h47 : w4.heap.size ≤ w7.heap.size)
    (m7 : Mod S w w7) (hok : GraphOk 101 (fun b => S b ∨ w4.heap.size ≤ b) w7 B (doG o T.g)) (hbv : BackV (fun b => (w2.heap.size ≤ b ∧ b ≠ xb) ∧ b < w4.heap.size) w7 B o T.g fv) (o1 : Obj)
    (r1 : rows.length = T.l.length) (r2 : ∀ (k : Nat) x r, T.l[k]? = some x → rows[k]? = some r → RChg K w7 B x r ∧ r.length = 11) (k2 : Mod (fun k => ol = some k) (w7.drew.alloc o1) w8) (k3 : ol8 = ol ∨ ∃ g, ol8 = some g ∧ (w7.drew.alloc o1).heap.size ≤ g)
    (k1 : OwnS w8 78 11 v8 (T.l.length + 1) (rows.flatten ++ ((opId o T.g).cells ++ [fv])) ol8) (p1 : P A) (p2 : ∀ b, S b → P b) (p3 : ∀ b, K b → P b) (p4 : ∀ g, ol = some g → P g) (p5 : ∀ g, om = some g → P g) :
    TrailOk (fun b => P b ∨ w.heap.size ≤ b) (w8.setCell ⟨A, 1, none⟩ v8) A B ⟨doG o T.g, T.l ++ [(opId o T.g, T.g)], T.marks⟩ ∧ Mod P w (w8.setCell ⟨A, 1, none⟩ v8) := by
  have gd : Grow w7 (w7.drew.alloc o1) := ((Grow.rfl' w7).drewd).allocd o1
  have hsz := gd.size
  have m78 : Mod (fun k => ol = some k) w7 w8 := (Mod.of_grow gd).step k2
  obtain ⟨lv, mv, q1, q2, q3, q4, q5, q6, q7, q8, q9⟩ := id hat
  have hA := blk_lt q1
  have l7 := hat.lAt q2 m7
  have hat7 : TrailAt (fun b => (S b ∨ w4.heap.size ≤ b) ∧ b < w7.heap.size) (fun b => K b ∨ ((w2.heap.size ≤ b ∧ b ≠ xb) ∧ b < w4.heap.size)) ol om w7 A B ⟨doG o T.g, T.l, T.marks⟩ := by
    refine ⟨lv, mv, blk_mod q1 m7 (fun hh => (q5 A hh).2.1 rfl), l7.keep (fun _ _ => rfl) (fun x r _ hR => ?_), q3.keep (fun g hg => m7.block g (q3.lt g hg) (fun hh => (q5 g hh).2.2.2.1 hg)) (fun _ _ _ h => h), hok.cut, ?_, ?_, ?_, ?_, ?_⟩
    · obtain ⟨fv, hr, hb⟩ := hR
      exact ⟨fv, hr, hb.sub (fun b hb => .inl hb)⟩
    · rintro b ⟨hb | hb, hlt⟩
      · obtain ⟨a1, a2, a3, a4, a5⟩ := q5 b hb
        exact ⟨fun h => h.elim a1 (fun h => by omega), a2, a3, a4, hlt⟩
      · exact ⟨fun h => h.elim (fun h => by have := q9 b h; omega) (fun h => by omega), by omega, fun h => by have := q2.lt b h; omega, fun h => by have := q3.lt b h; omega, hlt⟩
    · exact fun h => h.elim q6 (fun h => by omega)
    · exact fun g hg => ⟨fun h => h.elim (q7 g hg).1 (fun h => by have := q2.lt g hg; omega), (q7 g hg).2.1, (q7 g hg).2.2⟩
    · exact fun g hg => ⟨fun h => h.elim (q8 g hg).1 (fun h => by have := q3.lt g hg; omega), (q8 g hg).2⟩
    · exact fun b hb => hb.elim (fun h => by have := q9 b h; omega) (fun h => by omega)
  have hKo : ∀ b, (K b ∨ ((w2.heap.size ≤ b ∧ b ≠ xb) ∧ b < w4.heap.size)) → ¬ (fun k => ol = some k) b := fun b hb hh => hb.elim (fun h => (q7 b hh).1 h) (fun h => by have := q2.lt b hh; omega)
  have hown : OwnL w8 78 11 (RChg (fun b => K b ∨ ((w2.heap.size ≤ b ∧ b ≠ xb) ∧ b < w4.heap.size)) w8 B) v8 (T.l ++ [(opId o T.g, T.g)]) ol8 := by
    obtain ⟨c1, c2⟩ := joinRows (Q := RChg (fun b => K b ∨ ((w2.heap.size ≤ b ∧ b ≠ xb) ∧ b < w4.heap.size)) w8 B) (sz := 11) (m := [(opId o T.g, T.g)]) (r2 := [(opId o T.g).cells ++ [fv]]) r1 (fun k y r hy hr => by
      obtain ⟨⟨fv, h1, h2⟩, h3⟩ := r2 k y r hy hr
      exact ⟨⟨fv, h1, (h2.sub (fun b hb => .inl hb)).mod m78 hKo⟩, h3⟩) rfl (fun k y r hy hr => by
      cases k with
      | zero => simp at hy hr; subst hy; subst hr; exact ⟨⟨fv, rfl, ((hbv.sub (fun b hb => .inr hb)).mod m78 hKo).opId⟩, rfl⟩
      | succ k => simp at hy)
    refine ⟨_, c1, c2, ?_⟩
    rw [List.flatten_append, List.length_append]
    simpa using k1
  have k3' : ol8 = ol ∨ ∃ g, ol8 = some g ∧ w7.heap.size ≤ g := k3.imp id (fun ⟨g, h1, h2⟩ => ⟨g, h1, Nat.le_trans hsz h2⟩)
  have h9 := hat7.newL m78 hown k3'
  refine ⟨⟨_, _, ol8, om, h9, .inl p1, fun b hb => hb.1.elim (fun h => .inl (p2 b h)) (fun h => .inr (by omega)), fun b hb => hb.elim (fun h => .inl (p3 b h)) (fun h => .inr (by omega)), fun g hg => ?_, fun g hg => .inl (p5 g hg)⟩, ?_⟩
  · rcases k3' with h | ⟨g', h, hge⟩
    · exact .inl (p4 g (h ▸ hg))
    · rw [h] at hg; cases hg; exact .inr (by omega)
  · exact ((m7.mono (fun b hb => p2 b hb)).step (m78.mono (fun b hb => p4 b hb))).setd (p := ⟨A, 1, none⟩) (.inl p1) _
abbrev ChgC (w : World) (b : Nat) (o : POp) (fv : Value) : Prop := b < w.heap.size ∧ w.cell? ⟨b, 0, none⟩ = some (.int .i64 o.kind) ∧ w.cell? ⟨b, 1, none⟩ = some (.int .i64 o.id) ∧ w.cell? ⟨b, 2, none⟩ = some (.string o.typ) ∧
    w.cell? ⟨b, 3, none⟩ = some (.int .i64 o.from_) ∧ w.cell? ⟨b, 4, none⟩ = some (.int .i64 o.to_) ∧ w.cell? ⟨b, 5, none⟩ = some (.string o.name) ∧ w.cell? ⟨b, 6, none⟩ = some (.int .i64 o.v.kind) ∧ w.cell? ⟨b, 7, none⟩ = some (.int .i64 o.v.n) ∧ w.cell? ⟨b, 8, none⟩ = some (.string o.v.s) ∧ w.cell? ⟨b, 9, none⟩ = some (.bool o.cascade) ∧ w.cell? ⟨b, 10, none⟩ = some fv
theorem chgC {w : World} {b : Nat} {o : POp} {fv : Value} (h : w.heap[b]? = some (.cells #[.int .i64 o.kind, .int .i64 o.id, .string o.typ, .int .i64 o.from_, .int .i64 o.to_, .string o.name, .int .i64 o.v.kind, .int .i64 o.v.n, .string o.v.s, .bool o.cascade, fv] 78 (0, 0))) : ChgC w b o fv :=
  ⟨blk_lt h, (blk_cell h 0).trans rfl, (blk_cell h 1).trans rfl, (blk_cell h 2).trans rfl, (blk_cell h 3).trans rfl, (blk_cell h 4).trans rfl, (blk_cell h 5).trans rfl, (blk_cell h 6).trans rfl, (blk_cell h 7).trans rfl, (blk_cell h 8).trans rfl, (blk_cell h 9).trans rfl, (blk_cell h 10).trans rfl⟩
theorem opC {w : World} {b : Nat} {o : POp} (h : OpAt w b o) : OpC w b o := by
  unfold OpAt at h
  exact ⟨blk_lt h, by rw [blk_cell h]; rfl, by rw [blk_cell h]; rfl, by rw [blk_cell h]; rfl, by rw [blk_cell h]; rfl, by rw [blk_cell h]; rfl, by rw [blk_cell h]; rfl, by rw [blk_cell h]; rfl, by rw [blk_cell h]; rfl, by rw [blk_cell h]; rfl, by rw [blk_cell h]; rfl⟩

set_option maxRecDepth 100000 in
set_option maxHeartbeats 8000000 in
theorem undoDo (P SC : Nat → Prop) (A B : Nat) (T : PTrail) (o : POp) (nv ev rv iv : Value) (w : World) (h : TrailOk P w A B T) (hT : TInv T) (hc : CatR SC w nv ev rv iv typesC) :
    Calls Tryz.prog 13 #[capU A, typesC.arg nv ev rv iv, o.args] w (DoPostT P A B T o w) := by
  have HOK := Lib.hid h; have HT := Lib.hid hT; have HC := Lib.hid hc
  obtain ⟨na, nc, ea, ec, ra, rc, ia, ic, rfl, rfl, rfl, rfl⟩ := hc.slices
  obtain ⟨S, K, ol, om, hat, p1, p2, p3, p4, p5⟩ := h
  have HAT := Lib.hid hat; have P1 := Lib.hid p1; have P2 := Lib.hid p2; have P3 := Lib.hid p3; have P4 := Lib.hid p4; have P5 := Lib.hid p5
  obtain ⟨la, lc, ma, mc, hA, hAl, c0, c1, c2, -, -⟩ := hat.read
  have HA := Lib.hid hA
  have hln := hT.len
  have HI := Lib.hid (goodG_inv hT.good)
  have HGD := Lib.hid hT.good
  have HSELF := Lib.hid (show TrailOk (fun b => P b ∨ w.heap.size ≤ b) w A B T from HOK.out.sub (fun b hb => .inl hb))
  have HBX := Lib.hid (boxes w (.slice na typesC.nodes.length nc) (.slice ea typesC.edges.length ec) (.slice ra typesC.rules.length rc) (.slice ia typesC.indexes.length ic) typesC o)
  have HW := Lib.hid (show ∀ o1 o2, Grow w ((w.alloc o1).alloc o2) from fun o1 o2 => ((Grow.rfl' w).allocd o1).allocd o2)
  clear hat hT p1 p2 p3 p4 p5 hA hc
  go_enter Tryz.func13, Tryz.ntmps13
  go_upto_region 1 with fail
  obtain ⟨w1, hw1⟩ : ∃ w1, (w.alloc (.cells #[.slice na typesC.nodes.length nc, .slice ea typesC.edges.length ec, .slice ra typesC.rules.length rc, .slice ia typesC.indexes.length ic, .int .i64 typesC.nextRule] 45)).alloc (.cells #[.int .i64 o.kind, .int .i64 o.id, .string o.typ, .int .i64 o.from_, .int .i64 o.to_, .string o.name, .int .i64 o.v.kind, .int .i64 o.v.n, .string o.v.s, .bool o.cascade] 35) = w1 := ⟨_, rfl⟩
  have HG1 := Lib.hid (show Grow w w1 by rw [← hw1]; exact HW.out _ _)
  have HCA := Lib.hid (show CatAt w1 w.heap.size (.slice na typesC.nodes.length nc) (.slice ea typesC.edges.length ec) (.slice ra typesC.rules.length rc) (.slice ia typesC.indexes.length ic) typesC by rw [← hw1]; exact HBX.out.1)
  have HOA := Lib.hid (show OpAt w1 (w.heap.size + 1) o by rw [← hw1]; exact HBX.out.2)
  rw [hw1]
  have c01 : w1.cell? ⟨A, 0, none⟩ = some (capU B) := (blk_cell ((HG1.out.heapEq hAl).trans HA.out) 0).trans rfl
  have HS := Lib.hid (show ∀ w', Grow w1 w' → w'.cell? ⟨A, 0, none⟩ = some (capU B) ∧ CatC5 w' w.heap.size (.slice na typesC.nodes.length nc) (.slice ea typesC.edges.length ec) (.slice ra typesC.rules.length rc) (.slice ia typesC.indexes.length ic) typesC.nextRule ∧ OpC w' (w.heap.size + 1) o from fun w' g =>
    ⟨(blk_cell (((HG1.out.step g).heapEq hAl).trans HA.out) 0).trans rfl, (HCA.out.grow g).at, opC (HOA.out.grow g)⟩)
  clear hw1 HBX HW c0 c1 c2
  go_wp2_with fail
  refine (undoNone2 A B w1 c01).mono ?_
  rintro e w2 ⟨rfl, hw2⟩
  subst hw2
  go_wp2
  have hd1 : Grow w1 w1.drew := (Grow.rfl' w1).drewd
  have hmx := graphMay S SC B T.g _ _ _ _ typesC o w1.drew (by obtain ⟨_, _, _, _, _, h, _⟩ := HAT.out; exact h.grow (HG1.out.step hd1)) HI.out (HC.out.grow (HG1.out.step hd1))
  have HMAY := Lib.hid hmx
  have HD1 := Lib.hid hd1
  clear hmx hd1
  go_region_held3 (fun w' => w'.cell? ⟨A, 0, none⟩ = some (capU B) ∧ CatC5 w' w.heap.size (.slice na typesC.nodes.length nc) (.slice ea typesC.edges.length ec) (.slice ra typesC.rules.length rc) (.slice ia typesC.indexes.length ic) typesC.nextRule ∧ OpC w' (w.heap.size + 1) o) (first | exact HS.out _ HD1.out | exact HS.out _ (HD1.out.step hg2)) (first | (go_at_call 40; refine HMAY.out.mono ?_; rintro e w2 ⟨rfl, hg2⟩))
  have HG2 := Lib.hid (HG1.out.step (HD1.out.step hg2))
  have HG12 := Lib.hid (HD1.out.step hg2)
  have hAl2 : A < w2.heap.size := Nat.lt_of_lt_of_le hAl HG2.out.size
  have HA2 := Lib.hid ((HG2.out.heapEq hAl).trans HA.out)
  have HSELF2 := Lib.hid (HSELF.out.grow HG2.out)
  have c1 : w2.cell? ⟨A, 1, none⟩ = some (.slice la T.l.length lc) := (blk_cell HA2.out 1).trans rfl
  rename_i hold
  clear hold hg2 c01
  by_cases hm : mayG typesC o T.g = 0
  · rw [hm]
    have HM := Lib.hid hm
    clear hm
    by_cases h64 : T.l.length = 64
    · go_wp2
      go_ret2
      have e : doT T o = ((0, 3), T) := by unfold doT; rw [if_neg (by rw [HM.out]; simp), if_pos h64]
      exact ⟨by rw [e]; rfl, by rw [e]; exact HSELF2.out, Mod.of_grow HG2.out⟩
    · go_upto_region 8 with fail
      have HBK := Lib.hid (show ∀ w', Grow w2 w' → Calls Tryz.prog 41 #[capU A, o.args] w' (BackRes B o T.g w') from fun w' g =>
        undoBack S A B _ _ T.g o w' ((g.heapEq hAl2).trans HA2.out) (by obtain ⟨_, _, _, _, _, h, _⟩ := HAT.out; exact h.grow (HG2.out.step g)) HGD.out HM.out)
      have HD2 := Lib.hid (show Grow w2 w2.drew ∧ ∀ o1, Grow w2 (w2.drew.alloc o1) from ⟨(Grow.rfl' w2).drewd, fun o1 => ((Grow.rfl' w2).drewd).allocd o1⟩)
      go_cut [9] (fun xv wx => BoxD w2 B o T.g xv wx)
      case first =>
        refine wp_region_noPanic ?_
        refine wp_region_held_drew (S := (fun w' => OpC w' (w.heap.size + 1) o)) (by kernel_rfl) ?_ (fun hHeld => ?_)
        · exact (HS.out _ (HG12.out.step HD2.out.1)).2.2
        refine' wpAnyH_take (i := 0) (oi := ?o1) (v := _) (by simp only [List.getElem?_toArray, List.getElem?_cons_zero]; rfl) (by kernel_rfl) (by kernel_rfl) (by kernel_rfl) (fun _ _ _ h => h) (Or.inl ⟨by rfl, ?y1⟩) (by assumption) ?r1
        case y1 =>
          intro wS hSw
          try dsimp only at hSw
          go_simp
          all_goals with_reducible rfl
        simp only [Act.put, List.setIfInBounds_toArray, List.set_cons_zero, List.set_cons_succ]
        refine' wpAnyH_take (i := 1) (oi := ?o2) (v := _) (by simp only [List.getElem?_toArray, List.getElem?_cons_succ, List.getElem?_cons_zero]; rfl) (by kernel_rfl) (by kernel_rfl) (by kernel_rfl) (fun _ _ _ h => h) (Or.inl ⟨by rfl, ?y2⟩) (by assumption) ?r2
        case y2 =>
          intro wS hSw
          try dsimp only at hSw
          go_simp
          all_goals with_reducible rfl
        simp only [Act.put, List.setIfInBounds_toArray, List.set_cons_zero, List.set_cons_succ]
        refine' wpAnyH_take (i := 2) (oi := ?o3) (v := _) (by simp only [List.getElem?_toArray, List.getElem?_cons_succ, List.getElem?_cons_zero]; rfl) (by kernel_rfl) (by kernel_rfl) (by kernel_rfl) (fun _ _ _ h => h) (Or.inl ⟨by rfl, ?y3⟩) (by assumption) ?r3
        case y3 =>
          intro wS hSw
          try dsimp only at hSw
          go_simp
          all_goals with_reducible rfl
        simp only [Act.put, List.setIfInBounds_toArray, List.set_cons_zero, List.set_cons_succ]
        refine wpAnyH_ready (rs := [3, 5]) (by kernel_rfl) (by simp) ?_
        refine' AllReadyH.cons (o := ?o900) (by simp only [List.getElem?_toArray, List.getElem?_cons_succ, List.getElem?_cons_zero]; rfl) (fun K hK => ?s900) ?m900
        rotate_left
        · refine' AllReadyH.cons (o := ?o4) (by simp only [List.getElem?_toArray, List.getElem?_cons_succ, List.getElem?_cons_zero]; rfl) (fun K hK => ?s4) ?m4
          case m4 => exact AllReadyH.nil
          go_simp
          refine hK.out _ _ ?_ (fun hHeld => ?_)
          · exact (HS.out _ (HG12.out.step (HD2.out.2 _))).2.2
          clear hK K
          try simp only [Act.put, List.setIfInBounds_toArray, List.set_cons_zero, List.set_cons_succ]
          refine wpAnyH_ready (rs := [3]) (by kernel_rfl) (by simp) ?_
          refine' AllReadyH.cons (o := ?o5) (by simp only [List.getElem?_toArray, List.getElem?_cons_succ, List.getElem?_cons_zero]; rfl) (fun K hK => ?s5) ?m5
          case m5 => exact AllReadyH.nil
          go_simp
          go_at_call 41
          refine (HBK.out _ (HD2.out.2 _)).mono ?_
          rintro e w3 ⟨fv, rfl, hbv, hg3⟩
          obtain ⟨f, caps, rfl⟩ := hbv.isFunc
          have BV := Lib.hid hbv.cut
          have G3 := Lib.hid ((HD2.out.2 _).step hg3)
          have HG23 := Lib.hid hg3
          clear hbv hg3
          go_wp2_with fail
          refine hK.out _ _ ?_ (fun hHeld => ?_)
          · exact (HS.out _ (HG12.out.step G3.out)).2.2
          clear hK K
          try simp only [Act.put, List.setIfInBounds_toArray, List.set_cons_zero, List.set_cons_succ]
          have hbx : w3.heap[w2.heap.size]? = some (.cells #[.int .i64 0, .int .i64 0, .string ByteArray.empty, .int .i64 0, .int .i64 0, .string ByteArray.empty, .int .i64 0, .int .i64 0, .string ByteArray.empty, .bool false, .nilFunc] 78 (0, 0)) := (HG23.out.heapEq (k := w2.heap.size) (by simp)).trans (heap_alloc_new w2.drew _)
          refine' wpAnyH_take (i := 4) (oi := ?o6) (v := _) (by simp only [List.getElem?_toArray, List.getElem?_cons_succ, List.getElem?_cons_zero]; rfl) (by kernel_rfl) (by kernel_rfl) (by kernel_rfl) (fun _ _ _ h => h) (Or.inl ⟨by rfl, ?y6⟩) (by assumption) ?r6
          case y6 =>
            intro wS hSw
            try dsimp only at hSw
            go_simp
            all_goals with_reducible rfl
          simp only [Act.put, List.setIfInBounds_toArray, List.set_cons_zero, List.set_cons_succ]
          refine wpAnyH_ready (rs := [6]) (by kernel_rfl) (by simp) ?_
          refine' AllReadyH.cons (o := ?o7) (by simp only [List.getElem?_toArray, List.getElem?_cons_succ, List.getElem?_cons_zero]; rfl) (fun K hK => ?s7) ?m7
          case m7 => exact AllReadyH.nil
          refine step_store_row rfl 78 (.tmp 9) (.tmp 34) rfl w2.heap.size #[.int .i64 o.kind, .int .i64 o.id, .string o.typ, .int .i64 o.from_, .int .i64 o.to_, .string o.name, .int .i64 o.v.kind, .int .i64 o.v.n, .string o.v.s, .bool o.cascade, .func (.func f) #[] caps] (by simp [Act.eval]) (by simp [Act.eval]) 78 #[.int .i64 0, .int .i64 0, .string ByteArray.empty, .int .i64 0, .int .i64 0, .string ByteArray.empty, .int .i64 0, .int .i64 0, .string ByteArray.empty, .bool false, .nilFunc] hbx infoSz rfl (by simp [Value.oneCell']) ?_
          refine hK.out _ _ ?_ (fun hHeld => ?_)
          · exact (HS.out _ (HG12.out.step (Grow.modd G3.out (setRowAt hbx).2 (fun b hb => by omega)))).2.2
          clear hK K
          try simp only [Act.put]
          refine wpAnyH_done (by kernel_rfl) ?_ _
          refine NoPanic.normal ?_
          go_wp2_with fail
          go_meet
          exact ⟨w2.heap.size, f, caps, rfl, Nat.le_refl _, (setRowAt hbx).1, ((BV.out.mod (setRowAt hbx).2 (fun b hb e => by have h := hb.1; simp at h; omega)).cut).sub (fun b hb => ⟨by have h := hb.1.1; simp at h; omega, hb.2⟩), Grow.modd G3.out (setRowAt hbx).2 (fun b hb => by omega)⟩
        go_simp
        go_at_call 41
        refine (HBK.out _ HD2.out.1).mono ?_
        rintro e w3 ⟨fv, rfl, hbv, hg3⟩
        obtain ⟨f, caps, rfl⟩ := hbv.isFunc
        have BV := Lib.hid hbv.cut
        have G3 := Lib.hid (HD2.out.1.step hg3)
        have HG23 := Lib.hid hg3
        clear hbv hg3
        go_wp2_with fail
        refine hK.out _ _ ?_ (fun hHeld => ?_)
        · exact (HS.out _ (HG12.out.step G3.out)).2.2
        clear hK K
        try simp only [Act.put, List.setIfInBounds_toArray, List.set_cons_zero, List.set_cons_succ]
        refine' wpAnyH_take (i := 4) (oi := ?o8) (v := _) (by simp only [List.getElem?_toArray, List.getElem?_cons_succ, List.getElem?_cons_zero]; rfl) (by kernel_rfl) (by kernel_rfl) (by kernel_rfl) (fun _ _ _ h => h) (Or.inl ⟨by rfl, ?y8⟩) (by assumption) ?r8
        case y8 =>
          intro wS hSw
          try dsimp only at hSw
          go_simp
          all_goals with_reducible rfl
        simp only [Act.put, List.setIfInBounds_toArray, List.set_cons_zero, List.set_cons_succ]
        refine wpAnyH_ready (rs := [5]) (by kernel_rfl) (by simp) ?_
        refine' AllReadyH.cons (o := ?o9) (by simp only [List.getElem?_toArray, List.getElem?_cons_succ, List.getElem?_cons_zero]; rfl) (fun K hK => ?s9) ?m9
        case m9 => exact AllReadyH.nil
        go_simp
        refine hK.out _ _ ?_ (fun hHeld => ?_)
        · exact (HS.out _ (HG12.out.step (G3.out.allocd _))).2.2
        clear hK K
        try simp only [Act.put, List.setIfInBounds_toArray, List.set_cons_zero, List.set_cons_succ]
        have hbx := heap_alloc_new w3 (.cells #[.int .i64 0, .int .i64 0, .string ByteArray.empty, .int .i64 0, .int .i64 0, .string ByteArray.empty, .int .i64 0, .int .i64 0, .string ByteArray.empty, .bool false, .nilFunc] 78)
        refine wpAnyH_ready (rs := [6]) (by kernel_rfl) (by simp) ?_
        refine' AllReadyH.cons (o := ?o10) (by simp only [List.getElem?_toArray, List.getElem?_cons_succ, List.getElem?_cons_zero]; rfl) (fun K hK => ?s10) ?m10
        case m10 => exact AllReadyH.nil
        refine step_store_row rfl 78 (.tmp 9) (.tmp 34) rfl w3.heap.size #[.int .i64 o.kind, .int .i64 o.id, .string o.typ, .int .i64 o.from_, .int .i64 o.to_, .string o.name, .int .i64 o.v.kind, .int .i64 o.v.n, .string o.v.s, .bool o.cascade, .func (.func f) #[] caps] (by simp [Act.eval]) (by simp [Act.eval]) 78 #[.int .i64 0, .int .i64 0, .string ByteArray.empty, .int .i64 0, .int .i64 0, .string ByteArray.empty, .int .i64 0, .int .i64 0, .string ByteArray.empty, .bool false, .nilFunc] hbx infoSz rfl (by simp [Value.oneCell']) ?_
        refine hK.out _ _ ?_ (fun hHeld => ?_)
        · exact (HS.out _ (HG12.out.step (Grow.modd (G3.out.allocd _) (setRowAt hbx).2 (fun b hb => by have := G3.out.size; omega)))).2.2
        clear hK K
        try simp only [Act.put]
        refine wpAnyH_done (by kernel_rfl) ?_ _
        refine NoPanic.normal ?_
        go_wp2_with fail
        go_meet
        exact ⟨w3.heap.size, f, caps, rfl, G3.out.size, (setRowAt hbx).1, (((BV.out.mod (Mod.of_grow (F := fun _ => False) ((Grow.rfl' w3).allocd _)) (fun _ _ h => h)).mod (setRowAt hbx).2 (fun b hb e => by have h := hb.2; omega)).cut).sub (fun b hb => ⟨⟨hb.1.1, by have h := hb.1.2; omega⟩, hb.2⟩), Grow.modd (G3.out.allocd _) (setRowAt hbx).2 (fun b hb => by have := G3.out.size; omega)⟩
      case rest =>
        obtain ⟨xb, f, caps, rfl, hxb, hblk, hbv, hg4⟩ := hcut
        obtain ⟨w4, hw4⟩ : ∃ w4, w4 = wc := ⟨_, rfl⟩
        subst hw4
        have HXB := Lib.hid hblk; have HBV := Lib.hid hbv; have HG24 := Lib.hid hg4
        have HG4 := Lib.hid (HG2.out.step hg4)
        have hs24 : w2.heap.size ≤ w4.heap.size := hg4.size
        have hs2 : w.heap.size + 1 < w2.heap.size := by have := (HS.out _ HG12.out).2.2.1; omega
        clear hblk hbv hg4 c1
        have hd4 : Grow w4 w4.drew := (Grow.rfl' w4).drewd
        have HD4 := Lib.hid hd4
        have hSlt : ∀ b, S b → b < w.heap.size := by obtain ⟨_, _, _, _, _, _, h, _⟩ := HAT.out; exact fun b hb => (h b hb).2.2.2.2
        have hSA : ¬ S A := by obtain ⟨_, _, _, _, _, _, h, _⟩ := HAT.out; exact fun hb => (h A hb).2.1 rfl
        have HSL := Lib.hid hSlt
        have HDO := Lib.hid (show Calls Tryz.prog 37 #[.pointer (some ⟨B, 0, none⟩), typesC.arg (.slice na typesC.nodes.length nc) (.slice ea typesC.edges.length ec) (.slice ra typesC.rules.length rc) (.slice ia typesC.indexes.length ic), o.args] w4.drew fun e w' => e = .returned (.tuple #[.int .i64 (idG o T.g), .int .i64 0]) ∧ GraphOk 101 (fun b => S b ∨ w4.heap.size ≤ b) w' B (doG o T.g) ∧ Mod S w4.drew w' from
          (graphDo S SC B T.g _ _ _ _ typesC o w4.drew (by obtain ⟨_, _, _, _, _, h, _⟩ := HAT.out; exact h.grow (HG4.out.step hd4)) HI.out (HC.out.grow (HG4.out.step hd4))).mono (by
            rintro e w' ⟨rfl, h1, h2⟩
            unfold Hg.stepG at h1
            rw [if_pos HM.out] at h1
            rw [if_pos HM.out, HM.out]
            exact ⟨rfl, h1, h2⟩))
        have HSK := Lib.hid (show ∀ w', Mod S w4.drew w' → w'.cell? ⟨A, 0, none⟩ = some (capU B) ∧ CatC5 w' w.heap.size (.slice na typesC.nodes.length nc) (.slice ea typesC.edges.length ec) (.slice ra typesC.rules.length rc) (.slice ia typesC.indexes.length ic) typesC.nextRule ∧ OpC w' (w.heap.size + 1) o from fun w' m => by
          have hA4 := blk_mod ((HG24.out.heapEq hAl2).trans HA2.out) (Mod.of_grow (F := S) hd4) hSA
          refine ⟨(blk_cell (blk_mod hA4 m hSA) 0).trans rfl, CatAt.at (c := typesC) ?_, opC ?_⟩
          · exact blk_mod ((HG24.out.heapEq (by omega)).trans (HCA.out.grow HG12.out)) ((Mod.of_grow (F := S) hd4).step m) (fun hb => by have := hSlt _ hb; omega)
          · exact blk_mod ((HG24.out.heapEq (by omega)).trans (HOA.out.grow HG12.out)) ((Mod.of_grow (F := S) hd4).step m) (fun hb => by have := hSlt _ hb; omega))
        have HSD := Lib.hid (HSK.out _ (Mod.rfl' S _))
        clear hd4 hSlt
        go_wp2
        go_region_held3 (fun w' => w'.cell? ⟨A, 0, none⟩ = some (capU B) ∧ CatC5 w' w.heap.size (.slice na typesC.nodes.length nc) (.slice ea typesC.edges.length ec) (.slice ra typesC.rules.length rc) (.slice ia typesC.indexes.length ic) typesC.nextRule ∧ OpC w' (w.heap.size + 1) o) (first | exact HSD.out | exact HSK.out _ hm6) (first | (go_at_call 37; refine HDO.out.mono ?_; rintro e w6 ⟨rfl, hok6, hm6⟩))
        have HOK6 := Lib.hid hok6; have HM6 := Lib.hid hm6
        have HO6 := Lib.hid (HSK.out _ hm6).2.2
        have k6 := (HSK.out _ hm6).2.2.2.1
        have hl6 := (HSK.out _ hm6).2.2.1
        have M46 := Lib.hid (show Mod S w4 w6 from (Mod.of_grow HD4.out).step hm6)
        rename_i hold2
        clear hold2 hok6 hm6
        obtain ⟨iC, hiC, hzC0, hzC1, hzC2⟩ := info_parts infoChg
        have hx6 : w6.heap[xb]? = _ := blk_mod HXB.out M46.out (fun hb => by have := HSL.out _ hb; omega)
        have HX6 := Lib.hid hx6
        have x1 : w6.cell? ⟨xb, 1, none⟩ = some (.int .i64 o.id) := (blk_cell hx6 1).trans rfl
        have xf := blk_free hx6 1
        have xl := blk_lt hx6
        have HBV6 := Lib.hid (HBV.out.mod M46.out (fun b hb hh => by have := HSL.out b hh; omega))
        have HM06 := Lib.hid (show Mod S w w6 from (Mod.of_grow HG4.out).step M46.out)
        have hs46 : w4.heap.size ≤ w6.heap.size := M46.out.size
        obtain ⟨oo, hoo⟩ : ∃ oo, oo = opId o T.g := ⟨_, rfl⟩
        have HOO := Lib.hid hoo
        clear hx6 hoo
        cases e1 : (o.kind == 1)
        · cases e2 : (o.kind == 3)
          · have ho : opId o T.g = o := by unfold opId; rw [if_neg (by simp at e1 e2; omega)]
            have HX7 := Lib.hid (show w6.heap[xb]? = some (.cells #[.int .i64 oo.kind, .int .i64 oo.id, .string oo.typ, .int .i64 oo.from_, .int .i64 oo.to_, .string oo.name, .int .i64 oo.v.kind, .int .i64 oo.v.n, .string oo.v.s, .bool oo.cascade, .func (.func f) #[] caps] 78 (0, 0)) by rw [HOO.out, ho]; exact HX6.out)
            have HBV7 := Lib.hid HBV6.out
            have HOK7 := Lib.hid HOK6.out
            have HM07 := Lib.hid HM06.out
            clear ho x1 xf
            go_wp2
            generalize w6 = w7 at *
            obtain ⟨lv, mv, q1, q2, -⟩ := id HAT.out
            have hlv : lv = .slice la T.l.length lc := by
              have h1 := HA.out
              rw [q1] at h1
              simp at h1
              exact h1.1
            subst hlv
            have HL7 := Lib.hid (HAT.out.lAt q2 HM07.out)
            have hb7 := blk_mod HA.out HM07.out hSA
            have HA7 := Lib.hid hb7
            have y1 : w7.cell? ⟨A, 1, none⟩ = some (.slice la T.l.length lc) := (blk_cell hb7 1).trans rfl
            have hAl7 := blk_lt hb7
            clear q1 q2 hb7
            obtain ⟨rows, r1, rlen, r2, r3⟩ := HL7.out.rowLen
            have R1 := Lib.hid r1; have R2 := Lib.hid r2
            have gd : ∀ o1, Grow w7 (w7.drew.alloc o1) := fun o1 => ((Grow.rfl' w7).drewd).allocd o1
            have R3 := Lib.hid (show ∀ o1, OwnS (w7.drew.alloc o1) 78 11 (.slice la T.l.length lc) T.l.length rows.flatten ol from fun o1 => r3.grow (gd o1))
            have hAne : ol ≠ some A := by
              obtain ⟨_, _, _, _, _, _, _, _, h, _⟩ := HAT.out
              exact fun e => (h A e).2.1 rfl
            have holx : ol ≠ some xb := by
              obtain ⟨_, _, _, h, _⟩ := HAT.out
              exact fun e => by have := h.lt _ e; omega
            have HSX := Lib.hid (show ∀ w', w'.heap[A]? = w7.heap[A]? → w'.heap[xb]? = w7.heap[xb]? → w'.cell? ⟨A, 1, none⟩ = some (.slice la T.l.length lc) ∧ ChgC w' xb oo (.func (.func f) #[] caps) from fun w' h1 h2 =>
              ⟨(blk_cell (h1.trans HA7.out) 1).trans rfl, chgC (h2.trans HX7.out)⟩)
            have xl7 := blk_lt HX7.out
            have HSX0 := Lib.hid (HSX.out w7.drew rfl rfl)
            have HSX1 := Lib.hid (show ∀ o1, w7.heap.size = w7.heap.size → _ from fun o1 _ => HSX.out (w7.drew.alloc o1) ((gd o1).heapEq hAl7) ((gd o1).heapEq xl7))
            have HSX2 := Lib.hid (show ∀ o1 w8, Mod (fun k => ol = some k) (w7.drew.alloc o1) w8 → w8.heap[A]? = w7.heap[A]? ∧ w8.heap[xb]? = w7.heap[xb]? from fun o1 w8 m => ⟨(m.block A (Nat.lt_of_lt_of_le hAl7 (gd o1).size) hAne).trans ((gd o1).heapEq hAl7), (m.block xb (Nat.lt_of_lt_of_le xl7 (gd o1).size) holx).trans ((gd o1).heapEq xl7)⟩)
            have HRD := Lib.hid (Rd.lit w7.drew #[.int .i64 oo.kind, .int .i64 oo.id, .string oo.typ, .int .i64 oo.from_, .int .i64 oo.to_, .string oo.name, .int .i64 oo.v.kind, .int .i64 oo.v.n, .string oo.v.s, .bool oo.cascade, .func (.func f) #[] caps] 78 11 1 rfl)
            clear r1 rlen r2 r3 gd hAne holx
            refine wp_region_noPanic ?_
            refine wp_region_Z (S := (fun w' => w'.cell? ⟨A, 1, none⟩ = some (.slice la T.l.length lc) ∧ ChgC w' xb oo (.func (.func f) #[] caps))) (z := 10) (by kernel_rfl) ?_ (fun hHeld => ?_)
            · exact HSX0.out
            refine' wpAnyZ_take (i := 0) (oi := ?o101) (v := _) (by kernel_rfl) (by simp only [List.getElem?_toArray, List.getElem?_cons_zero]; rfl) (by kernel_rfl) (by kernel_rfl) (by kernel_rfl) (fun _ _ _ h => h) (Or.inl ⟨by rfl, ?y101⟩) (by assumption) ?r101
            case y101 =>
              intro wS hSw
              try dsimp only at hSw
              go_simp
              all_goals with_reducible rfl
            simp only [Act.put, List.setIfInBounds_toArray, List.set_cons_zero, List.set_cons_succ]
            refine' wpAnyZ_take (i := 1) (oi := ?o102) (v := _) (by kernel_rfl) (by simp only [List.getElem?_toArray, List.getElem?_cons_succ, List.getElem?_cons_zero]; rfl) (by kernel_rfl) (by kernel_rfl) (by kernel_rfl) (fun _ _ _ h => h) (Or.inl ⟨by rfl, ?y102⟩) (by assumption) ?r102
            case y102 =>
              intro wS hSw
              try dsimp only at hSw
              go_simp
              all_goals with_reducible rfl
            simp only [Act.put, List.setIfInBounds_toArray, List.set_cons_zero, List.set_cons_succ]
            refine' wpAnyZ_take (i := 2) (oi := ?o103) (v := _) (by kernel_rfl) (by simp only [List.getElem?_toArray, List.getElem?_cons_succ, List.getElem?_cons_zero]; rfl) (by kernel_rfl) (by kernel_rfl) (by kernel_rfl) (fun _ _ _ h => h) (Or.inl ⟨by rfl, ?y103⟩) (by assumption) ?r103
            case y103 =>
              intro wS hSw
              try dsimp only at hSw
              go_simp
              all_goals with_reducible rfl
            simp only [Act.put, List.setIfInBounds_toArray, List.set_cons_zero, List.set_cons_succ]
            refine' wpAnyZ_take (i := 3) (oi := ?o104) (v := _) (by kernel_rfl) (by simp only [List.getElem?_toArray, List.getElem?_cons_succ, List.getElem?_cons_zero]; rfl) (by kernel_rfl) (by kernel_rfl) (by kernel_rfl) (fun _ _ _ h => h) (Or.inl ⟨by rfl, ?y104⟩) (by assumption) ?r104
            case y104 =>
              intro wS hSw
              try dsimp only at hSw
              go_simp
              all_goals with_reducible rfl
            simp only [Act.put, List.setIfInBounds_toArray, List.set_cons_zero, List.set_cons_succ]
            refine' wpAnyZ_take (i := 4) (oi := ?o105) (v := _) (by kernel_rfl) (by simp only [List.getElem?_toArray, List.getElem?_cons_succ, List.getElem?_cons_zero]; rfl) (by kernel_rfl) (by kernel_rfl) (by kernel_rfl) (fun _ _ _ h => h) (Or.inl ⟨by rfl, ?y105⟩) (by assumption) ?r105
            case y105 =>
              intro wS hSw
              try dsimp only at hSw
              go_simp
              all_goals with_reducible rfl
            simp only [Act.put, List.setIfInBounds_toArray, List.set_cons_zero, List.set_cons_succ]
            refine' wpAnyZ_take (i := 5) (oi := ?o106) (v := _) (by kernel_rfl) (by simp only [List.getElem?_toArray, List.getElem?_cons_succ, List.getElem?_cons_zero]; rfl) (by kernel_rfl) (by kernel_rfl) (by kernel_rfl) (fun _ _ _ h => h) (Or.inl ⟨by rfl, ?y106⟩) (by assumption) ?r106
            case y106 =>
              intro wS hSw
              try dsimp only at hSw
              go_simp
              all_goals with_reducible rfl
            simp only [Act.put, List.setIfInBounds_toArray, List.set_cons_zero, List.set_cons_succ]
            refine wpAnyZ_ready (rs := [6]) (by kernel_rfl) (by simp) ?_
            refine' AllZ.cons (o := ?o107) (by simp only [List.getElem?_toArray, List.getElem?_cons_succ, List.getElem?_cons_zero]; rfl) (fun K hK => ?s107) ?m107
            case m107 => exact AllZ.nil
            go_simp
            refine hK.out _ _ ?_ (fun hHeld => ?_)
            · exact HSX1.out _ rfl
            clear hK K
            try simp only [Act.put, List.setIfInBounds_toArray, List.set_cons_zero, List.set_cons_succ]
            refine wpAnyZ_ready (rs := [7]) (by kernel_rfl) (by simp) ?_
            refine' AllZ.cons (o := ?o108) (by simp only [List.getElem?_toArray, List.getElem?_cons_succ, List.getElem?_cons_zero]; rfl) (fun K hK => ?s108) ?m108
            case m108 => exact AllZ.nil
            (refine step_append_S rfl (.tmp 63) (.tmp 65) 71 rfl 78 iC _ 11 112 Tryz.underlying71 hiC hzC0 hzC1 hzC2 rfl (by decide) (.slice la T.l.length lc) T.l.length rows.flatten ol (by simp [Act.eval]) (R3.out _) (.slice (some ⟨w7.heap.size, 0, none⟩) 1 1) (by simp [Act.eval]) 1 _ HRD.out (by intro u hu; simp only [List.mem_cons, List.not_mem_nil, or_false] at hu; rcases hu with rfl | rfl | rfl | rfl | rfl | rfl | rfl | rfl | rfl | rfl | rfl <;> rfl) (by unfold maxLen; omega) (by omega) ?_; intro v8 w8 ol8 k1 k2 k3 k4; obtain ⟨oa8, oc8, rfl, -, -⟩ := k1.isSlice; have K1 := Lib.hid k1; have K2 := Lib.hid k2; have K3 := Lib.hid k3; have HSX3 := Lib.hid (HSX.out w8 (HSX2.out _ _ k2).1 (HSX2.out _ _ k2).2); have hb8 := (HSX2.out _ _ k2).1.trans HA7.out; have y8 : w8.cell? ⟨A, 1, none⟩ = some (.slice la T.l.length lc) := (blk_cell hb8 1).trans rfl; have y8f := blk_free hb8 1; have y8l := blk_lt hb8; clear k1 k2 k3 k4 hb8)
            refine hK.out _ _ ?_ (fun hHeld => ?_)
            · exact HSX3.out
            clear hK K
            try simp only [Act.put, List.setIfInBounds_toArray, List.set_cons_zero, List.set_cons_succ]
            refine wpAnyZ_ready (rs := [8]) (by kernel_rfl) (by simp) ?_
            refine' AllZ.cons (o := ?o109) (by simp only [List.getElem?_toArray, List.getElem?_cons_succ, List.getElem?_cons_zero]; rfl) (fun K hK => ?s109) ?m109
            case m109 => exact AllZ.nil
            go_simp
            refine hK.out _ _ ?_ (fun hHeld => ?_)
            · exact HSX3.out
            clear hK K
            try simp only [Act.put, List.setIfInBounds_toArray, List.set_cons_zero, List.set_cons_succ]
            refine wpAnyZ_ready (rs := [9]) (by kernel_rfl) (by simp) ?_
            refine' AllZ.cons (o := ?o110) (by simp only [List.getElem?_toArray, List.getElem?_cons_succ, List.getElem?_cons_zero]; rfl) (fun K hK => ?s110) ?m110
            case m110 => exact AllZ.nil
            go_simp
            refine hK.out _ _ ?_ (fun hHeld => ?_)
            · exact HSX3.out
            clear hK K
            try simp only [Act.put, List.setIfInBounds_toArray, List.set_cons_zero, List.set_cons_succ]
            refine wpAnyZ_ready (rs := [10]) (by kernel_rfl) (by simp) ?_
            refine' AllZ.last (o := ?o111) (by simp only [List.getElem?_toArray, List.getElem?_cons_succ, List.getElem?_cons_zero]; rfl) (fun K hK => ?s111)
            go_simp
            refine hK.out _ _ ?_
            clear hK K
            try simp only [Act.put, List.setIfInBounds_toArray, List.set_cons_zero, List.set_cons_succ]
            refine wpAnyZ_done (by kernel_rfl) ?_ _
            refine NoPanic.normal ?_
            go_wp2
            go_ret2
            have e : doT T o = ((idG o T.g, 0), ⟨doG o T.g, T.l ++ [(opId o T.g, T.g)], T.marks⟩) := by unfold doT; rw [if_neg (by rw [HM.out]; simp), if_neg h64]
            obtain ⟨f1, f2⟩ := doFin (w2 := w2) (w4 := w4) (xb := xb) (fv := .func (.func f) #[] caps) HAT.out (by omega) hs24 hs46 HM07.out HOK7.out HBV7.out _ R1.out R2.out K2.out K3.out (by rw [← HOO.out]; exact K1.out) P1.out P2.out P3.out P4.out P5.out
            exact ⟨by rw [e]; rfl, by rw [e]; exact f1, f2⟩
          · have ho : opId o T.g = { o with id := T.g.next } := by unfold opId; rw [if_pos (.inr (by simpa using e2))]
            have hid : idG o T.g = T.g.next := by unfold idG; rw [if_pos (.inr (by simpa using e2))]
            have m7 : Mod (fun b => b = xb) w6 (w6.setCell ⟨xb, 1, none⟩ (.int .i64 (idG o T.g))) := (Mod.rfl' (fun b => b = xb) w6).setd (p := ⟨xb, 1, none⟩) (.inl rfl) _
            have HX7 := Lib.hid (show (w6.setCell ⟨xb, 1, none⟩ (.int .i64 (idG o T.g))).heap[xb]? = some (.cells #[.int .i64 oo.kind, .int .i64 oo.id, .string oo.typ, .int .i64 oo.from_, .int .i64 oo.to_, .string oo.name, .int .i64 oo.v.kind, .int .i64 oo.v.n, .string oo.v.s, .bool oo.cascade, .func (.func f) #[] caps] 78 (0, 0)) by
              rw [HOO.out, ho, hid]
              exact heap_setCell_same w6 xb 1 _ _ _ HX6.out)
            have HBV7 := Lib.hid (HBV6.out.mod m7 (fun b hb hh => hb.1.2 hh))
            have HOK7 := Lib.hid (show GraphOk 101 (fun b => S b ∨ w4.heap.size ≤ b) (w6.setCell ⟨xb, 1, none⟩ (.int .i64 (idG o T.g))) B (doG o T.g) from
              HOK6.out.keep m7 (fun b hb hh => by
                have h4 := blk_lt HXB.out
                rcases hb with h | h
                · have := HSL.out b h; omega
                · omega))
            have HM07 := Lib.hid (HM06.out.step' m7 (fun b hb => .inr (by omega)))
            have hs7 := m7.size
            clear ho hid m7
            go_wp2
            generalize w6.setCell ⟨xb, 1, none⟩ (.int .i64 (idG o T.g)) = w7 at *
            have hs46 : w4.heap.size ≤ w7.heap.size := by omega
            clear hs7 x1 xf
            obtain ⟨lv, mv, q1, q2, -⟩ := id HAT.out
            have hlv : lv = .slice la T.l.length lc := by
              have h1 := HA.out
              rw [q1] at h1
              simp at h1
              exact h1.1
            subst hlv
            have HL7 := Lib.hid (HAT.out.lAt q2 HM07.out)
            have hb7 := blk_mod HA.out HM07.out hSA
            have HA7 := Lib.hid hb7
            have y1 : w7.cell? ⟨A, 1, none⟩ = some (.slice la T.l.length lc) := (blk_cell hb7 1).trans rfl
            have hAl7 := blk_lt hb7
            clear q1 q2 hb7
            obtain ⟨rows, r1, rlen, r2, r3⟩ := HL7.out.rowLen
            have R1 := Lib.hid r1; have R2 := Lib.hid r2
            have gd : ∀ o1, Grow w7 (w7.drew.alloc o1) := fun o1 => ((Grow.rfl' w7).drewd).allocd o1
            have R3 := Lib.hid (show ∀ o1, OwnS (w7.drew.alloc o1) 78 11 (.slice la T.l.length lc) T.l.length rows.flatten ol from fun o1 => r3.grow (gd o1))
            have hAne : ol ≠ some A := by
              obtain ⟨_, _, _, _, _, _, _, _, h, _⟩ := HAT.out
              exact fun e => (h A e).2.1 rfl
            have holx : ol ≠ some xb := by
              obtain ⟨_, _, _, h, _⟩ := HAT.out
              exact fun e => by have := h.lt _ e; omega
            have HSX := Lib.hid (show ∀ w', w'.heap[A]? = w7.heap[A]? → w'.heap[xb]? = w7.heap[xb]? → w'.cell? ⟨A, 1, none⟩ = some (.slice la T.l.length lc) ∧ ChgC w' xb oo (.func (.func f) #[] caps) from fun w' h1 h2 =>
              ⟨(blk_cell (h1.trans HA7.out) 1).trans rfl, chgC (h2.trans HX7.out)⟩)
            have xl7 := blk_lt HX7.out
            have HSX0 := Lib.hid (HSX.out w7.drew rfl rfl)
            have HSX1 := Lib.hid (show ∀ o1, w7.heap.size = w7.heap.size → _ from fun o1 _ => HSX.out (w7.drew.alloc o1) ((gd o1).heapEq hAl7) ((gd o1).heapEq xl7))
            have HSX2 := Lib.hid (show ∀ o1 w8, Mod (fun k => ol = some k) (w7.drew.alloc o1) w8 → w8.heap[A]? = w7.heap[A]? ∧ w8.heap[xb]? = w7.heap[xb]? from fun o1 w8 m => ⟨(m.block A (Nat.lt_of_lt_of_le hAl7 (gd o1).size) hAne).trans ((gd o1).heapEq hAl7), (m.block xb (Nat.lt_of_lt_of_le xl7 (gd o1).size) holx).trans ((gd o1).heapEq xl7)⟩)
            have HRD := Lib.hid (Rd.lit w7.drew #[.int .i64 oo.kind, .int .i64 oo.id, .string oo.typ, .int .i64 oo.from_, .int .i64 oo.to_, .string oo.name, .int .i64 oo.v.kind, .int .i64 oo.v.n, .string oo.v.s, .bool oo.cascade, .func (.func f) #[] caps] 78 11 1 rfl)
            clear r1 rlen r2 r3 gd hAne holx
            refine wp_region_noPanic ?_
            refine wp_region_Z (S := (fun w' => w'.cell? ⟨A, 1, none⟩ = some (.slice la T.l.length lc) ∧ ChgC w' xb oo (.func (.func f) #[] caps))) (z := 10) (by kernel_rfl) ?_ (fun hHeld => ?_)
            · exact HSX0.out
            refine' wpAnyZ_take (i := 0) (oi := ?o112) (v := _) (by kernel_rfl) (by simp only [List.getElem?_toArray, List.getElem?_cons_zero]; rfl) (by kernel_rfl) (by kernel_rfl) (by kernel_rfl) (fun _ _ _ h => h) (Or.inl ⟨by rfl, ?y112⟩) (by assumption) ?r112
            case y112 =>
              intro wS hSw
              try dsimp only at hSw
              go_simp
              all_goals with_reducible rfl
            simp only [Act.put, List.setIfInBounds_toArray, List.set_cons_zero, List.set_cons_succ]
            refine' wpAnyZ_take (i := 1) (oi := ?o113) (v := _) (by kernel_rfl) (by simp only [List.getElem?_toArray, List.getElem?_cons_succ, List.getElem?_cons_zero]; rfl) (by kernel_rfl) (by kernel_rfl) (by kernel_rfl) (fun _ _ _ h => h) (Or.inl ⟨by rfl, ?y113⟩) (by assumption) ?r113
            case y113 =>
              intro wS hSw
              try dsimp only at hSw
              go_simp
              all_goals with_reducible rfl
            simp only [Act.put, List.setIfInBounds_toArray, List.set_cons_zero, List.set_cons_succ]
            refine' wpAnyZ_take (i := 2) (oi := ?o114) (v := _) (by kernel_rfl) (by simp only [List.getElem?_toArray, List.getElem?_cons_succ, List.getElem?_cons_zero]; rfl) (by kernel_rfl) (by kernel_rfl) (by kernel_rfl) (fun _ _ _ h => h) (Or.inl ⟨by rfl, ?y114⟩) (by assumption) ?r114
            case y114 =>
              intro wS hSw
              try dsimp only at hSw
              go_simp
              all_goals with_reducible rfl
            simp only [Act.put, List.setIfInBounds_toArray, List.set_cons_zero, List.set_cons_succ]
            refine' wpAnyZ_take (i := 3) (oi := ?o115) (v := _) (by kernel_rfl) (by simp only [List.getElem?_toArray, List.getElem?_cons_succ, List.getElem?_cons_zero]; rfl) (by kernel_rfl) (by kernel_rfl) (by kernel_rfl) (fun _ _ _ h => h) (Or.inl ⟨by rfl, ?y115⟩) (by assumption) ?r115
            case y115 =>
              intro wS hSw
              try dsimp only at hSw
              go_simp
              all_goals with_reducible rfl
            simp only [Act.put, List.setIfInBounds_toArray, List.set_cons_zero, List.set_cons_succ]
            refine' wpAnyZ_take (i := 4) (oi := ?o116) (v := _) (by kernel_rfl) (by simp only [List.getElem?_toArray, List.getElem?_cons_succ, List.getElem?_cons_zero]; rfl) (by kernel_rfl) (by kernel_rfl) (by kernel_rfl) (fun _ _ _ h => h) (Or.inl ⟨by rfl, ?y116⟩) (by assumption) ?r116
            case y116 =>
              intro wS hSw
              try dsimp only at hSw
              go_simp
              all_goals with_reducible rfl
            simp only [Act.put, List.setIfInBounds_toArray, List.set_cons_zero, List.set_cons_succ]
            refine' wpAnyZ_take (i := 5) (oi := ?o117) (v := _) (by kernel_rfl) (by simp only [List.getElem?_toArray, List.getElem?_cons_succ, List.getElem?_cons_zero]; rfl) (by kernel_rfl) (by kernel_rfl) (by kernel_rfl) (fun _ _ _ h => h) (Or.inl ⟨by rfl, ?y117⟩) (by assumption) ?r117
            case y117 =>
              intro wS hSw
              try dsimp only at hSw
              go_simp
              all_goals with_reducible rfl
            simp only [Act.put, List.setIfInBounds_toArray, List.set_cons_zero, List.set_cons_succ]
            refine wpAnyZ_ready (rs := [6]) (by kernel_rfl) (by simp) ?_
            refine' AllZ.cons (o := ?o118) (by simp only [List.getElem?_toArray, List.getElem?_cons_succ, List.getElem?_cons_zero]; rfl) (fun K hK => ?s118) ?m118
            case m118 => exact AllZ.nil
            go_simp
            refine hK.out _ _ ?_ (fun hHeld => ?_)
            · exact HSX1.out _ rfl
            clear hK K
            try simp only [Act.put, List.setIfInBounds_toArray, List.set_cons_zero, List.set_cons_succ]
            refine wpAnyZ_ready (rs := [7]) (by kernel_rfl) (by simp) ?_
            refine' AllZ.cons (o := ?o119) (by simp only [List.getElem?_toArray, List.getElem?_cons_succ, List.getElem?_cons_zero]; rfl) (fun K hK => ?s119) ?m119
            case m119 => exact AllZ.nil
            (refine step_append_S rfl (.tmp 63) (.tmp 65) 71 rfl 78 iC _ 11 112 Tryz.underlying71 hiC hzC0 hzC1 hzC2 rfl (by decide) (.slice la T.l.length lc) T.l.length rows.flatten ol (by simp [Act.eval]) (R3.out _) (.slice (some ⟨w7.heap.size, 0, none⟩) 1 1) (by simp [Act.eval]) 1 _ HRD.out (by intro u hu; simp only [List.mem_cons, List.not_mem_nil, or_false] at hu; rcases hu with rfl | rfl | rfl | rfl | rfl | rfl | rfl | rfl | rfl | rfl | rfl <;> rfl) (by unfold maxLen; omega) (by omega) ?_; intro v8 w8 ol8 k1 k2 k3 k4; obtain ⟨oa8, oc8, rfl, -, -⟩ := k1.isSlice; have K1 := Lib.hid k1; have K2 := Lib.hid k2; have K3 := Lib.hid k3; have HSX3 := Lib.hid (HSX.out w8 (HSX2.out _ _ k2).1 (HSX2.out _ _ k2).2); have hb8 := (HSX2.out _ _ k2).1.trans HA7.out; have y8 : w8.cell? ⟨A, 1, none⟩ = some (.slice la T.l.length lc) := (blk_cell hb8 1).trans rfl; have y8f := blk_free hb8 1; have y8l := blk_lt hb8; clear k1 k2 k3 k4 hb8)
            refine hK.out _ _ ?_ (fun hHeld => ?_)
            · exact HSX3.out
            clear hK K
            try simp only [Act.put, List.setIfInBounds_toArray, List.set_cons_zero, List.set_cons_succ]
            refine wpAnyZ_ready (rs := [8]) (by kernel_rfl) (by simp) ?_
            refine' AllZ.cons (o := ?o120) (by simp only [List.getElem?_toArray, List.getElem?_cons_succ, List.getElem?_cons_zero]; rfl) (fun K hK => ?s120) ?m120
            case m120 => exact AllZ.nil
            go_simp
            refine hK.out _ _ ?_ (fun hHeld => ?_)
            · exact HSX3.out
            clear hK K
            try simp only [Act.put, List.setIfInBounds_toArray, List.set_cons_zero, List.set_cons_succ]
            refine wpAnyZ_ready (rs := [9]) (by kernel_rfl) (by simp) ?_
            refine' AllZ.cons (o := ?o121) (by simp only [List.getElem?_toArray, List.getElem?_cons_succ, List.getElem?_cons_zero]; rfl) (fun K hK => ?s121) ?m121
            case m121 => exact AllZ.nil
            go_simp
            refine hK.out _ _ ?_ (fun hHeld => ?_)
            · exact HSX3.out
            clear hK K
            try simp only [Act.put, List.setIfInBounds_toArray, List.set_cons_zero, List.set_cons_succ]
            refine wpAnyZ_ready (rs := [10]) (by kernel_rfl) (by simp) ?_
            refine' AllZ.last (o := ?o122) (by simp only [List.getElem?_toArray, List.getElem?_cons_succ, List.getElem?_cons_zero]; rfl) (fun K hK => ?s122)
            go_simp
            refine hK.out _ _ ?_
            clear hK K
            try simp only [Act.put, List.setIfInBounds_toArray, List.set_cons_zero, List.set_cons_succ]
            refine wpAnyZ_done (by kernel_rfl) ?_ _
            refine NoPanic.normal ?_
            go_wp2
            go_ret2
            have e : doT T o = ((idG o T.g, 0), ⟨doG o T.g, T.l ++ [(opId o T.g, T.g)], T.marks⟩) := by unfold doT; rw [if_neg (by rw [HM.out]; simp), if_neg h64]
            obtain ⟨f1, f2⟩ := doFin (w2 := w2) (w4 := w4) (xb := xb) (fv := .func (.func f) #[] caps) HAT.out (by omega) hs24 hs46 HM07.out HOK7.out HBV7.out _ R1.out R2.out K2.out K3.out (by rw [← HOO.out]; exact K1.out) P1.out P2.out P3.out P4.out P5.out
            exact ⟨by rw [e]; rfl, by rw [e]; exact f1, f2⟩
        · have ho : opId o T.g = { o with id := T.g.next } := by unfold opId; rw [if_pos (.inl (by simpa using e1))]
          have hid : idG o T.g = T.g.next := by unfold idG; rw [if_pos (.inl (by simpa using e1))]
          have m7 : Mod (fun b => b = xb) w6 (w6.setCell ⟨xb, 1, none⟩ (.int .i64 (idG o T.g))) := (Mod.rfl' (fun b => b = xb) w6).setd (p := ⟨xb, 1, none⟩) (.inl rfl) _
          have HX7 := Lib.hid (show (w6.setCell ⟨xb, 1, none⟩ (.int .i64 (idG o T.g))).heap[xb]? = some (.cells #[.int .i64 oo.kind, .int .i64 oo.id, .string oo.typ, .int .i64 oo.from_, .int .i64 oo.to_, .string oo.name, .int .i64 oo.v.kind, .int .i64 oo.v.n, .string oo.v.s, .bool oo.cascade, .func (.func f) #[] caps] 78 (0, 0)) by
            rw [HOO.out, ho, hid]
            exact heap_setCell_same w6 xb 1 _ _ _ HX6.out)
          have HBV7 := Lib.hid (HBV6.out.mod m7 (fun b hb hh => hb.1.2 hh))
          have HOK7 := Lib.hid (show GraphOk 101 (fun b => S b ∨ w4.heap.size ≤ b) (w6.setCell ⟨xb, 1, none⟩ (.int .i64 (idG o T.g))) B (doG o T.g) from
            HOK6.out.keep m7 (fun b hb hh => by
              have h4 := blk_lt HXB.out
              rcases hb with h | h
              · have := HSL.out b h; omega
              · omega))
          have HM07 := Lib.hid (HM06.out.step' m7 (fun b hb => .inr (by omega)))
          have hs7 := m7.size
          clear ho hid m7
          go_wp2
          generalize w6.setCell ⟨xb, 1, none⟩ (.int .i64 (idG o T.g)) = w7 at *
          have hs46 : w4.heap.size ≤ w7.heap.size := by omega
          clear hs7 x1 xf
          obtain ⟨lv, mv, q1, q2, -⟩ := id HAT.out
          have hlv : lv = .slice la T.l.length lc := by
            have h1 := HA.out
            rw [q1] at h1
            simp at h1
            exact h1.1
          subst hlv
          have HL7 := Lib.hid (HAT.out.lAt q2 HM07.out)
          have hb7 := blk_mod HA.out HM07.out hSA
          have HA7 := Lib.hid hb7
          have y1 : w7.cell? ⟨A, 1, none⟩ = some (.slice la T.l.length lc) := (blk_cell hb7 1).trans rfl
          have hAl7 := blk_lt hb7
          clear q1 q2 hb7
          obtain ⟨rows, r1, rlen, r2, r3⟩ := HL7.out.rowLen
          have R1 := Lib.hid r1; have R2 := Lib.hid r2
          have gd : ∀ o1, Grow w7 (w7.drew.alloc o1) := fun o1 => ((Grow.rfl' w7).drewd).allocd o1
          have R3 := Lib.hid (show ∀ o1, OwnS (w7.drew.alloc o1) 78 11 (.slice la T.l.length lc) T.l.length rows.flatten ol from fun o1 => r3.grow (gd o1))
          have hAne : ol ≠ some A := by
            obtain ⟨_, _, _, _, _, _, _, _, h, _⟩ := HAT.out
            exact fun e => (h A e).2.1 rfl
          have holx : ol ≠ some xb := by
            obtain ⟨_, _, _, h, _⟩ := HAT.out
            exact fun e => by have := h.lt _ e; omega
          have HSX := Lib.hid (show ∀ w', w'.heap[A]? = w7.heap[A]? → w'.heap[xb]? = w7.heap[xb]? → w'.cell? ⟨A, 1, none⟩ = some (.slice la T.l.length lc) ∧ ChgC w' xb oo (.func (.func f) #[] caps) from fun w' h1 h2 =>
            ⟨(blk_cell (h1.trans HA7.out) 1).trans rfl, chgC (h2.trans HX7.out)⟩)
          have xl7 := blk_lt HX7.out
          have HSX0 := Lib.hid (HSX.out w7.drew rfl rfl)
          have HSX1 := Lib.hid (show ∀ o1, w7.heap.size = w7.heap.size → _ from fun o1 _ => HSX.out (w7.drew.alloc o1) ((gd o1).heapEq hAl7) ((gd o1).heapEq xl7))
          have HSX2 := Lib.hid (show ∀ o1 w8, Mod (fun k => ol = some k) (w7.drew.alloc o1) w8 → w8.heap[A]? = w7.heap[A]? ∧ w8.heap[xb]? = w7.heap[xb]? from fun o1 w8 m => ⟨(m.block A (Nat.lt_of_lt_of_le hAl7 (gd o1).size) hAne).trans ((gd o1).heapEq hAl7), (m.block xb (Nat.lt_of_lt_of_le xl7 (gd o1).size) holx).trans ((gd o1).heapEq xl7)⟩)
          have HRD := Lib.hid (Rd.lit w7.drew #[.int .i64 oo.kind, .int .i64 oo.id, .string oo.typ, .int .i64 oo.from_, .int .i64 oo.to_, .string oo.name, .int .i64 oo.v.kind, .int .i64 oo.v.n, .string oo.v.s, .bool oo.cascade, .func (.func f) #[] caps] 78 11 1 rfl)
          clear r1 rlen r2 r3 gd hAne holx
          refine wp_region_noPanic ?_
          refine wp_region_Z (S := (fun w' => w'.cell? ⟨A, 1, none⟩ = some (.slice la T.l.length lc) ∧ ChgC w' xb oo (.func (.func f) #[] caps))) (z := 10) (by kernel_rfl) ?_ (fun hHeld => ?_)
          · exact HSX0.out
          refine' wpAnyZ_take (i := 0) (oi := ?o123) (v := _) (by kernel_rfl) (by simp only [List.getElem?_toArray, List.getElem?_cons_zero]; rfl) (by kernel_rfl) (by kernel_rfl) (by kernel_rfl) (fun _ _ _ h => h) (Or.inl ⟨by rfl, ?y123⟩) (by assumption) ?r123
          case y123 =>
            intro wS hSw
            try dsimp only at hSw
            go_simp
            all_goals with_reducible rfl
          simp only [Act.put, List.setIfInBounds_toArray, List.set_cons_zero, List.set_cons_succ]
          refine' wpAnyZ_take (i := 1) (oi := ?o124) (v := _) (by kernel_rfl) (by simp only [List.getElem?_toArray, List.getElem?_cons_succ, List.getElem?_cons_zero]; rfl) (by kernel_rfl) (by kernel_rfl) (by kernel_rfl) (fun _ _ _ h => h) (Or.inl ⟨by rfl, ?y124⟩) (by assumption) ?r124
          case y124 =>
            intro wS hSw
            try dsimp only at hSw
            go_simp
            all_goals with_reducible rfl
          simp only [Act.put, List.setIfInBounds_toArray, List.set_cons_zero, List.set_cons_succ]
          refine' wpAnyZ_take (i := 2) (oi := ?o125) (v := _) (by kernel_rfl) (by simp only [List.getElem?_toArray, List.getElem?_cons_succ, List.getElem?_cons_zero]; rfl) (by kernel_rfl) (by kernel_rfl) (by kernel_rfl) (fun _ _ _ h => h) (Or.inl ⟨by rfl, ?y125⟩) (by assumption) ?r125
          case y125 =>
            intro wS hSw
            try dsimp only at hSw
            go_simp
            all_goals with_reducible rfl
          simp only [Act.put, List.setIfInBounds_toArray, List.set_cons_zero, List.set_cons_succ]
          refine' wpAnyZ_take (i := 3) (oi := ?o126) (v := _) (by kernel_rfl) (by simp only [List.getElem?_toArray, List.getElem?_cons_succ, List.getElem?_cons_zero]; rfl) (by kernel_rfl) (by kernel_rfl) (by kernel_rfl) (fun _ _ _ h => h) (Or.inl ⟨by rfl, ?y126⟩) (by assumption) ?r126
          case y126 =>
            intro wS hSw
            try dsimp only at hSw
            go_simp
            all_goals with_reducible rfl
          simp only [Act.put, List.setIfInBounds_toArray, List.set_cons_zero, List.set_cons_succ]
          refine' wpAnyZ_take (i := 4) (oi := ?o127) (v := _) (by kernel_rfl) (by simp only [List.getElem?_toArray, List.getElem?_cons_succ, List.getElem?_cons_zero]; rfl) (by kernel_rfl) (by kernel_rfl) (by kernel_rfl) (fun _ _ _ h => h) (Or.inl ⟨by rfl, ?y127⟩) (by assumption) ?r127
          case y127 =>
            intro wS hSw
            try dsimp only at hSw
            go_simp
            all_goals with_reducible rfl
          simp only [Act.put, List.setIfInBounds_toArray, List.set_cons_zero, List.set_cons_succ]
          refine' wpAnyZ_take (i := 5) (oi := ?o128) (v := _) (by kernel_rfl) (by simp only [List.getElem?_toArray, List.getElem?_cons_succ, List.getElem?_cons_zero]; rfl) (by kernel_rfl) (by kernel_rfl) (by kernel_rfl) (fun _ _ _ h => h) (Or.inl ⟨by rfl, ?y128⟩) (by assumption) ?r128
          case y128 =>
            intro wS hSw
            try dsimp only at hSw
            go_simp
            all_goals with_reducible rfl
          simp only [Act.put, List.setIfInBounds_toArray, List.set_cons_zero, List.set_cons_succ]
          refine wpAnyZ_ready (rs := [6]) (by kernel_rfl) (by simp) ?_
          refine' AllZ.cons (o := ?o129) (by simp only [List.getElem?_toArray, List.getElem?_cons_succ, List.getElem?_cons_zero]; rfl) (fun K hK => ?s129) ?m129
          case m129 => exact AllZ.nil
          go_simp
          refine hK.out _ _ ?_ (fun hHeld => ?_)
          · exact HSX1.out _ rfl
          clear hK K
          try simp only [Act.put, List.setIfInBounds_toArray, List.set_cons_zero, List.set_cons_succ]
          refine wpAnyZ_ready (rs := [7]) (by kernel_rfl) (by simp) ?_
          refine' AllZ.cons (o := ?o130) (by simp only [List.getElem?_toArray, List.getElem?_cons_succ, List.getElem?_cons_zero]; rfl) (fun K hK => ?s130) ?m130
          case m130 => exact AllZ.nil
          (refine step_append_S rfl (.tmp 63) (.tmp 65) 71 rfl 78 iC _ 11 112 Tryz.underlying71 hiC hzC0 hzC1 hzC2 rfl (by decide) (.slice la T.l.length lc) T.l.length rows.flatten ol (by simp [Act.eval]) (R3.out _) (.slice (some ⟨w7.heap.size, 0, none⟩) 1 1) (by simp [Act.eval]) 1 _ HRD.out (by intro u hu; simp only [List.mem_cons, List.not_mem_nil, or_false] at hu; rcases hu with rfl | rfl | rfl | rfl | rfl | rfl | rfl | rfl | rfl | rfl | rfl <;> rfl) (by unfold maxLen; omega) (by omega) ?_; intro v8 w8 ol8 k1 k2 k3 k4; obtain ⟨oa8, oc8, rfl, -, -⟩ := k1.isSlice; have K1 := Lib.hid k1; have K2 := Lib.hid k2; have K3 := Lib.hid k3; have HSX3 := Lib.hid (HSX.out w8 (HSX2.out _ _ k2).1 (HSX2.out _ _ k2).2); have hb8 := (HSX2.out _ _ k2).1.trans HA7.out; have y8 : w8.cell? ⟨A, 1, none⟩ = some (.slice la T.l.length lc) := (blk_cell hb8 1).trans rfl; have y8f := blk_free hb8 1; have y8l := blk_lt hb8; clear k1 k2 k3 k4 hb8)
          refine hK.out _ _ ?_ (fun hHeld => ?_)
          · exact HSX3.out
          clear hK K
          try simp only [Act.put, List.setIfInBounds_toArray, List.set_cons_zero, List.set_cons_succ]
          refine wpAnyZ_ready (rs := [8]) (by kernel_rfl) (by simp) ?_
          refine' AllZ.cons (o := ?o131) (by simp only [List.getElem?_toArray, List.getElem?_cons_succ, List.getElem?_cons_zero]; rfl) (fun K hK => ?s131) ?m131
          case m131 => exact AllZ.nil
          go_simp
          refine hK.out _ _ ?_ (fun hHeld => ?_)
          · exact HSX3.out
          clear hK K
          try simp only [Act.put, List.setIfInBounds_toArray, List.set_cons_zero, List.set_cons_succ]
          refine wpAnyZ_ready (rs := [9]) (by kernel_rfl) (by simp) ?_
          refine' AllZ.cons (o := ?o132) (by simp only [List.getElem?_toArray, List.getElem?_cons_succ, List.getElem?_cons_zero]; rfl) (fun K hK => ?s132) ?m132
          case m132 => exact AllZ.nil
          go_simp
          refine hK.out _ _ ?_ (fun hHeld => ?_)
          · exact HSX3.out
          clear hK K
          try simp only [Act.put, List.setIfInBounds_toArray, List.set_cons_zero, List.set_cons_succ]
          refine wpAnyZ_ready (rs := [10]) (by kernel_rfl) (by simp) ?_
          refine' AllZ.last (o := ?o133) (by simp only [List.getElem?_toArray, List.getElem?_cons_succ, List.getElem?_cons_zero]; rfl) (fun K hK => ?s133)
          go_simp
          refine hK.out _ _ ?_
          clear hK K
          try simp only [Act.put, List.setIfInBounds_toArray, List.set_cons_zero, List.set_cons_succ]
          refine wpAnyZ_done (by kernel_rfl) ?_ _
          refine NoPanic.normal ?_
          go_wp2
          go_ret2
          have e : doT T o = ((idG o T.g, 0), ⟨doG o T.g, T.l ++ [(opId o T.g, T.g)], T.marks⟩) := by unfold doT; rw [if_neg (by rw [HM.out]; simp), if_neg h64]
          obtain ⟨f1, f2⟩ := doFin (w2 := w2) (w4 := w4) (xb := xb) (fv := .func (.func f) #[] caps) HAT.out (by omega) hs24 hs46 HM07.out HOK7.out HBV7.out _ R1.out R2.out K2.out K3.out (by rw [← HOO.out]; exact K1.out) P1.out P2.out P3.out P4.out P5.out
          exact ⟨by rw [e]; rfl, by rw [e]; exact f1, f2⟩
  · have hmb : (mayG typesC o T.g == 0) = false := by simpa using hm
    have HM := Lib.hid hm
    clear hm
    go_wp2
    go_ret2
    have e : doT T o = ((0, mayG typesC o T.g), T) := by unfold doT; rw [if_pos HM.out]
    exact ⟨by rw [e]; rfl, by rw [e]; exact HSELF2.out, Mod.of_grow HG2.out⟩
end Go.Hg

namespace Go.Hg

theorem TInv.new {G : PGraph} (h : goodG G = true) : TInv ⟨G, [], []⟩ := ⟨h, by simp, by simp, by simp, by simp, fun i o g hi => by simp at hi⟩
theorem TInv.do {T : PTrail} (h : TInv T) (o : POp) : TInv (doT T o).2 := by
  unfold doT
  split
  · exact h
  split
  · exact h
  rename_i hm h64
  have hm0 : mayG typesC o T.g = 0 := Classical.not_not.1 hm
  have hln := h.len
  refine ⟨?_, by show (T.l ++ [_]).length ≤ 64; rw [List.length_append, List.length_singleton]; omega, h.mlen, h.mat, h.mnd, ?_⟩
  · have := goodG_step (o := o) typesC_names h.good
    unfold Hg.stepG at this
    rwa [if_pos hm0] at this
  · intro i o' g' hi
    change (T.l ++ [(opId o T.g, T.g)])[i]? = some (o', g') at hi
    show _ ∧ _ ∧ doG o' g' = (((T.l ++ [(opId o T.g, T.g)])[i + 1]?).map (·.2)).getD (doG o T.g)
    by_cases hlt : i < T.l.length
    · rw [List.getElem?_append_left hlt] at hi
      obtain ⟨a, b, c⟩ := h.chain i o' g' hi
      refine ⟨a, b, c.trans ?_⟩
      by_cases h2 : i + 1 < T.l.length
      · rw [List.getElem?_append_left h2, List.getElem?_eq_getElem h2]
        rfl
      · have e : i + 1 = T.l.length := by omega
        rw [e, List.getElem?_eq_none (Nat.le_refl _), List.getElem?_append_right (Nat.le_refl _), Nat.sub_self]
        rfl
    · have hl := (List.getElem?_eq_some_iff.1 hi).1
      rw [List.length_append, List.length_singleton] at hl
      have e : i = T.l.length := by omega
      subst e
      rw [List.getElem?_append_right (Nat.le_refl _), Nat.sub_self] at hi
      simp at hi
      obtain ⟨rfl, rfl⟩ := hi
      refine ⟨h.good, by rw [mayG_opId]; exact hm0, ?_⟩
      rw [doG_opId, List.getElem?_eq_none (by rw [List.length_append]; simp)]
      rfl
theorem TInv.mark {T : PTrail} (h : TInv T) (name : ByteArray) : TInv (markT T name).2 := by
  unfold markT
  split
  · exact h
  split
  · exact h
  rename_i hn h8
  have hfl := List.length_filter_le (fun x : ByteArray × Nat => !decide (x.1 = name)) T.marks
  have hml := h.mlen
  refine ⟨h.good, h.len, by show (_ ++ [_]).length ≤ 8; rw [List.length_append, List.length_singleton]; omega, fun m hm => ?_, ?_, h.chain⟩
  · rcases List.mem_append.1 hm with hm | hm
    · exact h.mat m (List.mem_filter.1 hm).1
    · simp at hm; subst hm; exact h.len
  · show ((T.marks.filter (fun x => !decide (x.1 = name)) ++ [(name, T.l.length)]).map (·.1)).Nodup
    rw [List.map_append, List.nodup_append]
    refine ⟨h.mnd.sublist (List.Sublist.map _ List.filter_sublist), by simp, fun a ha b hb => ?_⟩
    simp at hb
    subst hb
    obtain ⟨x, hx, rfl⟩ := List.mem_map.1 ha
    simpa using (List.mem_filter.1 hx).2
theorem TInv.back {T : PTrail} (h : TInv T) (name : ByteArray) : TInv (backT T name).2 := by
  unfold backT
  split
  · exact h
  rename_i k hk
  have hc := h.cut (((T.marks[k]?).map (·.2)).getD 0)
  refine ⟨hc.good, hc.len, by show (T.marks.take (k + 1)).length ≤ 8; rw [List.length_take]; have := h.mlen; omega, fun m hm => h.mat m (List.mem_of_mem_take hm), h.mnd.sublist (List.Sublist.map _ (List.take_sublist _ _)), hc.chain⟩
end Go.Hg

namespace Go.Hg
open Go.RowKit Go.Proofs

def wz : POp := ⟨1, 0, sZoo, 0, 0, ByteArray.empty, ⟨0, 0, ByteArray.empty⟩, false⟩
def nmA : ByteArray := ⟨#[97]⟩
def t0 : PTrail := ⟨PGraph.empty, [], []⟩
def t1 : PTrail := (doT t0 wa).2
def t2 : PTrail := (markT t1 nmA).2
def t3 : PTrail := (doT t2 wz).2
def t4 : PTrail := (backT t3 nmA).2
theorem wk1 : (doT t0 wa).1 = (1, 0) := by decide
theorem wk2 : (markT t1 nmA).1 = 0 := by decide
theorem wk3 : (doT t2 wz).1 = (2, 0) := by decide
theorem wk4 : (backT t3 nmA).1 = 0 := by decide
theorem wk5 : t4.g.nodes.length = 1 ∧ t4.g.next = 2 ∧ t4.l.length = 1 := by decide
theorem inv0 : TInv t0 := TInv.new goodG_empty
theorem inv1 : TInv t1 := inv0.do _
theorem inv2 : TInv t2 := inv1.mark _
theorem inv3 : TInv t3 := inv2.do _
theorem inv4 : TInv t4 := inv3.back _

set_option maxRecDepth 100000 in
set_option maxHeartbeats 4000000 in
theorem law19Wakes (w : World) : Calls Tryz.prog 11 #[] w fun e w' => e = .returned (.bool true) ∧ Grow w w' := by
  go_enter Tryz.func11, Tryz.ntmps11
  go_wp2_with fail
  refine (graphNew w).mono ?_
  rintro e w1 ⟨B, rfl, hok, hg1⟩
  have HOK := Lib.hid hok; have HG1 := Lib.hid hg1
  clear hok hg1
  go_wp2_with fail
  refine (undoNew _ B _ w1 HOK.out).mono ?_
  rintro e w2 ⟨A, rfl, hT, hg2⟩
  have HG2 := Lib.hid (HG1.out.step hg2)
  have hs1 := HG1.out.size
  have HT0 := Lib.hid (show TrailOk (fun b => w.heap.size ≤ b) w2 A B t0 from hT.sub (fun b hb => by omega))
  clear hT hg2
  go_wp2_with fail
  refine (lawTypes _).mono ?_
  rintro e w3 ⟨nv, ev, rfl, hc, hg3⟩
  have HG3 := Lib.hid (HG2.out.step hg3)
  have hs3 := HG3.out.size
  have HD1 := Lib.hid (undoDo _ _ A B t0 wa nv ev _ _ w3 (HT0.out.grow hg3) inv0 hc)
  obtain ⟨na, nc, ea, ec, ra, rc, ia, ic, rfl, rfl, hz1, hz2⟩ := hc.slices
  clear hc hg3 hz1 hz2
  go_wp2_with fail
  refine HD1.out.mono ?_
  rintro e w4 ⟨rfl, hT, hm⟩
  rw [wk1]
  have HG4 := Lib.hid (HG3.out.modd hm (fun b hb => hb))
  have HT1 := Lib.hid (show TrailOk (fun b => w.heap.size ≤ b) w4 A B t1 from hT.sub (fun b hb => by omega))
  have hs4 := HG4.out.size
  clear hT hm HD1
  go_wp2_with fail
  refine (undoMark _ A B t1 nmA w4 HT1.out inv1).mono ?_
  rintro e w5 ⟨rfl, hT, hm⟩
  rw [wk2]
  have HG5 := Lib.hid (HG4.out.modd hm (fun b hb => hb))
  have HT2 := Lib.hid (show TrailOk (fun b => w.heap.size ≤ b) w5 A B t2 from hT.sub (fun b hb => by omega))
  have hs5 := HG5.out.size
  clear hT hm
  go_wp2_with fail
  refine (lawTypes _).mono ?_
  rintro e w6 ⟨nv, ev, rfl, hc, hg6⟩
  have HG6 := Lib.hid (HG5.out.step hg6)
  have hs6 := HG6.out.size
  have HD2 := Lib.hid (undoDo _ _ A B t2 wz nv ev _ _ w6 (HT2.out.grow hg6) inv2 hc)
  obtain ⟨na, nc, ea, ec, ra, rc, ia, ic, rfl, rfl, hz1, hz2⟩ := hc.slices
  clear hc hg6 hz1 hz2
  go_wp2_with fail
  refine HD2.out.mono ?_
  rintro e w7 ⟨rfl, hT, hm⟩
  rw [wk3]
  have HG7 := Lib.hid (HG6.out.modd hm (fun b hb => hb))
  have HT3 := Lib.hid (show TrailOk (fun b => w.heap.size ≤ b) w7 A B t3 from hT.sub (fun b hb => by omega))
  have hs7 := HG7.out.size
  clear hT hm HD2
  go_wp2_with fail
  refine (undoBackTo _ A B t3 nmA w7 HT3.out inv3).mono ?_
  rintro e w8 ⟨rfl, hT, hm⟩
  rw [wk4]
  have HG8 := Lib.hid (HG7.out.modd hm (fun b hb => hb))
  have HT4 := Lib.hid (show TrailOk (fun b => w.heap.size ≤ b) w8 A B t4 from hT.sub (fun b hb => by omega))
  have hs8 := HG8.out.size
  clear hT hm
  have HI := Lib.hid (goodG_inv inv4.good)
  go_wp2_with fail
  refine (graphNodes _ B t4.g w8 HT4.out.graph.rd (by have := HI.out.items; omega) (fun x hx => by have := (HI.out.nodesB x hx).2.2; omega)).mono ?_
  rintro e w9 ⟨v, ob, rfl, hown, -, hg9⟩
  obtain ⟨a9, c9, rfl⟩ : ∃ a c, v = .slice a t4.g.nodes.length c := by obtain ⟨_, _, _, h⟩ := hown; obtain ⟨oa, cap, h, _⟩ := h.isSlice; exact ⟨oa, cap, h⟩
  rw [wk5.1]
  have HG9 := Lib.hid (HG8.out.step hg9)
  have HT9 := Lib.hid (HT4.out.grow hg9)
  clear hown hg9
  go_wp2_with fail
  refine (graphNext _ B t4.g w9 HT9.out.graph).mono ?_
  rintro e w10 ⟨rfl, hw⟩
  have hw2 := hw
  subst hw2
  clear hw
  rw [wk5.2.1]
  go_wp2_with fail
  refine (undoDone _ A B t4 _ HT9.out inv4).mono ?_
  rintro e w11 ⟨v, ob, rfl, hown, -, hg11⟩
  obtain ⟨a11, c11, rfl, -, -⟩ := hown.isSlice
  rw [wk5.2.2]
  have HG11 := Lib.hid (HG9.out.step hg11)
  clear hown hg11
  go_wp2
  go_ret
  exact ⟨rfl, HG11.out⟩
end Go.Hg

namespace Go.Hg
open Go.RowKit Go.ChangeShapes

section
variable {H : Type} {enc : TypeId × Value → H} {P : Program} {W W' : World}
theorem sameAt_grow (hg : Grow W W') {p : MemPlace} (hp : p.block < W.heap.size) : W.sameAt W' p := Below.same hg hp
theorem trodAll_grow {base : Nat} {sp : Nat → Bool} {hd : Bool} (hg : Grow W W') : ∀ {ts : List TypeId} {vs : List Value} {ds : List (DataW H)} {ps : List MemPlace}, DataW.TrodAll enc P W base sp hd ts vs ds ps → DataW.TrodAll enc P W' base sp hd ts vs ds ps
  | [], [], [], _, h => h
  | _ :: _, _ :: _, _ :: _, _, ⟨p, q, ⟨n, h1⟩, h2, e⟩ => ⟨p, q, ⟨n, DataW.trod_carry n _ _ _ h1 (fun x hx => sameAt_grow hg (DataW.trod_lt n _ _ _ h1 x hx))⟩, trodAll_grow hg h2, e⟩
theorem lawPost {f : Func} {s : ChangeSpec} {apart fresh handsOn again : Bool} {args : Array Value} {ds gs : List (DataW H)} {before : List MemPlace} {t : TypeId}
    (K : Kids P (· < P.types.size)) (hz : ∀ t e, t < P.types.size → P.underlying t = some (.slice e) → 0 < P.cellsOf e) (hts : ∀ t ∈ f.params.toList, t < P.types.size)
    (hW : DataW.Whole enc P f.params.toList s.vars apart W args.toList ds gs before) (hv : s.vars = []) (hres : (s.fn H (ds ++ gs)).results = [.lit (.bool true)]) (hargs : (s.fn H (ds ++ gs)).args = ds) (hvars : (s.fn H (ds ++ gs)).vars = [])
    (hrt : f.resultTypes = #[t]) (ht : P.underlying t = some .bool) (hg : Grow W W') : s.post enc P f apart fresh handsOn again W args (.bool true) W' := by
  have hlt := hW.lt
  have hold : ∀ p ∈ before, (fun b => decide (b < W.heap.size)) p.block = true := fun p hp => by simpa using hlt p hp
  have hW2 := hW
  obtain ⟨p, q, h1, h2, e, hfz, hnd⟩ := hW2
  rw [hv] at h2
  obtain ⟨rfl, rfl⟩ : gs = [] ∧ q = [] := by
    cases gs with
    | nil => exact ⟨rfl, h2⟩
    | cons => exact h2.elim
  rw [List.append_nil] at e
  subst e
  have hA : ∀ sp : Nat → Bool, (∀ x ∈ before, sp x.block = true) → DataW.TrodAll enc P W' 0 sp true f.params.toList args.toList (s.fn H (ds ++ [])).args before := fun sp hsp => by
    rw [hargs]
    exact (trodAll_grow hg h1).respare K hz hts hsp
  have hR : ∀ (b : Nat) (sp : Nat → Bool) (hd : Bool), DataW.TrodAll enc P W' b sp hd f.resultTypes.toList ((Value.bool true).resultList f.resultTypes.size) (s.fn H (ds ++ [])).results [] := fun b sp hd => by
    rw [hres, hrt]
    exact ⟨[], [], shut_bool ht true, rfl, rfl⟩
  have hV : ∀ sp : Nat → Bool, DataW.TrodVars enc P W' sp s.vars (s.fn H (ds ++ [])).vars [] := fun sp => by rw [hv, hvars]; rfl
  refine ⟨ds, [], before, [], before, [], hW, hR _ _ _, hA _ hold, hV _, World.keptBut_mono (fun p hp => ⟨hp, ?_⟩) (Below.frame hg (· ∈ before)), fun _ => ?_⟩
  · exact Or.inr (Or.inl hp)
  · refine ⟨ok_one hrt rfl (okWide_bool_mk ht true), _, _, ([] ++ before) ++ [], ⟨[] ++ before, [], trodAll_append (hA _ (fun _ _ => rfl)) (hR _ _ _), hV _, rfl, ?_, ?_⟩, ?_⟩
    · intro b off hp
      have hp' : MemPlace.cell b off ∈ before := by simpa using hp
      rw [Below.frozen hg (p := ⟨b, off, none⟩) (hlt _ hp')]
      exact hfz b off hp'
    · intro ha
      simpa using hnd ha
    · intro p hp _
      simpa using hp
end
end Go.Hg
