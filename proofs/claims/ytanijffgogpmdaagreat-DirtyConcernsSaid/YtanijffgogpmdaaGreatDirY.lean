/- append at a row of structs, as a step of a drawn region; law20.Fair, Own: what they return; ref20.ahead; law20.Same of what is alike; append of a readable list of structs at a row of structs, as a step of a drawn region; ref20.put: a spot is put into spots in order. Conditions: those that each theorem names. -/
import Derived.WalkKit
import Derived.WalkSpells
import Derived.WalkLawsBesides
import Derived.Lib.Hide
import Derived.BigQuiet
import Derived.Deep.LoopGhost
import Derived.Test.YtanijffgogpmdaaGreatRows
import Derived.Lib.SliceRun
import Derived.WideMake
import Derived.Deep.RegionLaw
import Derived.Lib.Overlaps
import Derived.Deep.RegionHeld3
import Derived.Laws.ResultCell
import Derived.Laws.EntriesVeiled
import Derived.Maps.OwnOps
import Derived.Maps.OwnSet
import Derived.Carry
import Derived.Lib.SlKeysI
import Derived.Maps.RangeWalk
import Derived.Lib.SlMapFilter
import Derived.Deep.DeepCutAuto
import Derived.Test.YtanijffgogpmdaaGreatDirN
import Derived.Test.YtanijffgogpmdaaGreatDirO
import Derived.Test.YtanijffgogpmdaaGreatDirP
import Derived.Test.YtanijffgogpmdaaGreatDirS
import Derived.Test.YtanijffgogpmdaaGreatDirT
namespace Go.Hg
open Go.RowKit Go.Proofs
theorem step_append_L {P : Program} {α : Type} {R : α → List Value → Prop} {S : Nat → Prop} {w : World} {ops : Array Oper} {o : Oper} {a : Act} {K : Act → World → Prop} {Q : Exit → Act → World → Prop} {E : Prop} (hgd : o.guard = none) (s x : Operand) (t : TypeId)
    (ho : o.op = .call { callee := .builtin .append, args := #[s, x], argTypes := #[t, t] }) {e : TypeId} {sz bytes : Nat} (T : RowT P e sz bytes) (ht : P.underlying t = some (.slice e)) (n : Nat) (nb : Nat) (hs : a.eval s = .slice (some ⟨nb, 0, none⟩) 0 0)
    (xv : Value) (hx : a.eval x = xv) (l : List α) (hl : SlR S w sz R xv l) (hR : ∀ x r, R x r → r.length = sz ∧ ∀ u ∈ r, u.oneCell' = true) (hn : n ≤ w.heap.size) (hlm : l.length ≤ maxLen) (hby : l.length * bytes ≤ 140737488355328)
    (hK : ∀ v' w', OwnN e sz R n w' v' l → Grow w w' → K (a.put o.dst v') w') : if Region.wanted o (yielded ops a.tmps) = true then Oper.wp P o a w K Q else E := by
  obtain ⟨rows, h1, h2, h3⟩ := SlR.rdN hl T.pos (fun x r h => (hR x r h).1)
  obtain ⟨⟨iP, z, hiP, hzP0, hzP1, hzP2, hzz⟩, hpos⟩ := T
  have hone : ∀ u ∈ rows.flatten, u.oneCell' = true := by
    intro u hu
    obtain ⟨r, hr, hur⟩ := List.mem_flatten.1 hu
    obtain ⟨k, hk, e⟩ := List.getElem_of_mem hr
    exact (hR _ r (h2 k (l[k]'(by omega)) r (List.getElem?_eq_getElem (by omega)) (by rw [List.getElem?_eq_getElem hk, e])).1).2 u hur
  refine step_append_S hgd s x t ho e iP z sz bytes ht hiP hzP0 hzP1 hzP2 hzz hpos _ 0 [] none hs ⟨by simp, .inl ⟨_, rfl, rfl, rfl, by simp⟩⟩ _ hx l.length _ h3 hone (by omega) (by rw [Nat.zero_add]; exact hby) ?_
  intro v' w' ob' k1 k2 k3 _
  have hg : Grow w w' := (k2.mono (F' := fun _ => False) (fun q hq => by cases hq)).grow
  refine hK v' w' ⟨ob', ⟨rows, h1, h2, ?_⟩, ?_⟩ hg
  · simpa using k1
  · intro q hq
    rcases k3 with k3 | ⟨g, k3, hg⟩
    · rw [k3] at hq; cases hq
    · rw [k3] at hq; cases hq; omega
end Go.Hg

namespace Go.Hg
open Go.RowKit Go.Proofs

theorem rspotOk : ∀ (x : PSpot) (r : List Value), RSpot x r → r.length = 3 ∧ ∀ u ∈ r, u.oneCell' = true := by
  intro x r h
  unfold RSpot at h
  subst h
  exact ⟨rfl, spotCells1 x⟩

end Go.Hg

namespace Go.Hg
open Go.RowKit Go.Proofs

set_option maxRecDepth 100000 in
set_option maxHeartbeats 2000000 in
theorem ref20Ahead (a b : PSpot) (w : World) : Calls Tryz.prog 144 #[a.args, b.args] w fun e w' => e = .returned (.bool (ltSp a b)) ∧ Grow w w' := by
  have HG := Lib.hid (show ∀ o1 o2, Grow w ((w.alloc o1).alloc o2) from fun o1 o2 => ((Grow.rfl' w).allocd o1).allocd o2)
  obtain ⟨b1, h1⟩ : ∃ x, decide (a.kind < b.kind) = x := ⟨_, rfl⟩
  obtain ⟨b2, h2⟩ : ∃ x, (a.kind == b.kind) = x := ⟨_, rfl⟩
  obtain ⟨b3, h3⟩ : ∃ x, Op.bytesLess a.typ.toList b.typ.toList = x := ⟨_, rfl⟩
  obtain ⟨b4, h4⟩ : ∃ x, decide (a.typ = b.typ) = x := ⟨_, rfl⟩
  obtain ⟨b5, h5⟩ : ∃ x, Op.bytesLess a.name.toList b.name.toList = x := ⟨_, rfl⟩
  have HL := Lib.hid (show ltSp a b = (b1 || (b2 && (b3 || (b4 && b5)))) by
    unfold ltSp ltS
    rw [h1, h3, h4, h5, ← h2, int_beq])
  go_enter Tryz.func144, Tryz.ntmps144
  cases b1
  · cases b2
    · go_wp2
      go_ret
      exact ⟨by rw [HL.out]; rfl, HG.out _ _⟩
    · cases b3
      · cases b4
        · go_wp2
          go_ret
          exact ⟨by rw [HL.out]; rfl, HG.out _ _⟩
        · cases b5
          · go_wp2
            go_ret
            exact ⟨by rw [HL.out]; rfl, HG.out _ _⟩
          · go_wp2
            go_ret
            exact ⟨by rw [HL.out]; rfl, HG.out _ _⟩
      · go_wp2
        go_ret
        exact ⟨by rw [HL.out]; rfl, HG.out _ _⟩
  · go_wp2
    go_ret
    exact ⟨by rw [HL.out]; rfl, HG.out _ _⟩

end Go.Hg

namespace Go.Hg
open Go.RowKit Go.Proofs

theorem step_append_M {P : Program} {α : Type} {R : α → List Value → Prop} {S : Nat → Prop} {w : World} {ops : Array Oper} {o : Oper} {a : Act} {K : Act → World → Prop} {Q : Exit → Act → World → Prop} {E : Prop} (hgd : o.guard = none) (s x : Operand) (t : TypeId)
    (ho : o.op = .call { callee := .builtin .append, args := #[s, x], argTypes := #[t, t] }) {e : TypeId} {sz bytes : Nat} (T : RowT P e sz bytes) (ht : P.underlying t = some (.slice e)) (n : Nat) (v : Value) (l : List α) (hs : a.eval s = v) (h : OwnN e sz R n w v l)
    (xv : Value) (hx : a.eval x = xv) (m : List α) (hm : SlR S w sz R xv m) (hR : ∀ x r, R x r → r.length = sz ∧ ∀ u ∈ r, u.oneCell' = true) (hn : n ≤ w.heap.size) (hl : l.length + m.length ≤ maxLen) (hby : (l.length + m.length) * bytes ≤ 140737488355328)
    (hK : ∀ v' w', OwnN e sz R n w' v' (l ++ m) → Since n w w' → w.heap.size ≤ w'.heap.size → K (a.put o.dst v') w') : if Region.wanted o (yielded ops a.tmps) = true then Oper.wp P o a w K Q else E := by
  obtain ⟨rows2, g1, g2, g3⟩ := SlR.rdN hm T.pos (fun x r h => (hR x r h).1)
  obtain ⟨⟨iP, z, hiP, hzP0, hzP1, hzP2, hzz⟩, hpos⟩ := T
  obtain ⟨ob, hL, h2⟩ := h
  obtain ⟨rows, hlen, hrow, hS⟩ := hL
  have hone : ∀ u ∈ rows2.flatten, u.oneCell' = true := by
    intro u hu
    obtain ⟨r, hr, hur⟩ := List.mem_flatten.1 hu
    obtain ⟨k, hk, e⟩ := List.getElem_of_mem hr
    exact (hR _ r (g2 k (m[k]'(by omega)) r (List.getElem?_eq_getElem (by omega)) (by rw [List.getElem?_eq_getElem hk, e])).1).2 u hur
  refine step_append_S hgd s x t ho e iP z sz bytes ht hiP hzP0 hzP1 hzP2 hzz hpos v l.length _ ob hs hS _ hx m.length _ g3 hone hl hby ?_
  intro v' w' ob' k1 k2 k3 _
  refine hK v' w' ⟨ob', ?_, ?_⟩ (k2.mono fun q hq => h2 q hq) k2.size
  · refine ⟨rows ++ rows2, by simp [hlen, g1], fun k x1 r1 hx1 hr1 => ?_, ?_⟩
    · by_cases hk : k < l.length
      · rw [List.getElem?_append_left hk] at hx1
        rw [List.getElem?_append_left (by omega)] at hr1
        exact hrow k x1 r1 hx1 hr1
      · rw [List.getElem?_append_right (by omega)] at hx1
        rw [List.getElem?_append_right (by omega), hlen] at hr1
        exact g2 _ x1 r1 hx1 hr1
    · rw [List.length_append, List.flatten_append]
      exact k1
  · intro q hq
    rcases k3 with k3 | ⟨g, k3, hg⟩
    · exact h2 q (k3 ▸ hq)
    · rw [k3] at hq; cases hq; omega
end Go.Hg

namespace Go.Hg
open Go.RowKit Go.Proofs

abbrev RefC (w : World) (b : Nat) (s : PSpot) : Prop := b < w.heap.size ∧ w.cell? ⟨b, 0, none⟩ = some (.int .i64 s.kind) ∧ w.cell? ⟨b, 1, none⟩ = some (.string s.typ) ∧ w.cell? ⟨b, 2, none⟩ = some (.string s.name)
abbrev RefK (w : World) (b o : Nat) (s : PSpot) : Prop := b < w.heap.size ∧ w.cell? ⟨b, o, none⟩ = some (.int .i64 s.kind) ∧ w.cell? ⟨b, o + 1, none⟩ = some (.string s.typ) ∧ w.cell? ⟨b, o + 2, none⟩ = some (.string s.name)
theorem refcAt {w w' : World} {b : Nat} {s : PSpot} (h : w.heap[b]? = some (.cells #[.int .i64 s.kind, .string s.typ, .string s.name] 140)) (g : Grow w w') : RefC w' b s := by
  have h2 : w'.heap[b]? = _ := (g.heapEq (blk_lt h)).trans h
  exact ⟨blk_lt h2, (blk_cell h2 _).trans rfl, (blk_cell h2 _).trans rfl, (blk_cell h2 _).trans rfl⟩
theorem put_here {l : List PSpot} {s : PSpot} {k : Nat} (hk : k < l.length) (h1 : ltSp l[k] s = false) (h2 : ltSp s l[k] = false) : putSp l s = l := by
  have : l[k] = s := ltSp_total h1 h2
  unfold putSp
  rw [if_pos (by rw [← this]; exact List.getElem_mem hk)]
theorem take_while {l : List PSpot} {s : PSpot} {k : Nat} (h0 : ∀ y ∈ l.take k, ltSp y s = true) (hk : k = l.length ∨ ∃ h : k < l.length, ltSp l[k] s = false) : (l.takeWhile fun x => ltSp x s) = l.take k ∧ (l.dropWhile fun x => ltSp x s) = l.drop k := by
  induction l generalizing k with
  | nil => simp
  | cons a t ih =>
    cases k with
    | zero =>
      rcases hk with hk | ⟨_, hk⟩
      · cases hk
      · simp at hk
        simp [hk]
    | succ k =>
      have ha := h0 a (by simp)
      have := ih (k := k) (fun y hy => h0 y (by simp [hy])) (by
        rcases hk with hk | ⟨h, hk⟩
        · exact .inl (by simpa using hk)
        · exact .inr ⟨by simpa using h, by simpa using hk⟩)
      simp [ha, this.1, this.2]
theorem put_new {l : List PSpot} {s : PSpot} {k : Nat} (hp : l.Pairwise fun a b => ltSp a b = true) (h0 : ∀ y ∈ l.take k, ltSp y s = true) (hk : k = l.length ∨ ∃ h : k < l.length, ltSp l[k] s = false ∧ ltSp s l[k] = true) : putSp l s = l.take k ++ [s] ++ l.drop k := by
  have hk' : k = l.length ∨ ∃ h : k < l.length, ltSp l[k] s = false := hk.imp id fun ⟨h, h1, _⟩ => ⟨h, h1⟩
  obtain ⟨e1, e2⟩ := take_while h0 hk'
  unfold putSp
  rw [if_neg, e1, e2]
  · simp
  · intro hs
    rw [← List.take_append_drop k l] at hs
    rcases List.mem_append.1 hs with hs | hs
    · have := h0 s hs; rw [ltSp_irrefl] at this; cases this
    · rcases hk with rfl | ⟨h, -, h2⟩
      · simp at hs
      · rw [List.drop_eq_getElem_cons h] at hs
        rcases List.mem_cons.1 hs with e | hs
        · rw [← e, ltSp_irrefl] at h2; cases h2
        · have hpd := hp.sublist (List.drop_sublist k l)
          rw [List.drop_eq_getElem_cons h, List.pairwise_cons] at hpd
          have := ltSp_trans h2 (hpd.1 s hs)
          rw [ltSp_irrefl] at this; cases this
end Go.Hg
