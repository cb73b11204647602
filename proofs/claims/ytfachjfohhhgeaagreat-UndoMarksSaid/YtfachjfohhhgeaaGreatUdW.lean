/- Who is near whom: the plain words, who is reached, which path is told; A row of structs of one's own, made since a block: the law of append; append of a whole slice to an empty one: a copy of one's own; append at a row of structs, as a step of a drawn region; append of a readable list of structs at a row of structs, as a step of a drawn region; hedgerowref17: Node, Edge: where an Id stands; hedgerowkeep.Longs, Texts, Rule, Cats of equal ones: true; Arguments: the steps of layer 19's laws; lists of bytes; Marks by six names: the plain words of UndoMarks; Appends at a row of one's own, its block in a set; rows of other types stay as they are. Conditions: those that each theorem names. -/
import Derived.WalkKit
import Derived.WalkSpells
import Derived.WalkLawsBesides
import Derived.Lib.Hide
import Derived.BigQuiet
import Derived.Deep.LoopGhost
import Derived.Maps.OwnOps
import Derived.Maps.OwnSet
import Derived.Carry
import Derived.Test.YtfachjfohhhgeaaGreatRows
import Derived.Lib.SlKeysI
import Derived.Lib.SliceRun
import Derived.WideMake
import Derived.Deep.RegionLaw
import Derived.Lib.Overlaps
import Derived.Deep.RegionHeld3
import Derived.Laws.ResultCell
import Derived.Shelf.SlSortCmp.WholeK
import Derived.Laws.EntriesVeiled
import Derived.Deep.DeepCutAuto
import Derived.RowKit
import Derived.ReadAgain
import Derived.ChangeOld
import Derived.Deep.Slices
import Derived.OpenShut
import Derived.Test.YtfachjfohhhgeaaGreatUdL
import Derived.Test.YtfachjfohhhgeaaGreatUdM
import Derived.Test.YtfachjfohhhgeaaGreatUdN
import Derived.Test.YtfachjfohhhgeaaGreatUdO
namespace Go.Hg

section
variable {E : List PEdge} {typ : ByteArray}
theorem Rch.stable {n : Nat} {x : Int} (hs : ∀ y, Rch E typ (n + 1) x y → Rch E typ n x y) : ∀ m, n ≤ m → ∀ y, Rch E typ m x y → Rch E typ n x y := by
  intro m hm
  induction m with
  | zero => cases Nat.le_zero.1 hm; exact fun _ h => h
  | succ m ih =>
    rcases Nat.lt_or_ge n (m + 1) with h1 | h1
    · intro y hy
      rcases hy with hy | ⟨z, hz, hy⟩
      · exact hs y (.inl hy)
      · exact hs y (.inr ⟨z, ih (by omega) z hz, hy⟩)
    · have : n = m + 1 := by omega
      exact this ▸ fun _ h => h
theorem FrI.skip {M nx r : List Int} {j : Nat} {seen : List PEdge} (h : FrI E typ M nx r j seen) {e : PEdge} (he : e.to_ ∈ M ∨ e.to_ ∈ nx) : FrI E typ M nx r j (seen ++ [e]) :=
  ⟨h.nodup, h.new, h.gone, fun x hx => by
    rcases List.mem_append.1 hx with hx | hx
    · exact h.seen x hx
    · rw [List.mem_singleton.1 hx]; exact he, h.ends⟩
theorem OutI.done {id : Int} {M r : List Int} {k m : Nat} (h : OutI E typ id M r k) (hf : FrI E typ M [] r r.length []) (hm : k ≤ m) (y : Int) : y ∈ M ↔ Rch E typ m id y := by
  have h1 := h.next hf
  rw [List.append_nil] at h1
  rw [h.mem]
  exact ⟨fun hy => hy.mono hm, Rch.stable (fun y hy => (h.mem y).1 ((h1.mem y).2 hy)) m hm y⟩

theorem QP.skip {t : Int} {f : Int → Option Nat} {dn s : List Int} {y : Int} {d d' : Nat} {seen : List PEdge} (h : QP E typ t f dn y d s seen) {e : PEdge} (he : f e.from_ = some d') : QP E typ t f dn y d s (seen ++ [e]) :=
  ⟨h.nodup, h.dom, h.zero, h.walk, h.cls, h.mono, h.at_, h.top, fun x hx => by
    rcases List.mem_append.1 hx with hx | hx
    · exact h.seen x hx
    · rw [List.mem_singleton.1 hx]; exact ⟨d', h.top _ _ he, he⟩, h.ends⟩
theorem QI.done {t : Int} {f : Int → Option Nat} {dn : List Int} (h : QI E typ t f dn []) (x : Int) (d : Nat) : f x = some d ↔ Dst E typ t d x := by
  have key : ∀ m x, Wlk E typ t m x → ∃ q, q ≤ m ∧ f x = some q := by
    intro m
    induction m with
    | zero => rintro x rfl; exact ⟨0, Nat.le_refl _, h.zero⟩
    | succ m ih =>
      rintro x ⟨z, hs, hw⟩
      obtain ⟨q, hq, hz⟩ := ih z hw
      obtain ⟨q', h1, h2⟩ := h.cls z (by have := (h.dom z).2 ⟨q, hz⟩; simpa using this) x q hs hz
      exact ⟨q', by omega, h2⟩
  constructor
  · intro hx
    refine ⟨h.walk x d hx, fun m hm hw => ?_⟩
    obtain ⟨q, hq, h2⟩ := key m x hw
    rw [hx] at h2
    cases h2
    omega
  · intro hx
    obtain ⟨q, hq, h2⟩ := key d x hx.1
    have := h.walk x q h2
    rcases Nat.lt_or_ge q d with r | r
    · exact absurd this (hx.2 q r)
    · have : q = d := by omega
      exact this ▸ h2
end
end Go.Hg

namespace Go.Hg
open Go.RowKit Go.Proofs

structure RowT (P : Program) (e : TypeId) (sz bytes : Nat) : Prop where
  info : ∃ i z, P.info? e = some i ∧ i.zero = some z ∧ i.size = sz ∧ i.bytes = bytes ∧ z.cells.size = sz
  pos : 0 < sz
theorem RowT.of {P : Program} {e : TypeId} {z : Value} {sz bytes : Nat} (h : (P.info? e).map (fun i => (i.zero, i.size, i.bytes)) = some (some z, sz, bytes)) (hz : z.cells.size = sz) (hs : 0 < sz) : RowT P e sz bytes := by
  obtain ⟨i, h1, h2, h3, h4⟩ := info_parts h
  exact ⟨⟨i, z, h1, h2, h3, h4, hz⟩, hs⟩
section
variable {α : Type} {e : TypeId} {sz : Nat} {R : α → List Value → Prop} {n : Nat} {w w' : World} {v : Value} {l : List α}
end
theorem rdK (W : World) (cs : Array Value) (E : TypeId) (sz : Nat) (hs : cs.size = sz) {nb : Nat} (h : W.heap.size = nb) : Rd (W.alloc (.cells cs E)) sz (.slice (some ⟨nb, 0, none⟩) 1 1) 1 cs.toList := by
  subst h
  exact Rd.lit W cs E sz 1 (by omega)
end Go.Hg

namespace Go.Hg
open Go.RowKit Go.Proofs

theorem SlR.rdN {α : Type} {S : Nat → Prop} {w : World} {sz : Nat} {R : α → List Value → Prop} {v : Value} {l : List α} (h : SlR S w sz R v l) (hs : 0 < sz) (hR : ∀ x r, R x r → r.length = sz) :
    ∃ rows : List (List Value), rows.length = l.length ∧ (∀ (k : Nat) x r, l[k]? = some x → rows[k]? = some r → R x r ∧ r.length = sz) ∧ Rd w sz v l.length rows.flatten := by
  obtain ⟨a, cap, rows, rfl, h1, h2, h3, h4, h5⟩ := h
  have hrl : ∀ r ∈ rows, r.length = sz := by
    intro r hr
    obtain ⟨k, hk, e⟩ := List.getElem_of_mem hr
    exact hR (l[k]'(by omega)) r (h4 k _ r (List.getElem?_eq_getElem (by omega)) (by rw [List.getElem?_eq_getElem hk, e]))
  have hfl : rows.flatten.length = l.length * sz := by
    rw [← h3]
    clear h3 h4 h5
    induction rows with
    | nil => simp
    | cons r t ih =>
      rw [List.flatten_cons, List.length_append, hrl r (.head _), ih (fun r hr => hrl r (.tail _ hr)), List.length_cons, Nat.succ_mul]
      omega
  refine ⟨rows, h3, fun k x r hx hr => ⟨h4 k x r hx hr, hrl r (List.mem_of_getElem? hr)⟩, hfl, a, cap, rfl, ?_⟩
  by_cases h0 : l.length = 0
  · exact .inl h0
  · obtain ⟨b, off, rfl, -, -, hc⟩ := h5 (by omega)
    refine .inr ⟨_, rfl, fun i u hi => ?_⟩
    have hil : i < l.length * sz := by rw [← hfl]; exact (List.getElem?_eq_some_iff.1 hi).1
    have hk : i / sz < rows.length := by rw [h3]; exact Nat.div_lt_of_lt_mul (by rw [Nat.mul_comm]; exact hil)
    have hj : i % sz < (rows[i / sz]).length := by rw [hrl _ (List.getElem_mem hk)]; exact Nat.mod_lt _ hs
    have h6 := flatten_at rows sz (i / sz) (i % sz) rows[i / sz] _ hrl (List.getElem?_eq_getElem hk) (List.getElem?_eq_getElem hj)
    have e : i / sz * sz + i % sz = i := by rw [Nat.mul_comm]; exact Nat.div_add_mod i sz
    rw [e, hi] at h6
    have h7 := hc (i / sz) rows[i / sz] (i % sz) _ (List.getElem?_eq_getElem hk) (List.getElem?_eq_getElem hj)
    have hadd : (⟨b, off, none⟩ : Addr).add i = ⟨b, off + i, none⟩ := by unfold Addr.add; split <;> simp_all
    rw [hadd]
    rw [show off + i / sz * sz + i % sz = off + i by omega] at h7
    rw [h7, ← h6]
end Go.Hg

namespace Go.Hg
open Go.RowKit Go.Proofs
theorem step_append_L {P : Program} {α : Type} {R : α → List Value → Prop} {S : Nat → Prop} {w : World} {ops : Array Oper} {o : Oper} {a : Act} {K : Act → World → Prop} {Q : Exit → Act → World → Prop} {E : Prop} (hgd : o.guard = none) (s x : Operand) (t : TypeId)
    (ho : o.op = .call { callee := .builtin .append, args := #[s, x], argTypes := #[t, t] }) {e : TypeId} {sz bytes : Nat} (T : RowT P e sz bytes) (ht : P.underlying t = some (.slice e)) (n : Nat) (nb : Nat) (hs : a.eval s = .slice (some ⟨nb, 0, none⟩) 0 0)
    (xv : Value) (hx : a.eval x = xv) (l : List α) (hl : SlR S w sz R xv l) (hR : ∀ x r, R x r → r.length = sz ∧ ∀ u ∈ r, u.oneCell' = true) (hn : n ≤ w.heap.size) (hlm : l.length ≤ maxLen) (hby : l.length * bytes ≤ 140737488355328)
    (hK : ∀ v' w', OwnN e sz R n w' v' l → Grow w w' → K (a.put o.dst v') w') : if Region.wanted o (yielded ops a.tmps) = true then Oper.wp P o a w K Q else E := by
  obtain ⟨rows, h1, h2, h3⟩ := SlR.rdN hl T.pos (fun x r h => (hR x r h).1)
  obtain ⟨⟨iP, z, hiP, hzP0, hzP1, hzP2, hzz⟩, hpos⟩ := T
  have hone : ∀ u ∈ rows.flatten, u.oneCell' = true := by
    intro u hu
    obtain ⟨r, hr, hur⟩ := List.mem_flatten.1 hu
    obtain ⟨k, hk, e⟩ := List.getElem_of_mem hr
    exact (hR _ r (h2 k (l[k]'(by omega)) r (List.getElem?_eq_getElem (by omega)) (by rw [List.getElem?_eq_getElem hk, e])).1).2 u hur
  refine step_append_S hgd s x t ho e iP z sz bytes ht hiP hzP0 hzP1 hzP2 hzz hpos _ 0 [] none hs ⟨by simp, .inl ⟨_, rfl, rfl, rfl, by simp⟩⟩ _ hx l.length _ h3 hone (by omega) (by rw [Nat.zero_add]; exact hby) ?_
  intro v' w' ob' k1 k2 k3 _
  have hg : Grow w w' := (k2.mono (F' := fun _ => False) (fun q hq => by cases hq)).grow
  refine hK v' w' ⟨ob', ⟨rows, h1, h2, ?_⟩, ?_⟩ hg
  · simpa using k1
  · intro q hq
    rcases k3 with k3 | ⟨g, k3, hg⟩
    · rw [k3] at hq; cases hq
    · rw [k3] at hq; cases hq; omega
end Go.Hg

namespace Go.Hg
open Go.RowKit Go.Proofs

theorem SlR.takeS {α : Type} {S : Nat → Prop} {w : World} {sz : Nat} {R : α → List Value → Prop} {a : Option Addr} {n cap : Nat} {l : List α} (h : SlR S w sz R (.slice a n cap) l) (k : Nat) (hk : k ≤ l.length) : SlR S w sz R (.slice a k cap) (l.take k) := by
  obtain ⟨a', cap', rows, hv, h1, h2, h3, h4, h5⟩ := h
  simp only [Value.slice.injEq] at hv
  obtain ⟨rfl, rfl, rfl⟩ := hv
  refine ⟨a, cap, rows.take k, by rw [List.length_take, Nat.min_eq_left hk], by rw [List.length_take]; omega, h2, by simp [h3], fun i x r hx hr => ?_, fun h0 => ?_⟩
  · rw [List.getElem?_take] at hx hr
    split at hx
    · rw [if_pos (by assumption)] at hr; exact h4 i x r hx hr
    · cases hx
  · rw [List.length_take] at h0
    obtain ⟨b, off, e, hS, hb, hc⟩ := h5 (by omega)
    refine ⟨b, off, e, hS, hb, fun i r j c hr hj => ?_⟩
    rw [List.getElem?_take] at hr
    split at hr
    · exact hc i r j c hr hj
    · cases hr
theorem SlR.dropS {α : Type} {S : Nat → Prop} {w : World} {sz : Nat} {R : α → List Value → Prop} {b off n cap : Nat} {l : List α} (h : SlR S w sz R (.slice (some ⟨b, off, none⟩) n cap) l) (k : Nat) (hk : k ≤ l.length) : SlR S w sz R (.slice (some ⟨b, off + k * sz, none⟩) (l.length - k) (cap - k)) (l.drop k) := by
  obtain ⟨a', cap', rows, hv, h1, h2, h3, h4, h5⟩ := h
  simp only [Value.slice.injEq] at hv
  obtain ⟨rfl, rfl, rfl⟩ := hv
  refine ⟨some ⟨b, off + k * sz, none⟩, cap - k, rows.drop k, by simp, by rw [List.length_drop]; omega, by omega, by simp [h3], fun i x r hx hr => ?_, fun h0 => ?_⟩
  · rw [List.getElem?_drop] at hx hr
    exact h4 _ x r hx hr
  · rw [List.length_drop] at h0
    obtain ⟨b', off', e, hS, hb, hc⟩ := h5 (by omega)
    simp only [Option.some.injEq, Addr.mk.injEq, and_true] at e
    obtain ⟨rfl, rfl⟩ := e
    refine ⟨b, off + k * sz, rfl, hS, hb, fun i r j c hr hj => ?_⟩
    rw [List.getElem?_drop] at hr
    have := hc _ r j c hr hj
    rw [Nat.add_mul] at this
    rw [Nat.add_assoc off]
    exact this
end Go.Hg

namespace Go.Hg
open Go.RowKit Go.Proofs

theorem IdxAt.pos {α : Type} {f : α → Int} {l : List α} {id r : Int} (h : IdxAt f l id r) : decide (0 ≤ r) = (l.any fun y => decide (f y = id)) := by
  rcases h with ⟨rfl, h⟩ | ⟨k, x, rfl, _, _, h⟩
  · rw [h]; rfl
  · rw [h]; simp
end Go.Hg

namespace Go.Hg
open Go.RowKit Go.Proofs

set_option maxRecDepth 100000 in
set_option maxHeartbeats 1000000 in
theorem keepTextsEq (Sa Sb : Nat → Prop) (va vb : Value) (l : List ByteArray) (w : World) (ha : StrsR Sa w va l) (hb : StrsR Sb w vb l) :
    Calls Tryz.prog 22 #[va, vb] w fun e w' => e = .returned (.bool true) ∧ Grow w w' := by
  obtain ⟨aa, ca, rfl, hal, hac, hA⟩ := SlR.open ha
  obtain ⟨ab, cb, rfl, hbl, hbc, hB⟩ := SlR.open hb
  clear ha hb
  unfold maxLen at hac hbc
  have HA := Lib.hid hA; have HB := Lib.hid hB; clear hA hB
  go_enter Tryz.func22, Tryz.ntmps22
  go_wp2
  go_loopg [5] l.length (fun g i wr => ∃ k : Nat, k ≤ l.length ∧ g = l.length - k ∧ i = .int .i64 k ∧ Grow w wr)
  case atStart => exact ⟨0, by omega, by omega, rfl, Grow.rfl' w⟩
  case round =>
    obtain ⟨k, hk, rfl, rfl, hgr⟩ := hrel
    have HGR := Lib.hid hgr
    by_cases hkl : k < l.length
    · obtain ⟨ba, oa, ra, rfl, hSa, hba, hRa, hca⟩ := HA.out k l[k] (List.getElem?_eq_getElem hkl)
      obtain ⟨bb, ob, rb, rfl, hSb, hbb, hRb, hcb⟩ := HB.out k l[k] (List.getElem?_eq_getElem hkl)
      have ha2 : ba < wr.heap.size := Nat.lt_of_lt_of_le hba hgr.size
      have hb2 : bb < wr.heap.size := Nat.lt_of_lt_of_le hbb hgr.size
      have hca0 := (hgr.cell (p := ⟨ba, oa + k * 1 + 0, none⟩) hba).trans (hca 0 (.string l[k]) (by rw [show ra = [.string l[k]] from hRa]; rfl))
      have hcb0 := (hgr.cell (p := ⟨bb, ob + k * 1 + 0, none⟩) hbb).trans (hcb 0 (.string l[k]) (by rw [show rb = [.string l[k]] from hRb]; rfl))
      rw [Nat.mul_one, Nat.add_zero] at hca0 hcb0
      clear hca hcb hRa hRb hSa hSb hba hbb hgr
      generalize l[k] = x at *
      go_wp2_with fail
      refine wp_region_grow (by kernel_rfl) (by kernel_rfl) ?_
      repeat (go_big_quiet_step (fail))
      refine wpQuiet_nil ?_
      intro w2 hw2
      go_wp2_with fail
      go_roundg (l.length - (k + 1))
      case measure => omega
      case rel => exact ⟨k + 1, by omega, rfl, by go_num, HGR.out.step hw2⟩
    · clear hgr
      go_wp2
      go_ret
      exact ⟨rfl, HGR.out⟩

end Go.Hg

namespace Go.Hg
open Go.RowKit Go.ChangeShapes Go.WideShapes Go.Deep Go.Proofs

section
variable {H : Type} {enc : TypeId × Value → H} {W : World} {base : Nat} {sp : Nat → Bool} {held : Bool}
theorem cellsU8 : Tryz.prog.cellsOf 5 = 1 := by kernel_rfl
abbrev U8R (S : Nat → Prop) (w : World) (v : Value) (l : List Nat) : Prop := SlR S w 1 (fun n r => r = [Value.int .u8 (n : Nat)] ∧ n < 256) v l
set_option maxRecDepth 100000 in
theorem openU8s {v : Value} {d : DataW H} {ps : List MemPlace} {r : Reach} {b0 : Nat} (hval : Value.okWide Tryz.prog W r b0 54 v) (h : DataW.Trod enc Tryz.prog W base sp held 54 v d ps) : ∃ l : List Nat, U8R (fun _ => True) W v l := by
  obtain ⟨a0, len0, cap0, rfl⟩ := okWide_slice Tryz.underlying54 hval
  obtain ⟨n, hn⟩ := h
  obtain ⟨v', l, h1, h2⟩ := openListC (fun (k : Nat) c => c = [Value.int .u8 (k : Nat)] ∧ k < 256) Tryz.underlying54 cellsU8 (by omega) (fun _ _ _ h => by
    obtain ⟨k, e, -, hw⟩ := DataW.trod_int Tryz.underlying5 h
    have hb := bounds_u8 hw
    exact ⟨k.toNat, by rw [Int.toNat_of_nonneg hb.1]; exact e, by omega⟩) hn
  have e : [Value.slice a0 len0 cap0] = [v'] := h1
  simp only [List.cons.injEq, and_true] at e
  exact ⟨l, e ▸ h2⟩
end
end Go.Hg

namespace Go.Hg

def nm6 (n : Nat) : ByteArray := nmI (n % 6)
structure MqI (i : Nat) (T : PTrail) : Prop where
  inv : TInv T
  nodes : T.g.nodes.length = i
  edges : T.g.edges = []
  next : T.g.next = i + 1
  len : T.l.length = i
  prev : ∀ (j : Nat) x, T.l[j]? = some x → x.2.nodes.length = j ∧ x.2.next = j + 1
  names : ∀ m ∈ T.marks, ∃ j < 6, m.1 = nmI j
  mlt : ∀ m ∈ T.marks, m.2 < i
def markL (M : List (ByteArray × Nat)) (s : ByteArray) (i : Nat) : List (ByteArray × Nat) := (M.filter fun x => !decide (x.1 = s)) ++ [(s, i)]
theorem six_le {M : List (ByteArray × Nat)} (hn : (M.map (·.1)).Nodup) (h : ∀ m ∈ M, ∃ j < 6, m.1 = nmI j) : M.length ≤ 6 := by
  have := nodup_le nmI [0, 1, 2, 3, 4, 5] (M.map (·.1)) hn (fun x hx => by
    obtain ⟨m, hm, rfl⟩ := List.mem_map.1 hx
    obtain ⟨j, hj, e⟩ := h m hm
    exact ⟨j, by simp; omega, e.symm⟩)
  simpa using this
theorem MqI.zero : MqI 0 t0 := ⟨inv0, rfl, rfl, rfl, rfl, fun j x h => by simp [t0] at h, fun m h => by simp [t0] at h, fun m h => by simp [t0] at h⟩
theorem MqI.mark {i : Nat} {T : PTrail} (h : MqI i T) (n : Nat) : markT T (nm6 n) = (0, ⟨T.g, T.l, markL T.marks (nm6 n) i⟩) := by
  have hl := six_le h.inv.mnd h.names
  have h1 : (T.marks.filter fun x => !decide (x.1 = nm6 n)).length ≤ T.marks.length := List.length_filter_le _ _
  unfold markT
  rw [if_neg (not_not_intro (show NameOk (nm6 n) from (nm_ok (n % 6) (by omega)).1)), if_neg (by omega), h.len]
  rfl
theorem MqI.full {i : Nat} {T : PTrail} (h : MqI i T) (hj : i ≤ 64) : fullG T.g = false := by
  unfold fullG
  rw [h.nodes, h.edges, h.next]
  simp
  omega
theorem MqI.step {i : Nat} {T : PTrail} (h : MqI i T) (n : Nat) (hi : i < 40) : (doT (markT T (nm6 n)).2 wa).1.2 = 0 ∧ MqI (i + 1) (doT (markT T (nm6 n)).2 wa).2 ∧ (doT (markT T (nm6 n)).2 wa).2.marks = markL T.marks (nm6 n) i := by
  have hm := h.mark n
  have hf := h.full (by omega)
  have hv := (h.inv.mark (nm6 n)).do wa
  rw [hm] at hv ⊢
  have e : doT ⟨T.g, T.l, markL T.marks (nm6 n) i⟩ wa = ((idG wa T.g, 0), ⟨addNodeG wa T.g, T.l ++ [(opId wa T.g, T.g)], markL T.marks (nm6 n) i⟩) := by
    unfold doT
    dsimp only
    rw [may_wa hf, if_neg (by simp), if_neg (by rw [h.len]; omega)]
    rfl
  refine ⟨by rw [e], ⟨hv, ?_, ?_, ?_, ?_, ?_, ?_, ?_⟩, by rw [e]⟩
  · rw [e]
    show (T.g.nodes ++ [_]).length = _
    rw [List.length_append, h.nodes]
    rfl
  · rw [e]; exact h.edges
  · rw [e]
    show T.g.next + 1 = _
    rw [h.next]
    omega
  · rw [e]
    show (T.l ++ [_]).length = _
    rw [List.length_append, h.len]
    rfl
  · rw [e]
    intro j x hx
    change (T.l ++ [_])[j]? = some x at hx
    by_cases hj : j < T.l.length
    · rw [List.getElem?_append_left hj] at hx
      exact h.prev j x hx
    · rw [List.getElem?_append_right (by omega)] at hx
      have hj2 : j - T.l.length = 0 := by have := (List.getElem?_eq_some_iff.1 hx).1; simp at this; omega
      rw [hj2] at hx
      have hx2 := (Option.some.inj hx).symm
      subst hx2
      have := h.len
      have : j = i := by omega
      subst this
      exact ⟨h.nodes, h.next⟩
  · rw [e]
    intro m hm2
    rcases List.mem_append.1 hm2 with hm2 | hm2
    · exact h.names m (List.mem_filter.1 hm2).1
    · rw [List.mem_singleton.1 hm2]
      exact ⟨n % 6, by omega, rfl⟩
  · rw [e]
    intro m hm2
    rcases List.mem_append.1 hm2 with hm2 | hm2
    · have := h.mlt m (List.mem_filter.1 hm2).1; omega
    · rw [List.mem_singleton.1 hm2]
      show i < i + 1
      omega
theorem MqI.back {i : Nat} {T : PTrail} (h : MqI i T) {k : Nat} {m : ByteArray × Nat} (hk : T.marks[k]? = some m) :
    (backT T m.1).1 = 0 ∧ (backT T m.1).2.g.nodes.length = m.2 ∧ (backT T m.1).2.g.next = m.2 + 1 ∧ (backT T m.1).2.l.length = m.2 ∧ (backT T m.1).2.marks = T.marks.take (k + 1) ∧
      (backT (backT T m.1).2 m.1).1 = 0 ∧ (backT (backT T m.1).2 m.1).2.g.nodes.length = m.2 := by
  have hkl := (List.getElem?_eq_some_iff.1 hk).1
  have hlt := h.mlt m (List.mem_of_getElem? hk)
  have hpre : ∀ y ∈ T.marks.take k, y.1 ≠ m.1 := fun y hy e => by
    obtain ⟨j, hj, hy2⟩ := List.mem_iff_getElem.1 hy
    rw [List.length_take] at hj
    have h1 : (T.marks.map (·.1))[j]? = some m.1 := by
      rw [List.getElem?_map, List.getElem?_eq_getElem (by omega)]
      rw [List.getElem_take] at hy2
      rw [hy2, ← e]
      rfl
    have h2 : (T.marks.map (·.1))[k]? = some m.1 := by rw [List.getElem?_map, hk]; rfl
    have := (List.getElem?_inj (by rw [List.length_map]; omega) h.inv.mnd).1 (h1.trans h2.symm)
    omega
  have hf := findIdx_yes (name := m.1) hk rfl hpre
  have hc : (cutT T m.2).g.nodes.length = m.2 ∧ (cutT T m.2).g.next = m.2 + 1 := by
    unfold cutT
    cases hx : T.l[m.2]? with
    | none => have := List.getElem?_eq_none_iff.1 hx; have := h.len; omega
    | some x => exact h.prev _ x hx
  have e : backT T m.1 = (0, ⟨(cutT T m.2).g, (cutT T m.2).l, T.marks.take (k + 1)⟩) := by
    unfold backT
    simp only [hf]
    rw [hk]
    rfl
  have hl : (cutT T m.2).l.length = m.2 := by
    show (T.l.take m.2).length = m.2
    rw [List.length_take, h.len]
    omega
  have hk2 : (T.marks.take (k + 1))[k]? = some m := by rw [List.getElem?_take, if_pos (by omega), hk]
  have hf2 := findIdx_yes (name := m.1) hk2 rfl (by rw [List.take_take, Nat.min_eq_left (by omega)]; exact hpre)
  rw [e]
  have e2 : backT ⟨(cutT T m.2).g, (cutT T m.2).l, T.marks.take (k + 1)⟩ m.1 = (0, ⟨(cutT T m.2).g, (cutT T m.2).l, (T.marks.take (k + 1)).take (k + 1)⟩) := by
    unfold backT
    simp only [hf2]
    rw [hk2]
    have h3 := cutT_none (T := ⟨(cutT T m.2).g, (cutT T m.2).l, T.marks.take (k + 1)⟩) (n := m.2) (by dsimp only; omega)
    show ((0 : Int), (⟨(cutT ⟨(cutT T m.2).g, (cutT T m.2).l, T.marks.take (k + 1)⟩ m.2).g, (cutT ⟨(cutT T m.2).g, (cutT T m.2).l, T.marks.take (k + 1)⟩ m.2).l, _⟩ : PTrail)) = _
    rw [h3]
  rw [e2]
  exact ⟨rfl, hc.1, hc.2, hl, rfl, rfl, hc.1⟩
structure InL (M M' : List (ByteArray × Nat)) (s : ByteArray) (k : Nat) : Prop where
  nd : (M'.map (·.1)).Nodup
  flt : (M'.filter fun x => !decide (x.1 = s)) = M.filter fun x => !decide (x.1 = s)
  pre : ∀ (j : Nat) x, j < k → M'[j]? = some x → x.1 ≠ s
  le : M'.length ≤ M.length
theorem InL.zero {M : List (ByteArray × Nat)} {s : ByteArray} (h : (M.map (·.1)).Nodup) : InL M M s 0 := ⟨h, rfl, fun j x hj => absurd hj (by omega), Nat.le_refl _⟩
theorem InL.skip {M M' : List (ByteArray × Nat)} {s : ByteArray} {k : Nat} {x : ByteArray × Nat} (h : InL M M' s k) (hx : M'[k]? = some x) (hs : x.1 ≠ s) : InL M M' s (k + 1) :=
  ⟨h.nd, h.flt, fun j y hj hy => by
    by_cases hjk : j < k
    · exact h.pre j y hjk hy
    · have : j = k := by omega
      subst this
      rw [hx] at hy
      rw [← Option.some.inj hy]
      exact hs, h.le⟩
theorem InL.cut {M M' : List (ByteArray × Nat)} {s : ByteArray} {k : Nat} {x : ByteArray × Nat} (h : InL M M' s k) (hx : M'[k]? = some x) (hs : x.1 = s) : InL M (M'.take k ++ M'.drop (k + 1)) s (k + 1) := by
  have e := idx_some h.nd hx hs
  rw [← e]
  refine ⟨h.nd.sublist (List.filter_sublist.map _), by rw [List.filter_filter]; simp only [Bool.and_self]; exact h.flt, fun j y _ hy => ?_, Nat.le_trans (List.length_filter_le _ _) h.le⟩
  have := (List.mem_filter.1 (List.mem_of_getElem? hy)).2
  simpa using this
theorem InL.done {M M' : List (ByteArray × Nat)} {s : ByteArray} {k : Nat} (h : InL M M' s k) (hk : M'.length ≤ k) : M' = M.filter fun x => !decide (x.1 = s) := by
  rw [← h.flt]
  refine (idx_none fun x hx => ?_).symm
  obtain ⟨j, hj, rfl⟩ := List.mem_iff_getElem.1 hx
  exact h.pre j _ (by omega) (List.getElem?_eq_getElem hj)
end Go.Hg

namespace Go.Hg
open Go.RowKit Go.Proofs

def OwnD {α : Type} (e : TypeId) (sz : Nat) (R : α → List Value → Prop) (D : Nat → Prop) (w : World) (v : Value) (l : List α) : Prop := ∃ ob, OwnL w e sz R v l ob ∧ ∀ q, ob = some q → D q
section
variable {α : Type} {e : TypeId} {sz : Nat} {R : α → List Value → Prop} {D : Nat → Prop} {w w' : World} {v : Value} {l : List α}
theorem OwnD.nil (D : Nat → Prop) (w : World) : OwnD e sz R D w (.slice none 0 0) [] := ⟨none, OwnL.nil w e sz R, by simp⟩
theorem OwnD.grow (h : OwnD e sz R D w v l) (g : Grow w w') : OwnD e sz R D w' v l := by
  obtain ⟨ob, h1, h2⟩ := h
  exact ⟨ob, h1.keep (fun q hq => g.heapEq (h1.lt q hq)) (fun _ _ _ h => h), h2⟩
theorem OwnD.mod {F : Nat → Prop} (h : OwnD e sz R D w v l) (g : Mod F w w') (hF : ∀ k, D k → ¬ F k) : OwnD e sz R D w' v l := by
  obtain ⟨ob, h1, h2⟩ := h
  exact ⟨ob, h1.keep (fun q hq => g.block q (h1.lt q hq) (hF q (h2 q hq))) (fun _ _ _ h => h), h2⟩
theorem OwnD.sub {D' : Nat → Prop} (h : OwnD e sz R D w v l) (hD : ∀ b, D b → D' b) : OwnD e sz R D' w v l := by
  obtain ⟨ob, h1, h2⟩ := h
  exact ⟨ob, h1, fun q hq => hD q (h2 q hq)⟩
theorem OwnD.cut (h : OwnD e sz R D w v l) : OwnD e sz R (fun b => D b ∧ b < w.heap.size) w v l := by
  obtain ⟨ob, h1, h2⟩ := h
  exact ⟨ob, h1, fun q hq => ⟨h2 q hq, h1.lt q hq⟩⟩
theorem OwnD.isSlice (h : OwnD e sz R D w v l) : ∃ oa cap, v = .slice oa l.length cap ∧ l.length ≤ cap ∧ cap ≤ maxLen := by
  obtain ⟨ob, ⟨rows, _, _, h1⟩, _⟩ := h
  exact OwnS.isSlice h1
theorem OwnD.isSliceM {β : Type} {f : β → α} {m : List β} (h : OwnD e sz R D w v (m.map f)) : ∃ oa cap, v = .slice oa m.length cap ∧ m.length ≤ cap ∧ cap ≤ maxLen := by
  have h1 := h.isSlice
  rwa [List.length_map] at h1
theorem OwnD.at0M {β : Type} {f : β → α} {m : List β} (h : OwnD e sz R D w v (m.map f)) (h0 : 0 < m.length) : ∃ g cap, v = .slice (some ⟨g, 0, none⟩) m.length cap ∧ m.length ≤ cap ∧ cap ≤ maxLen ∧ g < w.heap.size ∧ D g := by
  obtain ⟨ob, h1, h2⟩ := h
  have hlt := h1.lt
  obtain ⟨rows, _, _, h3⟩ := h1
  rw [List.length_map] at h3
  rcases h3.2 with ⟨_, _, h, _⟩ | ⟨g, cap, cur, h1, h4, h5, h6, h7, _⟩
  · omega
  · exact ⟨g, cap, h1, h6, h7, hlt g h4, h2 g h4⟩
theorem OwnD.toR (h : OwnD e sz R D w v l) : SlR D w sz R v l := by
  obtain ⟨ob, h1, h2⟩ := h
  exact h1.toSl h2
end
theorem OwnD.cell1 {α : Type} {e : TypeId} {R : α → List Value → Prop} {D : Nat → Prop} {w : World} {g n cap : Nat} {l : List α} (h : OwnD e 1 R D w (.slice (some ⟨g, 0, none⟩) n cap) l) {k : Nat} {x : α} (hx : l[k]? = some x) {c : Value} (hR : ∀ r, R x r → r = [c]) : w.cell? ⟨g, k, none⟩ = some c := by
  obtain ⟨_, _, he, -, -, hA⟩ := SlR.open h.toR
  simp only [Value.slice.injEq] at he
  obtain ⟨rfl, rfl, rfl⟩ := he
  obtain ⟨b, off, r, ha, -, -, hr, hc⟩ := hA k x hx
  simp only [Option.some.injEq, Addr.mk.injEq, and_true] at ha
  obtain ⟨rfl, rfl⟩ := ha
  have := hc 0 c (by rw [hR r hr]; rfl)
  simpa using this
theorem SlR.dropG {α : Type} {S : Nat → Prop} {w : World} {sz : Nat} {R : α → List Value → Prop} {b off n cap : Nat} {l : List α} (h : SlR S w sz R (.slice (some ⟨b, off, none⟩) n cap) l) (k : Nat) (hk : k ≤ l.length) (a : Option Addr) (m c : Nat) (hm : m = l.length - k) (hc : c = cap - k)
    (ha : cap = k ∨ a = some ⟨b, off + k * sz, none⟩) : SlR S w sz R (.slice a m c) (l.drop k) := by
  subst hm; subst hc
  rcases ha with rfl | rfl
  · obtain ⟨a', cap', he, h1, h2, h3⟩ := SlR.open h
    simp only [Value.slice.injEq] at he
    obtain ⟨rfl, rfl, rfl⟩ := he
    have e : l.length = cap := by omega
    rw [List.drop_of_length_le (by omega), e, Nat.sub_self]
    exact ⟨a, 0, [], rfl, Nat.le_refl _, by simp [maxLen], rfl, by simp, by simp⟩
  · exact h.dropS k hk
def OthK (e : TypeId) (w w' : World) : Prop := ∀ {β : Type} (e' : TypeId) (sz : Nat) (R : β → List Value → Prop) (D : Nat → Prop) (v : Value) (l : List β), e' ≠ e → OwnD e' sz R D w v l → OwnD e' sz R D w' v l
theorem OthK.of {α : Type} {e : TypeId} {sz : Nat} {R : α → List Value → Prop} {w w' : World} {v : Value} {l : List α} {ob : Option Nat} (h : OwnL w e sz R v l ob) (k : Mod (fun k => ob = some k) w w') : OthK e w w' := by
  intro β e' sz' R' n v' l' hne h'
  obtain ⟨ob', h2, h3⟩ := h'
  refine ⟨ob', h2.keep (fun g hg => k.block g (h2.lt g hg) (fun hh => ?_)) (fun _ _ _ h => h), h3⟩
  obtain ⟨cs, hc⟩ := h2.blkE g hg
  obtain ⟨cs2, hc2⟩ := h.blkE g hh
  rw [hc] at hc2
  simp only [Option.some.injEq, Obj.cells.injEq] at hc2
  exact hne hc2.2.1
theorem ownSnoc {α : Type} {sz : Nat} {R : α → List Value → Prop} {l : List α} {rows : List (List Value)} {y : α} {r : List Value} (hlen : rows.length = l.length) (hrow : ∀ (k : Nat) x r, l[k]? = some x → rows[k]? = some r → R x r ∧ r.length = sz) (hr : R y r) (hrl : r.length = sz) :
    ∀ (k : Nat) x r1, (l ++ [y])[k]? = some x → (rows ++ [r])[k]? = some r1 → R x r1 ∧ r1.length = sz := by
  intro k x1 r1 hx1 hr1
  by_cases hk : k < l.length
  · rw [List.getElem?_append_left hk] at hx1
    rw [List.getElem?_append_left (by omega)] at hr1
    exact hrow k x1 r1 hx1 hr1
  · have hk2 : k = l.length := by
      have := (List.getElem?_eq_some_iff.1 hx1).1
      simp at this
      omega
    subst hk2
    rw [List.getElem?_append_right (by omega)] at hx1
    rw [← hlen, List.getElem?_append_right (by omega)] at hr1
    simp at hx1 hr1
    subst hx1; subst hr1
    exact ⟨hr, hrl⟩
section
variable {P : Program} {α : Type} {R : α → List Value → Prop} {w : World} {ops : Array Oper} {o : Oper} {a : Act} {Q : Exit → Act → World → Prop}
theorem step_append_LD {S : Nat → Prop} {K : Act → World → Prop} {E : Prop} (hgd : o.guard = none) (s x : Operand) (t : TypeId)
    (ho : o.op = .call { callee := .builtin .append, args := #[s, x], argTypes := #[t, t] }) {e : TypeId} {sz bytes : Nat} (T : RowT P e sz bytes) (ht : P.underlying t = some (.slice e)) (nb : Nat) (hs : a.eval s = .slice (some ⟨nb, 0, none⟩) 0 0)
    (xv : Value) (hx : a.eval x = xv) (l : List α) (hl : SlR S w sz R xv l) (hR : ∀ x r, R x r → r.length = sz ∧ ∀ u ∈ r, u.oneCell' = true) (hlm : l.length ≤ maxLen) (hby : l.length * bytes ≤ 140737488355328)
    (hK : ∀ v' w', OwnD e sz R (fun q => w.heap.size ≤ q) w' v' l → Grow w w' → K (a.put o.dst v') w') : if Region.wanted o (yielded ops a.tmps) = true then Oper.wp P o a w K Q else E :=
  step_append_L hgd s x t ho T ht w.heap.size nb hs xv hx l hl hR (Nat.le_refl _) hlm hby (fun v' w' h g => hK v' w' h g)
theorem step_append_XD {S : Nat → Prop} {K : Act → World → Prop} {E : Prop} (hgd : o.guard = none) (s x : Operand) (t : TypeId)
    (ho : o.op = .call { callee := .builtin .append, args := #[s, x], argTypes := #[t, t] }) {e : TypeId} {sz bytes : Nat} (T : RowT P e sz bytes) (ht : P.underlying t = some (.slice e)) (D : Nat → Prop) (v : Value) (l : List α) (hs : a.eval s = v) (h : OwnD e sz R D w v l)
    (xv : Value) (hx : a.eval x = xv) (m : List α) (hm : SlR S w sz R xv m) (hR : ∀ x r, R x r → r.length = sz ∧ ∀ u ∈ r, u.oneCell' = true) (hl : l.length + m.length ≤ maxLen) (hby : (l.length + m.length) * bytes ≤ 140737488355328)
    (hK : ∀ v' w', OwnD e sz R (fun q => D q ∨ w.heap.size ≤ q) w' v' (l ++ m) → Mod D w w' → OthK e w w' → K (a.put o.dst v') w') : if Region.wanted o (yielded ops a.tmps) = true then Oper.wp P o a w K Q else E := by
  obtain ⟨rows2, g1, g2, g3⟩ := SlR.rdN hm T.pos (fun x r h => (hR x r h).1)
  obtain ⟨⟨iP, z, hiP, hzP0, hzP1, hzP2, hzz⟩, hpos⟩ := T
  obtain ⟨ob, hL, h2⟩ := h
  have hL0 := hL
  obtain ⟨rows, hlen, hrow, hS⟩ := hL
  have hone : ∀ u ∈ rows2.flatten, u.oneCell' = true := by
    intro u hu
    obtain ⟨r, hr, hur⟩ := List.mem_flatten.1 hu
    obtain ⟨k, hk, e⟩ := List.getElem_of_mem hr
    exact (hR _ r (g2 k (m[k]'(by omega)) r (List.getElem?_eq_getElem (by omega)) (by rw [List.getElem?_eq_getElem hk, e])).1).2 u hur
  refine step_append_S hgd s x t ho e iP z sz bytes ht hiP hzP0 hzP1 hzP2 hzz hpos v l.length _ ob hs hS _ hx m.length _ g3 hone hl hby ?_
  intro v' w' ob' k1 k2 k3 _
  refine hK v' w' ⟨ob', ⟨rows ++ rows2, by simp [hlen, g1], fun k x1 r1 hx1 hr1 => ?_, ?_⟩, ?_⟩ (k2.mono fun q hq => h2 q hq) (OthK.of hL0 k2)
  · by_cases hk : k < l.length
    · rw [List.getElem?_append_left hk] at hx1
      rw [List.getElem?_append_left (by omega)] at hr1
      exact hrow k x1 r1 hx1 hr1
    · rw [List.getElem?_append_right (by omega)] at hx1
      rw [List.getElem?_append_right (by omega), hlen] at hr1
      exact g2 _ x1 r1 hx1 hr1
  · rw [List.length_append, List.flatten_append]
    exact k1
  · intro q hq
    rcases k3 with k3 | ⟨g, k3, hg⟩
    · exact .inl (h2 q (k3 ▸ hq))
    · rw [k3] at hq; cases hq; exact .inr hg
theorem wpList_append_XD {rest : List Oper} (hgd : o.guard = none) (s x : Operand) (t : TypeId)
    (ho : o.op = .call { callee := .builtin .append, args := #[s, x], argTypes := #[t, t] }) {e : TypeId} {sz bytes : Nat} (T : RowT P e sz bytes) (ht : P.underlying t = some (.slice e)) (D : Nat → Prop) (v : Value) (l : List α) (hs : a.eval s = v) (h : OwnD e sz R D w v l)
    (y : α) (r : List Value) (hr : R y r) (hrl : r.length = sz) (h1 : ∀ u ∈ r, u.oneCell' = true) (nb : Nat) (hx : a.eval x = .slice (some ⟨nb, 0, none⟩) 1 1) (hrd : Rd w sz (.slice (some ⟨nb, 0, none⟩) 1 1) 1 r) (hl : l.length + 1 ≤ maxLen) (hby : (l.length + 1) * bytes ≤ 140737488355328)
    (hK : ∀ v' w', OwnD e sz R (fun q => D q ∨ w.heap.size ≤ q) w' v' (l ++ [y]) → Mod D w w' → OthK e w w' → wpList P ops Q rest (a.put o.dst v') w') : wpList P ops Q (o :: rest) a w := by
  obtain ⟨⟨iP, z, hiP, hzP0, hzP1, hzP2, hzz⟩, hpos⟩ := T
  obtain ⟨ob, hL, h2⟩ := h
  have hL0 := hL
  obtain ⟨rows, hlen, hrow, hS⟩ := hL
  refine wpList_append_S w hgd s x t ho e iP z sz bytes ht hiP hzP0 hzP1 hzP2 hzz hpos v l.length _ ob hs hS _ hx 1 _ hrd h1 hl hby ?_
  intro v' w' ob' k1 k2 k3 _
  refine hK v' w' ⟨ob', ⟨rows ++ [r], by simp [hlen], ownSnoc hlen hrow hr hrl, ?_⟩, ?_⟩ (k2.mono fun q hq => h2 q hq) (OthK.of hL0 k2)
  · rw [List.length_append, List.flatten_append]
    simpa using k1
  · intro q hq
    rcases k3 with k3 | ⟨g, k3, hg⟩
    · exact .inl (h2 q (k3 ▸ hq))
    · rw [k3] at hq; cases hq; exact .inr hg
end
end Go.Hg
