/- append at a row of structs, as a step of a drawn region; law20.Fair, Own: what they return; ref20.ahead; law20.Same of what is alike; append of a readable list of structs at a row of structs, as a step of a drawn region. Conditions: those that each theorem names. -/
import Derived.WalkKit
import Derived.WalkSpells
import Derived.WalkLawsBesides
import Derived.Lib.Hide
import Derived.BigQuiet
import Derived.Deep.LoopGhost
import Derived.Test.YtanijffgogpmdaaGreatRows
import Derived.Lib.SliceRun
import Derived.WideMake
import Derived.Deep.RegionLaw
import Derived.Lib.Overlaps
import Derived.Deep.RegionHeld3
import Derived.Laws.ResultCell
import Derived.Laws.EntriesVeiled
import Derived.Maps.OwnOps
import Derived.Maps.OwnSet
import Derived.Carry
import Derived.Lib.SlKeysI
import Derived.Maps.RangeWalk
import Derived.Lib.SlMapFilter
import Derived.Deep.DeepCutAuto
import Derived.Test.YtanijffgogpmdaaGreatDirN
import Derived.Test.YtanijffgogpmdaaGreatDirO
import Derived.Test.YtanijffgogpmdaaGreatDirP
namespace Go.Hg
open Go.RowKit Go.Proofs
theorem step_append_R {P : Program} {α : Type} {R : α → List Value → Prop} {w : World} {ops : Array Oper} {o : Oper} {a : Act} {K : Act → World → Prop} {Q : Exit → Act → World → Prop} {E : Prop} (hgd : o.guard = none) (s x : Operand) (t : TypeId)
    (ho : o.op = .call { callee := .builtin .append, args := #[s, x], argTypes := #[t, t] }) {e : TypeId} {sz bytes : Nat} (T : RowT P e sz bytes) (ht : P.underlying t = some (.slice e)) (n : Nat) (v : Value) (l : List α) (hs : a.eval s = v) (h : OwnN e sz R n w v l)
    (y : α) (r : List Value) (hr : R y r) (hrl : r.length = sz) (h1 : ∀ u ∈ r, u.oneCell' = true) (nb : Nat) (hx : a.eval x = .slice (some ⟨nb, 0, none⟩) 1 1) (hrd : Rd w sz (.slice (some ⟨nb, 0, none⟩) 1 1) 1 r) (hn : n ≤ w.heap.size) (hl : l.length + 1 ≤ maxLen) (hby : (l.length + 1) * bytes ≤ 140737488355328)
    (hK : ∀ v' w', OwnN e sz R n w' v' (l ++ [y]) → Since n w w' → w.heap.size ≤ w'.heap.size → K (a.put o.dst v') w') : if Region.wanted o (yielded ops a.tmps) = true then Oper.wp P o a w K Q else E := by
  obtain ⟨⟨iP, z, hiP, hzP0, hzP1, hzP2, hzz⟩, hpos⟩ := T
  obtain ⟨ob, hL, h2⟩ := h
  obtain ⟨rows, hlen, hrow, hS⟩ := hL
  refine step_append_S hgd s x t ho e iP z sz bytes ht hiP hzP0 hzP1 hzP2 hzz hpos v l.length _ ob hs hS _ hx 1 _ hrd h1 hl hby ?_
  intro v' w' ob' k1 k2 k3 _
  refine hK v' w' ⟨ob', ?_, ?_⟩ (k2.mono fun q hq => h2 q hq) k2.size
  · refine ⟨rows ++ [r], by simp [hlen], fun k x1 r1 hx1 hr1 => ?_, ?_⟩
    · by_cases hk : k < l.length
      · rw [List.getElem?_append_left hk] at hx1
        rw [List.getElem?_append_left (by omega)] at hr1
        exact hrow k x1 r1 hx1 hr1
      · have hk2 : k = l.length := by
          have := (List.getElem?_eq_some_iff.1 hx1).1
          simp at this
          omega
        subst hk2
        rw [List.getElem?_append_right (by omega)] at hx1
        rw [← hlen, List.getElem?_append_right (by omega)] at hr1
        simp at hx1 hr1
        subst hx1; subst hr1
        exact ⟨hr, hrl⟩
    · rw [List.length_append, List.flatten_append]
      simpa using k1
  · intro q hq
    rcases k3 with k3 | ⟨g, k3, hg⟩
    · exact h2 q (k3 ▸ hq)
    · rw [k3] at hq; cases hq; omega
end Go.Hg

namespace Go.Hg
open Go.RowKit Go.Proofs

theorem infoRefSpot : (Tryz.prog.info? 140).map (fun i => (i.zero, i.size, i.bytes)) = some (some (.agg #[.int .i64 0, .string ByteArray.empty, .string ByteArray.empty]), 3, 40) := by kernel_rfl
theorem rowRefSpot : RowT Tryz.prog 140 3 40 := RowT.of infoRefSpot rfl (by omega)
end Go.Hg

namespace Go.Hg
open Go.RowKit Go.Proofs

set_option maxRecDepth 100000 in
set_option maxHeartbeats 2000000 in
theorem law20Same (S S2 : Nat → Prop) (av bv : Value) (l : List PSpot) (w : World) (ha : SpotsR S w av l) (hb : SpotsR S2 w bv l) :
    Calls Tryz.prog 40 #[av, bv] w fun e w' => e = .returned (.bool true) ∧ Grow w w' := by
  obtain ⟨aa, ca, rfl, hal, hac, hA⟩ := SlR.open ha
  obtain ⟨ab, cb, rfl, hbl, hbc, hB⟩ := SlR.open hb
  unfold maxLen at hac hbc
  have HA := Lib.hid hA; have HB := Lib.hid hB
  clear ha hb hA hB
  go_enter Tryz.func40, Tryz.ntmps40
  go_wp2
  go_loopg [5] l.length (fun g i wr => ∃ k : Nat, k ≤ l.length ∧ g = l.length - k ∧ i = .int .i64 k ∧ Grow w wr)
  case atStart => exact ⟨0, by omega, by omega, rfl, Grow.rfl' w⟩
  case round =>
    obtain ⟨k, hk, rfl, rfl, hgr⟩ := hrel
    by_cases hkl : k < l.length
    · obtain ⟨ba, oa, ra, rfl, -, hba, hRa, hca⟩ := HA.out k l[k] (List.getElem?_eq_getElem hkl)
      obtain ⟨bb, ob, rb, rfl, -, hbb, hRb, hcb⟩ := HB.out k l[k] (List.getElem?_eq_getElem hkl)
      obtain ⟨hba', a0, a1, a2⟩ := spotAt hRa hba hgr.drewd hca
      obtain ⟨hbb', b0, b1, b2⟩ := spotAt hRb hbb hgr.drewd hcb
      have HG := Lib.hid hgr.drewd
      clear hca hRa hba hcb hRb hbb hgr
      generalize l[k] = x at *
      go_wp2
      go_region
      go_wp2
      go_roundg (l.length - (k + 1))
      case measure => omega
      case rel => exact ⟨k + 1, by omega, rfl, by go_num, HG.out⟩
    · have HG := Lib.hid hgr
      clear hgr
      go_wp2
      go_ret
      exact ⟨rfl, HG.out⟩
end Go.Hg

namespace Go.Hg
open Go.RowKit Go.Proofs

theorem SlR.takeS {α : Type} {S : Nat → Prop} {w : World} {sz : Nat} {R : α → List Value → Prop} {a : Option Addr} {n cap : Nat} {l : List α} (h : SlR S w sz R (.slice a n cap) l) (k : Nat) (hk : k ≤ l.length) : SlR S w sz R (.slice a k cap) (l.take k) := by
  obtain ⟨a', cap', rows, hv, h1, h2, h3, h4, h5⟩ := h
  simp only [Value.slice.injEq] at hv
  obtain ⟨rfl, rfl, rfl⟩ := hv
  refine ⟨a, cap, rows.take k, by rw [List.length_take, Nat.min_eq_left hk], by rw [List.length_take]; omega, h2, by simp [h3], fun i x r hx hr => ?_, fun h0 => ?_⟩
  · rw [List.getElem?_take] at hx hr
    split at hx
    · rw [if_pos (by assumption)] at hr; exact h4 i x r hx hr
    · cases hx
  · rw [List.length_take] at h0
    obtain ⟨b, off, e, hS, hb, hc⟩ := h5 (by omega)
    refine ⟨b, off, e, hS, hb, fun i r j c hr hj => ?_⟩
    rw [List.getElem?_take] at hr
    split at hr
    · exact hc i r j c hr hj
    · cases hr
theorem SlR.dropS {α : Type} {S : Nat → Prop} {w : World} {sz : Nat} {R : α → List Value → Prop} {b off n cap : Nat} {l : List α} (h : SlR S w sz R (.slice (some ⟨b, off, none⟩) n cap) l) (k : Nat) (hk : k ≤ l.length) : SlR S w sz R (.slice (some ⟨b, off + k * sz, none⟩) (l.length - k) (cap - k)) (l.drop k) := by
  obtain ⟨a', cap', rows, hv, h1, h2, h3, h4, h5⟩ := h
  simp only [Value.slice.injEq] at hv
  obtain ⟨rfl, rfl, rfl⟩ := hv
  refine ⟨some ⟨b, off + k * sz, none⟩, cap - k, rows.drop k, by simp, by rw [List.length_drop]; omega, by omega, by simp [h3], fun i x r hx hr => ?_, fun h0 => ?_⟩
  · rw [List.getElem?_drop] at hx hr
    exact h4 _ x r hx hr
  · rw [List.length_drop] at h0
    obtain ⟨b', off', e, hS, hb, hc⟩ := h5 (by omega)
    simp only [Option.some.injEq, Addr.mk.injEq, and_true] at e
    obtain ⟨rfl, rfl⟩ := e
    refine ⟨b, off + k * sz, rfl, hS, hb, fun i r j c hr hj => ?_⟩
    rw [List.getElem?_drop] at hr
    have := hc _ r j c hr hj
    rw [Nat.add_mul] at this
    rw [Nat.add_assoc off]
    exact this
end Go.Hg
