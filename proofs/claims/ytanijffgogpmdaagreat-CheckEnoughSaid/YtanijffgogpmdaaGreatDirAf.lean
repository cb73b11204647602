/- graph.Scan, some, Out, In; A row of numbers of one's own, made since a block: the law of append; Who is near whom: the plain words, who is reached, which path is told; Rules: the plain words, what form a rule has, whether a graph keeps it, what breaks it; rule.Form, hedgerowref15.Form; val.Get, hedgerowref02.Get: a property's value; What breaks a rule: the plain words; without it the rule is kept; check.first, Whole; check.doubles: the nodes whose value another one has; hedgerowref15.Form; What changes touch: the plain words; a rule that no spot concerns stays kept; Spots in order: the plain words; hedgerowref02.Compare; hedgerowref15.Broken: without a form, Ends; hedgerowref15.Broken: Most. Conditions: those that each theorem names. -/
import Derived.WalkKit
import Derived.WalkSpells
import Derived.WalkLawsBesides
import Derived.Lib.Hide
import Derived.BigQuiet
import Derived.Deep.LoopGhost
import Derived.Test.YtanijffgogpmdaaGreatRows
import Derived.Lib.SliceRun
import Derived.WideMake
import Derived.Deep.RegionLaw
import Derived.Lib.Overlaps
import Derived.Deep.RegionHeld3
import Derived.Laws.ResultCell
import Derived.Laws.EntriesVeiled
import Derived.Maps.OwnOps
import Derived.Maps.OwnSet
import Derived.Carry
import Derived.Lib.SlKeysI
import Derived.Maps.RangeWalk
import Derived.Lib.SlMapFilter
import Derived.Test.YtanijffgogpmdaaGreatDirN
import Derived.Test.YtanijffgogpmdaaGreatDirQ
import Derived.Test.YtanijffgogpmdaaGreatDirR
import Derived.Test.YtanijffgogpmdaaGreatDirV
import Derived.Test.YtanijffgogpmdaaGreatDirW
import Derived.Test.YtanijffgogpmdaaGreatDirX
namespace Go.Hg
open Go.RowKit Go.Proofs

theorem empty_beq (s : ByteArray) : (s.toList == ([] : List UInt8)) = decide (s = ByteArray.empty) := by
  rw [← isEmpty_iff]
  cases s.toList <;> rfl
end Go.Hg

namespace Go.Hg
open Go.RowKit Go.Proofs

theorem rd1 (W : World) (y : Value) (E : TypeId) {nb : Nat} (h : W.heap.size = nb) : Rd (W.alloc (.cells #[y] E)) 1 (.slice (some ⟨nb, 0, none⟩) 1 1) 1 [y] := by
  subst h
  exact Rd.lit W #[y] E 1 1 rfl
theorem wpList_append_I {w : World} {ops : Array Oper} {rest : List Oper} {o : Oper} {a : Act} {Q : Exit → Act → World → Prop} (hgd : o.guard = none) (s x : Operand) (t : TypeId)
    (ho : o.op = .call { callee := .builtin .append, args := #[s, x], argTypes := #[t, t] }) (ht : Tryz.prog.underlying t = some (.slice 2)) (n : Nat) (v : Value) (l : List Int) (hs : a.eval s = v) (h : IdsW n w v l)
    (y : Int) (nb : Nat) (hx : a.eval x = .slice (some ⟨nb, 0, none⟩) 1 1) (hrd : Rd w 1 (.slice (some ⟨nb, 0, none⟩) 1 1) 1 [.int .i64 y]) (hn : n ≤ w.heap.size) (hl : l.length + 1 ≤ 8796093022208)
    (hK : ∀ v' w', IdsW n w' v' (l ++ [y]) → Since n w w' → w.heap.size ≤ w'.heap.size → wpList Tryz.prog ops Q rest (a.put o.dst v') w') : wpList Tryz.prog ops Q (o :: rest) a w := by
  obtain ⟨iP, hiP, hzP0, hzP1, hzP2⟩ := info_parts infoInt
  obtain ⟨ob, h1, h2⟩ := h
  refine wpList_append_S w hgd s x t ho 2 iP _ 1 8 ht hiP hzP0 hzP1 hzP2 rfl (by decide) v l.length _ ob hs h1 _ hx 1 _ hrd (one1 _ rfl) (by unfold maxLen; omega) (by omega) ?_
  intro v' w' ob' k1 k2 k3 _
  refine hK v' w' ⟨ob', ?_, ?_⟩ (k2.mono fun q hq => h2 q hq) k2.size
  · unfold IdsO
    rw [List.length_append, List.map_append]
    exact k1
  · intro q hq
    rcases k3 with k3 | ⟨g, k3, hg⟩
    · exact h2 q (k3 ▸ hq)
    · rw [k3] at hq; cases hq; omega
end Go.Hg

namespace Go.Hg

section
variable {E : List PEdge} {typ : ByteArray}
theorem Rch.stable {n : Nat} {x : Int} (hs : ∀ y, Rch E typ (n + 1) x y → Rch E typ n x y) : ∀ m, n ≤ m → ∀ y, Rch E typ m x y → Rch E typ n x y := by
  intro m hm
  induction m with
  | zero => cases Nat.le_zero.1 hm; exact fun _ h => h
  | succ m ih =>
    rcases Nat.lt_or_ge n (m + 1) with h1 | h1
    · intro y hy
      rcases hy with hy | ⟨z, hz, hy⟩
      · exact hs y (.inl hy)
      · exact hs y (.inr ⟨z, ih (by omega) z hz, hy⟩)
    · have : n = m + 1 := by omega
      exact this ▸ fun _ h => h
theorem FrI.start {M r : List Int} (h : M.Nodup) (he : ∀ y ∈ M, ∃ e ∈ E, e.to_ = y) : FrI E typ M [] r 0 [] := ⟨by simpa using h, by simp, by simp, by simp, by simpa using he⟩
theorem OutI.start (id : Int) : OutI E typ id [] [id] 0 := ⟨.nil, by simp [Rch], by simp, by simp [Rch]⟩
theorem OutI.done {id : Int} {M r : List Int} {k m : Nat} (h : OutI E typ id M r k) (hf : FrI E typ M [] r r.length []) (hm : k ≤ m) (y : Int) : y ∈ M ↔ Rch E typ m id y := by
  have h1 := h.next hf
  rw [List.append_nil] at h1
  rw [h.mem]
  exact ⟨fun hy => hy.mono hm, Rch.stable (fun y hy => (h.mem y).1 ((h1.mem y).2 hy)) m hm y⟩

theorem QI.start (t : Int) : QI E typ t (nput (fun _ => none) t 0) [] [t] := by
  refine ⟨by simp, fun x => ?_, by simp [nput], ?_, by simp, by simp, ?_, by simp⟩
  · simp only [List.nil_append, List.mem_singleton, nput]
    constructor
    · rintro rfl; exact ⟨0, by simp⟩
    · rintro ⟨d, hd⟩
      by_cases hx : x = t
      · exact hx
      · simp [hx] at hd
  · intro x d hd
    by_cases hx : x = t
    · simp [nput, hx] at hd; subst hd; exact hx
    · simp [nput, hx] at hd
  · intro y s _ x d d' _ h2
    by_cases hx : x = t
    · simp [nput, hx] at h2; omega
    · simp [nput, hx] at h2
theorem QI.done {t : Int} {f : Int → Option Nat} {dn : List Int} (h : QI E typ t f dn []) (x : Int) (d : Nat) : f x = some d ↔ Dst E typ t d x := by
  have key : ∀ m x, Wlk E typ t m x → ∃ q, q ≤ m ∧ f x = some q := by
    intro m
    induction m with
    | zero => rintro x rfl; exact ⟨0, Nat.le_refl _, h.zero⟩
    | succ m ih =>
      rintro x ⟨z, hs, hw⟩
      obtain ⟨q, hq, hz⟩ := ih z hw
      obtain ⟨q', h1, h2⟩ := h.cls z (by have := (h.dom z).2 ⟨q, hz⟩; simpa using this) x q hs hz
      exact ⟨q', by omega, h2⟩
  constructor
  · intro hx
    refine ⟨h.walk x d hx, fun m hm hw => ?_⟩
    obtain ⟨q, hq, h2⟩ := key m x hw
    rw [hx] at h2
    cases h2
    omega
  · intro hx
    obtain ⟨q, hq, h2⟩ := key d x hx.1
    have := h.walk x q h2
    rcases Nat.lt_or_ge q d with r | r
    · exact absurd this (hx.2 q r)
    · have : q = d := by omega
      exact this ▸ h2
end
end Go.Hg

namespace Go.Hg

theorem getP_take {ps : List PProp} {name : ByteArray} {k : Nat} {p : PProp} (hk : ps[k]? = some p) (hp : p.name = name) (hall : ∀ q ∈ ps.take k, q.name ≠ name) : getP ps name = some p.v := by
  induction ps generalizing k with
  | nil => simp at hk
  | cons a t ih =>
    cases k with
    | zero =>
      simp at hk
      subst hk
      simp [getP, hp]
    | succ k =>
      have ha : a.name ≠ name := hall a (by simp)
      have h2 := ih (k := k) (by simpa using hk) (fun q hq => hall q (by simp [hq]))
      unfold getP at h2 ⊢
      rw [List.find?_cons_of_neg (by simpa using ha)]
      exact h2
theorem getP_none {ps : List PProp} {name : ByteArray} (hall : ∀ q ∈ ps, q.name ≠ name) : getP ps name = none := by
  unfold getP
  rw [List.find?_eq_none.2 (fun q hq => by simpa using hall q hq)]
  rfl

theorem formR_kind {r : PRule} (h : formR r = true) : r.kind = 1 ∨ r.kind = 2 ∨ r.kind = 3 ∨ r.kind = 4 := by
  unfold formR at h
  rw [Bool.and_eq_true] at h
  have h2 := h.2
  by_cases h12 : r.kind = 1 ∨ r.kind = 2
  · rcases h12 with h | h
    · exact .inl h
    · exact .inr (.inl h)
  · rw [if_neg h12] at h2
    by_cases h3 : r.kind = 3
    · exact .inr (.inr (.inl h3))
    · rw [if_neg h3] at h2
      by_cases h4 : r.kind = 4
      · exact .inr (.inr (.inr h4))
      · rw [if_neg h4] at h2; cases h2

def uniqR (nodes : List PNode) (r : PRule) : Bool := decide ((nodes.filterMap (valR r)).Nodup)
def mostR (edges : List PEdge) (r : PRule) : Bool := edges.all fun e => !decide (e.typ = r.typ) || decide ((outR edges r e.from_ : Int) ≤ r.n)
def holdR (nodes : List PNode) (edges : List PEdge) (r : PRule) : Bool :=
  if r.kind = 1 then uniqR nodes r else if r.kind = 2 then !nodes.any (lacksR r) else if r.kind = 3 then !edges.any (wrongR nodes r) else mostR edges r
def keepR (nodes : List PNode) (edges : List PEdge) (r : PRule) : Bool := formR r && holdR nodes edges r

theorem nodup_count {α : Type} [DecidableEq α] (l : List α) : l.Nodup ↔ ∀ v ∈ l, l.count v < 2 := by
  rw [List.nodup_iff_count]
  constructor
  · intro h v _
    have := h v
    omega
  · intro h v
    by_cases hv : v ∈ l
    · have := h v hv; omega
    · rw [List.count_eq_zero_of_not_mem hv]; omega
theorem uniqR_iff (nodes : List PNode) (r : PRule) : uniqR nodes r = !nodes.any (doubR nodes r) := by
  rw [Bool.eq_iff_iff, Bool.not_eq_true', List.any_eq_false]
  unfold uniqR
  rw [decide_eq_true_iff, nodup_count]
  constructor
  · intro h n hn
    unfold doubR
    cases hv : valR r n with
    | none => simp
    | some v =>
      have := h v (List.mem_filterMap.2 ⟨n, hn, hv⟩)
      simp
      omega
  · intro h v hv
    obtain ⟨n, hn, hv⟩ := List.mem_filterMap.1 hv
    have := h n hn
    unfold doubR at this
    rw [hv] at this
    simp at this
    exact this
end Go.Hg

namespace Go.Hg
open Go.RowKit Go.Proofs

theorem refNameB {s : ByteArray} {b : Bool} (hb : decide (NameOk s) = b) (w : World) : Calls Tryz.prog 59 #[.string s] w fun e w' => e = .returned (.bool b) ∧ w' = w := hb ▸ refName s w
end Go.Hg

namespace Go.Hg
open Go.RowKit Go.Proofs

def getV (ps : List PProp) (name : ByteArray) : PVal := (getP ps name).getD ⟨0, 0, ByteArray.empty⟩
theorem find_take {α : Type} {p : α → Bool} {l : List α} {k : Nat} {x : α} (hk : l[k]? = some x) (hp : p x = true) (hall : ∀ y ∈ l.take k, p y = false) : l.find? p = some x := by
  induction l generalizing k with
  | nil => simp at hk
  | cons a t ih =>
    cases k with
    | zero =>
      simp at hk
      subst hk
      rw [List.find?_cons_of_pos hp]
    | succ k =>
      rw [List.find?_cons_of_neg (by rw [hall a (by simp)]; simp)]
      exact ih (k := k) (by simpa using hk) (fun y hy => hall y (by simp [hy]))
theorem typeN_take {nodes : List PNode} {id : Int} {k : Nat} {x : PNode} (hk : nodes[k]? = some x) (hx : x.id = id) (hall : ∀ y ∈ nodes.take k, y.id ≠ id) : typeN nodes id = some x.typ := by
  unfold typeN
  rw [find_take hk (by simpa using hx) (fun y hy => by simpa using hall y hy)]
  rfl
theorem typeN_none {nodes : List PNode} {id : Int} (hall : ∀ y ∈ nodes, y.id ≠ id) : typeN nodes id = none := by
  unfold typeN
  rw [List.find?_eq_none.2 (fun y hy => by simpa using hall y hy)]
  rfl

set_option maxRecDepth 100000 in
set_option maxHeartbeats 2000000 in
theorem refGet (S : Nat → Prop) (v : Value) (ps : List PProp) (name : ByteArray) (w : World) (h : PropsR S w v ps) :
    Calls Tryz.prog 107 #[v, .string name] w fun e w' => e = .returned (.agg #[.int .i64 (getV ps name).kind, .int .i64 (getV ps name).n, .string (getV ps name).s, .bool (getP ps name).isSome]) ∧ Grow w w' := by
  obtain ⟨aa, ca, rfl, hal, hac, hA⟩ := SlR.open h
  clear h
  unfold maxLen at hac
  have HA := Lib.hid hA; clear hA
  have HNB := Lib.hid (show ∀ o1, (w.alloc o1).heap[w.heap.size]? = some o1 from fun o1 => heap_alloc_new w _)
  have HW := Lib.hid (show ∀ o1, Grow w (w.alloc o1) from fun o1 => (Grow.rfl' w).allocd o1)
  go_enter Tryz.func107, Tryz.ntmps107
  go_wp2
  go_loopg [5] ps.length (fun g i wr => ∃ k : Nat, k ≤ ps.length ∧ g = ps.length - k ∧ i = .int .i64 k ∧ (∀ y ∈ ps.take k, y.name ≠ name) ∧ Grow w wr ∧ wr.heap[w.heap.size]? = some (.cells #[.int .i64 0, .int .i64 0, .string ByteArray.empty, .bool false] 171 (0, 0)))
  case atStart => exact ⟨0, by omega, by omega, rfl, by simp, HW.out _, HNB.out _⟩
  case round =>
    obtain ⟨k, hk, rfl, rfl, hall, hgr, hnb⟩ := hrel
    have hnl := blk_lt hnb
    have HALL := Lib.hid hall; have HG := Lib.hid hgr; have HB := Lib.hid hnb
    have z0 : wr.cell? ⟨w.heap.size, 0, none⟩ = some (.int .i64 0) := by rw [blk_cell hnb]; rfl
    have zf0 := blk_free hnb 0
    have z1 : wr.cell? ⟨w.heap.size, 1, none⟩ = some (.int .i64 0) := by rw [blk_cell hnb]; rfl
    have zf1 := blk_free hnb 1
    have z2 : wr.cell? ⟨w.heap.size, 2, none⟩ = some (.string ByteArray.empty) := by rw [blk_cell hnb]; rfl
    have zf2 := blk_free hnb 2
    have z3 : wr.cell? ⟨w.heap.size, 3, none⟩ = some (.bool false) := by rw [blk_cell hnb]; rfl
    have zf3 := blk_free hnb 3
    clear hall hnb
    by_cases hkl : k < ps.length
    · obtain ⟨ba, oa, ra, rfl, hSa, hba, hRa, hca⟩ := HA.out k ps[k] (List.getElem?_eq_getElem hkl)
      obtain ⟨hba', a0, a1, a2, a3⟩ := hRa.at hba hgr hca
      clear hca hRa hSa hba hgr
      have HE := Lib.hid (show ps[k]? = some ps[k] from List.getElem?_eq_getElem hkl)
      have HT := Lib.hid (show ps.take (k + 1) = ps.take k ++ [ps[k]] from List.take_succ_eq_append_getElem hkl)
      generalize ps[k] = x at *
      by_cases hx : x.name = name
      · have HF := Lib.hid (getP_take HE.out hx HALL.out)
        go_wp2
        refine bodyPost_ret (v := .agg #[.int .i64 x.v.kind, .int .i64 x.v.n, .string x.v.s, .bool true]) ?_ rfl ⟨by unfold getV; rw [HF.out]; rfl, ?_⟩
        · rw [results_cell1 rfl]
          go_simp
        · exact ((((HG.out).setd (p := ⟨w.heap.size, 0, none⟩) (Nat.le_refl _) _).setd (p := ⟨w.heap.size, 1, none⟩) (Nat.le_refl _) _).setd (p := ⟨w.heap.size, 2, none⟩) (Nat.le_refl _) _).setd (p := ⟨w.heap.size, 3, none⟩) (Nat.le_refl _) _
      · have HX := Lib.hid hx
        go_wp2
        go_roundg (ps.length - (k + 1))
        case measure => omega
        case rel =>
          refine ⟨k + 1, by omega, rfl, by go_num, ?_, HG.out, HB.out⟩
          · rw [HT.out]
            intro y hy
            rcases List.mem_append.1 hy with h | h
            · exact HALL.out y h
            · rw [List.mem_singleton] at h
              subst h
              exact HX.out
    · have hkk : ps.take k = ps := List.take_of_length_le (by omega)
      rw [hkk] at HALL
      have HF := Lib.hid (getP_none HALL.out)
      clear hkk
      go_wp2
      refine bodyPost_ret (v := .agg #[.int .i64 0, .int .i64 0, .string ByteArray.empty, .bool false]) ?_ rfl ⟨by unfold getV; rw [HF.out]; rfl, ?_⟩
      · rw [results_cell1 rfl]
        go_simp
        rfl
      · exact ((((HG.out).setd (p := ⟨w.heap.size, 0, none⟩) (Nat.le_refl _) _).setd (p := ⟨w.heap.size, 1, none⟩) (Nat.le_refl _) _).setd (p := ⟨w.heap.size, 2, none⟩) (Nat.le_refl _) _).setd (p := ⟨w.heap.size, 3, none⟩) (Nat.le_refl _) _

set_option maxRecDepth 100000 in
set_option maxHeartbeats 2000000 in
theorem refIs (S : Nat → Prop) (v : Value) (nodes : List PNode) (id : Int) (typ : ByteArray) (w : World) (h : NodesR S w v nodes) :
    Calls Tryz.prog 109 #[v, .int .i64 id, .string typ] w fun e w' => e = .returned (.bool (isT nodes id typ)) ∧ w = w' := by
  obtain ⟨aa, ca, rfl, hal, hac, hA⟩ := SlR.open h
  clear h
  unfold maxLen at hac
  have HA := Lib.hid hA; clear hA
  go_enter Tryz.func109, Tryz.ntmps109
  go_wp2
  go_loopg [7] nodes.length (fun g i wr => ∃ k : Nat, k ≤ nodes.length ∧ g = nodes.length - k ∧ i = .int .i64 k ∧ (∀ y ∈ nodes.take k, y.id ≠ id) ∧ w = wr)
  case atStart => exact ⟨0, by omega, by omega, rfl, by simp, rfl⟩
  case round =>
    obtain ⟨k, hk, rfl, rfl, hall, rfl⟩ := hrel
    have HALL := Lib.hid hall
    clear hall
    by_cases hkl : k < nodes.length
    · obtain ⟨ba, oa, ra, rfl, hSa, hba, hRa, hca⟩ := HA.out k nodes[k] (List.getElem?_eq_getElem hkl)
      obtain ⟨pva, hba', a0, a1, a2, hpa⟩ := hRa.at hba (Grow.rfl' w) hca
      clear hca hRa hSa hba hpa
      have HE := Lib.hid (show nodes[k]? = some nodes[k] from List.getElem?_eq_getElem hkl)
      have HT := Lib.hid (show nodes.take (k + 1) = nodes.take k ++ [nodes[k]] from List.take_succ_eq_append_getElem hkl)
      generalize nodes[k] = x at *
      by_cases hx : x.id = id
      · have HF := Lib.hid (typeN_take HE.out hx HALL.out)
        go_wp2
        go_ret
        exact ⟨by unfold isT; rw [HF.out]; simp, rfl⟩
      · have HX := Lib.hid hx
        go_wp2
        go_roundg (nodes.length - (k + 1))
        case measure => omega
        case rel =>
          refine ⟨k + 1, by omega, rfl, by go_num, ?_, rfl⟩
          · rw [HT.out]
            intro y hy
            rcases List.mem_append.1 hy with h | h
            · exact HALL.out y h
            · rw [List.mem_singleton] at h
              subst h
              exact HX.out
    · have hkk : nodes.take k = nodes := List.take_of_length_le (by omega)
      rw [hkk] at HALL
      have HF := Lib.hid (typeN_none HALL.out)
      clear hkk
      go_wp2
      go_ret
      exact ⟨by unfold isT; rw [HF.out]; rfl, rfl⟩
end Go.Hg

namespace Go.Hg

theorem formR_most {r : PRule} (h : formR r = true) (k1 : r.kind ≠ 1) (k2 : r.kind ≠ 2) (k3 : r.kind ≠ 3) : 0 ≤ r.n := by
  have k4 : r.kind = 4 := by rcases formR_kind h with h | h | h | h <;> first | exact h | contradiction
  unfold formR at h
  rw [Bool.and_eq_true, if_neg (by rintro (h | h) <;> contradiction), if_neg k3, if_pos k4] at h
  simp only [Bool.and_eq_true, decide_eq_true_eq] at h
  exact h.2.2.2.2.1
theorem outR_pos {edges : List PEdge} {r : PRule} {x : Int} (h : 0 < outR edges r x) : ∃ e ∈ edges, e.typ = r.typ ∧ e.from_ = x := by
  unfold outR at h
  obtain ⟨e, he⟩ := List.exists_mem_of_length_pos h
  have h1 := List.mem_filter.1 he
  simp only [Bool.and_eq_true, decide_eq_true_eq] at h1
  exact ⟨e, h1.1, h1.2⟩
theorem BrokenR.nil_iff {nodes : List PNode} {edges : List PEdge} {r : PRule} {l : List Int} (h : BrokenR nodes edges r l) (hf : formR r = true) : keepR nodes edges r = decide (l = []) := by
  have h1 := h.2 hf
  unfold keepR holdR
  rw [hf, Bool.true_and]
  unfold BrkR at h1
  by_cases k1 : r.kind = 1
  · rw [if_pos k1] at h1 ⊢
    rw [uniqR_iff, h1, Bool.eq_iff_iff]
    simp [List.filter_eq_nil_iff]
  · rw [if_neg k1] at h1 ⊢
    by_cases k2 : r.kind = 2
    · rw [if_pos k2] at h1 ⊢
      rw [h1, Bool.eq_iff_iff]
      simp [List.filter_eq_nil_iff]
    · rw [if_neg k2] at h1 ⊢
      by_cases k3 : r.kind = 3
      · rw [if_pos k3] at h1 ⊢
        rw [h1, Bool.eq_iff_iff]
        simp [List.filter_eq_nil_iff]
      · rw [if_neg k3] at h1 ⊢
        have hn := formR_most hf k1 k2 k3
        rw [Bool.eq_iff_iff, decide_eq_true_eq]
        unfold mostR
        rw [List.all_eq_true]
        constructor
        · intro hall
          rw [List.eq_nil_iff_forall_not_mem]
          intro x hx
          have h2 := (h1.2 x).1 hx
          obtain ⟨e, he, ht, rfl⟩ := outR_pos (edges := edges) (r := r) (x := x) (by omega)
          have h3 := hall e he
          simp [ht] at h3
          omega
        · rintro rfl e he
          by_cases ht : e.typ = r.typ
          · have h3 : ¬ r.n < (outR edges r e.from_ : Int) := fun hc => absurd ((h1.2 e.from_).2 hc) (by simp)
            simp [ht]
            omega
          · simp [ht]

theorem outR_sub {l l' : List PEdge} (h : l.Sublist l') (r : PRule) (x : Int) : outR l r x ≤ outR l' r x := (h.filter _).length_le
end Go.Hg

namespace Go.Hg
open Go.RowKit Go.Proofs

theorem gAt_of {S : Nat → Prop} {B : Nat} {G : PGraph} {w : World} (h : GraphRd 120 S w B G) (hi : GInv G) : GAt (.pointer (some ⟨B, 0, none⟩)) G.nodes G.edges w := fun w' g =>
  ⟨(graphNodes S B G w' (h.grow g) (by have := hi.items; omega) (fun x hx => by have := (hi.nodesB x hx).2.2; omega)).mono fun e w2 ⟨v, ob, he, ho, hob, hg⟩ =>
    ⟨v, he, SlR.sub (ho.toSl (S := fun b => w'.heap.size ≤ b) hob) (fun _ h => h) (fun x r _ hR => hR.sub (fun b hb => hb.1)), hg⟩,
   (graphEdges S B G w' (h.grow g) (by have := hi.items; omega) (fun x hx => by have := (hi.edgesB x hx).2.2; omega)).mono fun e w2 ⟨v, ob, he, ho, hob, hg⟩ =>
    ⟨v, he, SlR.sub (ho.toSl (S := fun b => w'.heap.size ≤ b) hob) (fun _ h => h) (fun x r _ hR => hR.sub (fun b hb => hb.1)), hg⟩⟩
theorem nodesT {S : Nat → Prop} {w : World} {v : Value} {l : List PNode} (h : NodesR S w v l) : NodesR (fun _ => True) w v l := SlR.sub h (fun _ _ => trivial) (fun _ _ _ hR => hR.sub (fun _ _ => trivial))
theorem edgesT {S : Nat → Prop} {w : World} {v : Value} {l : List PEdge} (h : EdgesR S w v l) : EdgesR (fun _ => True) w v l := SlR.sub h (fun _ _ => trivial) (fun _ _ _ hR => hR.sub (fun _ _ => trivial))
end Go.Hg

namespace Go.Hg
open Go.RowKit Go.Proofs MapKept Go.Maps

theorem valR_eq (r : PRule) (x : PNode) : valR r x = if ((getP x.props r.name).isSome && decide (x.typ = r.typ)) = true then some (getV x.props r.name) else none := by
  unfold valR getV
  by_cases h : x.typ = r.typ
  · cases hp : getP x.props r.name <;> simp [h]
  · simp [h]

end Go.Hg

namespace Go.Hg
open Go.RowKit Go.Proofs

set_option maxRecDepth 100000 in
set_option maxHeartbeats 2000000 in
theorem refForm1 (id : Int) (typ name from_ to_ : ByteArray) (n state : Int) (w : World) : Calls Tryz.prog 18 #[(PRule.mk id 1 typ name from_ to_ n state).args] w fun e w' => e = .returned (.bool (formR ⟨id, 1, typ, name, from_, to_, n, state⟩)) ∧ Grow w w' := by
  have HW := Lib.hid (show ∀ o1, Grow w (w.alloc o1) from fun o1 => (Grow.rfl' w).allocd o1)
  have HB := Lib.hid (show ∀ o1 w', Grow (w.alloc o1) w' → w'.heap[w.heap.size]? = some o1 from fun o1 w' hg => by rw [hg.heapEq (by simp)]; exact heap_alloc_new w _)
  generalize hF : formR _ = F
  have HF := Lib.hid hF; clear hF
  obtain ⟨b1, hb1⟩ : ∃ b, decide (NameOk typ) = b := ⟨_, rfl⟩
  obtain ⟨b2, hb2⟩ : ∃ b, decide (NameOk name) = b := ⟨_, rfl⟩
  obtain ⟨b3, hb3⟩ : ∃ b, decide (NameOk from_) = b := ⟨_, rfl⟩
  obtain ⟨b4, hb4⟩ : ∃ b, decide (NameOk to_) = b := ⟨_, rfl⟩
  have H1 := Lib.hid hb1; have H2 := Lib.hid hb2; have H3 := Lib.hid hb3; have H4 := Lib.hid hb4
  clear hb1 hb2 hb3 hb4
  have HK := Lib.hid True.intro
  cases b1
  · skip
    have hF : F = false := by rw [← HF.out]; simp [formR, H1.out, *]
    subst hF
    clear HF
    go_enter Tryz.func18, Tryz.ntmps18
    go_wp2_with (go_at_call 59; (first | (with_reducible refine (refNameB H1.out _).mono ?_) | (with_reducible refine (refNameB H2.out _).mono ?_) | (with_reducible refine (refNameB H3.out _).mono ?_) | (with_reducible refine (refNameB H4.out _).mono ?_)); rintro e w3 ⟨rfl, rfl⟩)
    go_ret
    exact ⟨rfl, HW.out _⟩
  · skip
    cases b2
    · skip
      have hF : F = false := by rw [← HF.out]; simp [formR, H1.out, H2.out, *]
      subst hF
      clear HF
      go_enter Tryz.func18, Tryz.ntmps18
      go_wp2_with (go_at_call 59; (first | (with_reducible refine (refNameB H1.out _).mono ?_) | (with_reducible refine (refNameB H2.out _).mono ?_) | (with_reducible refine (refNameB H3.out _).mono ?_) | (with_reducible refine (refNameB H4.out _).mono ?_)); rintro e w3 ⟨rfl, rfl⟩)
      go_ret
      exact ⟨rfl, HW.out _⟩
    · skip
      by_cases h2 : from_ = ByteArray.empty
      · skip
        subst h2
        by_cases h3 : to_ = ByteArray.empty
        · skip
          subst h3
          by_cases h4 : n = 0
          · skip
            subst h4
            have hF : F = true := by rw [← HF.out]; simp [formR, H1.out, H2.out, *]
            subst hF
            clear HF
            go_enter Tryz.func18, Tryz.ntmps18
            go_wp2_with (go_at_call 59; (first | (with_reducible refine (refNameB H1.out _).mono ?_) | (with_reducible refine (refNameB H2.out _).mono ?_) | (with_reducible refine (refNameB H3.out _).mono ?_) | (with_reducible refine (refNameB H4.out _).mono ?_)); rintro e w3 ⟨rfl, rfl⟩)
            go_ret
            exact ⟨rfl, HW.out _⟩
          · skip
            have q4 : (n == 0) = false := by simpa using h4
            have hF : F = false := by rw [← HF.out]; simp [formR, H1.out, H2.out, *]
            subst hF
            clear HF
            go_enter Tryz.func18, Tryz.ntmps18
            go_wp2_with (go_at_call 59; (first | (with_reducible refine (refNameB H1.out _).mono ?_) | (with_reducible refine (refNameB H2.out _).mono ?_) | (with_reducible refine (refNameB H3.out _).mono ?_) | (with_reducible refine (refNameB H4.out _).mono ?_)); rintro e w3 ⟨rfl, rfl⟩)
            go_ret
            exact ⟨rfl, HW.out _⟩
        · skip
          have q3 : (to_.toList == ([] : List UInt8)) = false := (empty_beq to_).trans (decide_eq_false h3)
          have hF : F = false := by rw [← HF.out]; simp [formR, H1.out, H2.out, *]
          subst hF
          clear HF
          go_enter Tryz.func18, Tryz.ntmps18
          go_wp2_with (go_at_call 59; (first | (with_reducible refine (refNameB H1.out _).mono ?_) | (with_reducible refine (refNameB H2.out _).mono ?_) | (with_reducible refine (refNameB H3.out _).mono ?_) | (with_reducible refine (refNameB H4.out _).mono ?_)); rintro e w3 ⟨rfl, rfl⟩)
          go_ret
          exact ⟨rfl, HW.out _⟩
      · skip
        have q2 : (from_.toList == ([] : List UInt8)) = false := (empty_beq from_).trans (decide_eq_false h2)
        have hF : F = false := by rw [← HF.out]; simp [formR, H1.out, H2.out, *]
        subst hF
        clear HF
        go_enter Tryz.func18, Tryz.ntmps18
        go_wp2_with (go_at_call 59; (first | (with_reducible refine (refNameB H1.out _).mono ?_) | (with_reducible refine (refNameB H2.out _).mono ?_) | (with_reducible refine (refNameB H3.out _).mono ?_) | (with_reducible refine (refNameB H4.out _).mono ?_)); rintro e w3 ⟨rfl, rfl⟩)
        go_ret
        exact ⟨rfl, HW.out _⟩
set_option maxRecDepth 100000 in
set_option maxHeartbeats 2000000 in
theorem refForm2 (id : Int) (typ name from_ to_ : ByteArray) (n state : Int) (w : World) : Calls Tryz.prog 18 #[(PRule.mk id 2 typ name from_ to_ n state).args] w fun e w' => e = .returned (.bool (formR ⟨id, 2, typ, name, from_, to_, n, state⟩)) ∧ Grow w w' := by
  have HW := Lib.hid (show ∀ o1, Grow w (w.alloc o1) from fun o1 => (Grow.rfl' w).allocd o1)
  have HB := Lib.hid (show ∀ o1 w', Grow (w.alloc o1) w' → w'.heap[w.heap.size]? = some o1 from fun o1 w' hg => by rw [hg.heapEq (by simp)]; exact heap_alloc_new w _)
  generalize hF : formR _ = F
  have HF := Lib.hid hF; clear hF
  obtain ⟨b1, hb1⟩ : ∃ b, decide (NameOk typ) = b := ⟨_, rfl⟩
  obtain ⟨b2, hb2⟩ : ∃ b, decide (NameOk name) = b := ⟨_, rfl⟩
  obtain ⟨b3, hb3⟩ : ∃ b, decide (NameOk from_) = b := ⟨_, rfl⟩
  obtain ⟨b4, hb4⟩ : ∃ b, decide (NameOk to_) = b := ⟨_, rfl⟩
  have H1 := Lib.hid hb1; have H2 := Lib.hid hb2; have H3 := Lib.hid hb3; have H4 := Lib.hid hb4
  clear hb1 hb2 hb3 hb4
  have HK := Lib.hid True.intro
  cases b1
  · skip
    have hF : F = false := by rw [← HF.out]; simp [formR, H1.out, *]
    subst hF
    clear HF
    go_enter Tryz.func18, Tryz.ntmps18
    go_wp2_with (go_at_call 59; (first | (with_reducible refine (refNameB H1.out _).mono ?_) | (with_reducible refine (refNameB H2.out _).mono ?_) | (with_reducible refine (refNameB H3.out _).mono ?_) | (with_reducible refine (refNameB H4.out _).mono ?_)); rintro e w3 ⟨rfl, rfl⟩)
    go_ret
    exact ⟨rfl, HW.out _⟩
  · skip
    cases b2
    · skip
      have hF : F = false := by rw [← HF.out]; simp [formR, H1.out, H2.out, *]
      subst hF
      clear HF
      go_enter Tryz.func18, Tryz.ntmps18
      go_wp2_with (go_at_call 59; (first | (with_reducible refine (refNameB H1.out _).mono ?_) | (with_reducible refine (refNameB H2.out _).mono ?_) | (with_reducible refine (refNameB H3.out _).mono ?_) | (with_reducible refine (refNameB H4.out _).mono ?_)); rintro e w3 ⟨rfl, rfl⟩)
      go_ret
      exact ⟨rfl, HW.out _⟩
    · skip
      by_cases h2 : from_ = ByteArray.empty
      · skip
        subst h2
        by_cases h3 : to_ = ByteArray.empty
        · skip
          subst h3
          by_cases h4 : n = 0
          · skip
            subst h4
            have hF : F = true := by rw [← HF.out]; simp [formR, H1.out, H2.out, *]
            subst hF
            clear HF
            go_enter Tryz.func18, Tryz.ntmps18
            go_wp2_with (go_at_call 59; (first | (with_reducible refine (refNameB H1.out _).mono ?_) | (with_reducible refine (refNameB H2.out _).mono ?_) | (with_reducible refine (refNameB H3.out _).mono ?_) | (with_reducible refine (refNameB H4.out _).mono ?_)); rintro e w3 ⟨rfl, rfl⟩)
            go_ret
            exact ⟨rfl, HW.out _⟩
          · skip
            have q4 : (n == 0) = false := by simpa using h4
            have hF : F = false := by rw [← HF.out]; simp [formR, H1.out, H2.out, *]
            subst hF
            clear HF
            go_enter Tryz.func18, Tryz.ntmps18
            go_wp2_with (go_at_call 59; (first | (with_reducible refine (refNameB H1.out _).mono ?_) | (with_reducible refine (refNameB H2.out _).mono ?_) | (with_reducible refine (refNameB H3.out _).mono ?_) | (with_reducible refine (refNameB H4.out _).mono ?_)); rintro e w3 ⟨rfl, rfl⟩)
            go_ret
            exact ⟨rfl, HW.out _⟩
        · skip
          have q3 : (to_.toList == ([] : List UInt8)) = false := (empty_beq to_).trans (decide_eq_false h3)
          have hF : F = false := by rw [← HF.out]; simp [formR, H1.out, H2.out, *]
          subst hF
          clear HF
          go_enter Tryz.func18, Tryz.ntmps18
          go_wp2_with (go_at_call 59; (first | (with_reducible refine (refNameB H1.out _).mono ?_) | (with_reducible refine (refNameB H2.out _).mono ?_) | (with_reducible refine (refNameB H3.out _).mono ?_) | (with_reducible refine (refNameB H4.out _).mono ?_)); rintro e w3 ⟨rfl, rfl⟩)
          go_ret
          exact ⟨rfl, HW.out _⟩
      · skip
        have q2 : (from_.toList == ([] : List UInt8)) = false := (empty_beq from_).trans (decide_eq_false h2)
        have hF : F = false := by rw [← HF.out]; simp [formR, H1.out, H2.out, *]
        subst hF
        clear HF
        go_enter Tryz.func18, Tryz.ntmps18
        go_wp2_with (go_at_call 59; (first | (with_reducible refine (refNameB H1.out _).mono ?_) | (with_reducible refine (refNameB H2.out _).mono ?_) | (with_reducible refine (refNameB H3.out _).mono ?_) | (with_reducible refine (refNameB H4.out _).mono ?_)); rintro e w3 ⟨rfl, rfl⟩)
        go_ret
        exact ⟨rfl, HW.out _⟩
set_option maxRecDepth 100000 in
set_option maxHeartbeats 2000000 in
theorem refForm3 (id : Int) (typ name from_ to_ : ByteArray) (n state : Int) (w : World) : Calls Tryz.prog 18 #[(PRule.mk id 3 typ name from_ to_ n state).args] w fun e w' => e = .returned (.bool (formR ⟨id, 3, typ, name, from_, to_, n, state⟩)) ∧ Grow w w' := by
  have HW := Lib.hid (show ∀ o1, Grow w (w.alloc o1) from fun o1 => (Grow.rfl' w).allocd o1)
  have HB := Lib.hid (show ∀ o1 w', Grow (w.alloc o1) w' → w'.heap[w.heap.size]? = some o1 from fun o1 w' hg => by rw [hg.heapEq (by simp)]; exact heap_alloc_new w _)
  generalize hF : formR _ = F
  have HF := Lib.hid hF; clear hF
  obtain ⟨b1, hb1⟩ : ∃ b, decide (NameOk typ) = b := ⟨_, rfl⟩
  obtain ⟨b2, hb2⟩ : ∃ b, decide (NameOk name) = b := ⟨_, rfl⟩
  obtain ⟨b3, hb3⟩ : ∃ b, decide (NameOk from_) = b := ⟨_, rfl⟩
  obtain ⟨b4, hb4⟩ : ∃ b, decide (NameOk to_) = b := ⟨_, rfl⟩
  have H1 := Lib.hid hb1; have H2 := Lib.hid hb2; have H3 := Lib.hid hb3; have H4 := Lib.hid hb4
  clear hb1 hb2 hb3 hb4
  have HK := Lib.hid True.intro
  cases b1
  · skip
    have hF : F = false := by rw [← HF.out]; simp [formR, H1.out, *]
    subst hF
    clear HF
    go_enter Tryz.func18, Tryz.ntmps18
    go_wp2_with (go_at_call 59; (first | (with_reducible refine (refNameB H1.out _).mono ?_) | (with_reducible refine (refNameB H2.out _).mono ?_) | (with_reducible refine (refNameB H3.out _).mono ?_) | (with_reducible refine (refNameB H4.out _).mono ?_)); rintro e w3 ⟨rfl, rfl⟩)
    go_ret
    exact ⟨rfl, HW.out _⟩
  · skip
    by_cases h1 : name = ByteArray.empty
    · skip
      subst h1
      cases b3
      · skip
        have hF : F = false := by rw [← HF.out]; simp [formR, H1.out, H3.out, *]
        subst hF
        clear HF
        go_enter Tryz.func18, Tryz.ntmps18
        go_wp2_with (go_at_call 59; (first | (with_reducible refine (refNameB H1.out _).mono ?_) | (with_reducible refine (refNameB H2.out _).mono ?_) | (with_reducible refine (refNameB H3.out _).mono ?_) | (with_reducible refine (refNameB H4.out _).mono ?_)); rintro e w3 ⟨rfl, rfl⟩)
        go_ret
        exact ⟨rfl, HW.out _⟩
      · skip
        cases b4
        · skip
          have hF : F = false := by rw [← HF.out]; simp [formR, H1.out, H3.out, H4.out, *]
          subst hF
          clear HF
          go_enter Tryz.func18, Tryz.ntmps18
          go_wp2_with (go_at_call 59; (first | (with_reducible refine (refNameB H1.out _).mono ?_) | (with_reducible refine (refNameB H2.out _).mono ?_) | (with_reducible refine (refNameB H3.out _).mono ?_) | (with_reducible refine (refNameB H4.out _).mono ?_)); rintro e w3 ⟨rfl, rfl⟩)
          go_ret
          exact ⟨rfl, HW.out _⟩
        · skip
          by_cases h4 : n = 0
          · skip
            subst h4
            have hF : F = true := by rw [← HF.out]; simp [formR, H1.out, H3.out, H4.out, *]
            subst hF
            clear HF
            go_enter Tryz.func18, Tryz.ntmps18
            go_wp2_with (go_at_call 59; (first | (with_reducible refine (refNameB H1.out _).mono ?_) | (with_reducible refine (refNameB H2.out _).mono ?_) | (with_reducible refine (refNameB H3.out _).mono ?_) | (with_reducible refine (refNameB H4.out _).mono ?_)); rintro e w3 ⟨rfl, rfl⟩)
            go_ret
            exact ⟨rfl, HW.out _⟩
          · skip
            have q4 : (n == 0) = false := by simpa using h4
            have hF : F = false := by rw [← HF.out]; simp [formR, H1.out, H3.out, H4.out, *]
            subst hF
            clear HF
            go_enter Tryz.func18, Tryz.ntmps18
            go_wp2_with (go_at_call 59; (first | (with_reducible refine (refNameB H1.out _).mono ?_) | (with_reducible refine (refNameB H2.out _).mono ?_) | (with_reducible refine (refNameB H3.out _).mono ?_) | (with_reducible refine (refNameB H4.out _).mono ?_)); rintro e w3 ⟨rfl, rfl⟩)
            go_ret
            exact ⟨rfl, HW.out _⟩
    · skip
      have q1 : (name.toList == ([] : List UInt8)) = false := (empty_beq name).trans (decide_eq_false h1)
      have hF : F = false := by rw [← HF.out]; simp [formR, H1.out, *]
      subst hF
      clear HF
      go_enter Tryz.func18, Tryz.ntmps18
      go_wp2_with (go_at_call 59; (first | (with_reducible refine (refNameB H1.out _).mono ?_) | (with_reducible refine (refNameB H2.out _).mono ?_) | (with_reducible refine (refNameB H3.out _).mono ?_) | (with_reducible refine (refNameB H4.out _).mono ?_)); rintro e w3 ⟨rfl, rfl⟩)
      go_ret
      exact ⟨rfl, HW.out _⟩
set_option maxRecDepth 100000 in
set_option maxHeartbeats 2000000 in
theorem refForm4 (id : Int) (typ name from_ to_ : ByteArray) (n state : Int) (w : World) : Calls Tryz.prog 18 #[(PRule.mk id 4 typ name from_ to_ n state).args] w fun e w' => e = .returned (.bool (formR ⟨id, 4, typ, name, from_, to_, n, state⟩)) ∧ Grow w w' := by
  have HW := Lib.hid (show ∀ o1, Grow w (w.alloc o1) from fun o1 => (Grow.rfl' w).allocd o1)
  have HB := Lib.hid (show ∀ o1 w', Grow (w.alloc o1) w' → w'.heap[w.heap.size]? = some o1 from fun o1 w' hg => by rw [hg.heapEq (by simp)]; exact heap_alloc_new w _)
  generalize hF : formR _ = F
  have HF := Lib.hid hF; clear hF
  obtain ⟨b1, hb1⟩ : ∃ b, decide (NameOk typ) = b := ⟨_, rfl⟩
  obtain ⟨b2, hb2⟩ : ∃ b, decide (NameOk name) = b := ⟨_, rfl⟩
  obtain ⟨b3, hb3⟩ : ∃ b, decide (NameOk from_) = b := ⟨_, rfl⟩
  obtain ⟨b4, hb4⟩ : ∃ b, decide (NameOk to_) = b := ⟨_, rfl⟩
  have H1 := Lib.hid hb1; have H2 := Lib.hid hb2; have H3 := Lib.hid hb3; have H4 := Lib.hid hb4
  clear hb1 hb2 hb3 hb4
  have HK := Lib.hid True.intro
  cases b1
  · skip
    have hF : F = false := by rw [← HF.out]; simp [formR, H1.out, *]
    subst hF
    clear HF
    go_enter Tryz.func18, Tryz.ntmps18
    go_wp2_with (go_at_call 59; (first | (with_reducible refine (refNameB H1.out _).mono ?_) | (with_reducible refine (refNameB H2.out _).mono ?_) | (with_reducible refine (refNameB H3.out _).mono ?_) | (with_reducible refine (refNameB H4.out _).mono ?_)); rintro e w3 ⟨rfl, rfl⟩)
    go_ret
    exact ⟨rfl, HW.out _⟩
  · skip
    by_cases h1 : name = ByteArray.empty
    · skip
      subst h1
      by_cases h2 : from_ = ByteArray.empty
      · skip
        subst h2
        by_cases h3 : to_ = ByteArray.empty
        · skip
          subst h3
          by_cases h4 : 0 ≤ n
          · skip
            have q4 : decide (0 ≤ n) = true := by simpa using h4
            by_cases h5 : n ≤ 1024
            · skip
              have q5 : decide (n ≤ 1024) = true := by simpa using h5
              have hF : F = true := by rw [← HF.out]; simp [formR, H1.out, *]
              subst hF
              clear HF
              go_enter Tryz.func18, Tryz.ntmps18
              go_wp2_with (go_at_call 59; (first | (with_reducible refine (refNameB H1.out _).mono ?_) | (with_reducible refine (refNameB H2.out _).mono ?_) | (with_reducible refine (refNameB H3.out _).mono ?_) | (with_reducible refine (refNameB H4.out _).mono ?_)); rintro e w3 ⟨rfl, rfl⟩)
              go_ret
              exact ⟨rfl, HW.out _⟩
            · skip
              have q5 : decide (n ≤ 1024) = false := by simpa using h5
              have hF : F = false := by rw [← HF.out]; simp [formR, H1.out, *]
              subst hF
              clear HF
              go_enter Tryz.func18, Tryz.ntmps18
              go_wp2_with (go_at_call 59; (first | (with_reducible refine (refNameB H1.out _).mono ?_) | (with_reducible refine (refNameB H2.out _).mono ?_) | (with_reducible refine (refNameB H3.out _).mono ?_) | (with_reducible refine (refNameB H4.out _).mono ?_)); rintro e w3 ⟨rfl, rfl⟩)
              go_ret
              exact ⟨rfl, HW.out _⟩
          · skip
            have q4 : decide (0 ≤ n) = false := by simpa using h4
            have hF : F = false := by rw [← HF.out]; simp [formR, H1.out, *]
            subst hF
            clear HF
            go_enter Tryz.func18, Tryz.ntmps18
            go_wp2_with (go_at_call 59; (first | (with_reducible refine (refNameB H1.out _).mono ?_) | (with_reducible refine (refNameB H2.out _).mono ?_) | (with_reducible refine (refNameB H3.out _).mono ?_) | (with_reducible refine (refNameB H4.out _).mono ?_)); rintro e w3 ⟨rfl, rfl⟩)
            go_ret
            exact ⟨rfl, HW.out _⟩
        · skip
          have q3 : (to_.toList == ([] : List UInt8)) = false := (empty_beq to_).trans (decide_eq_false h3)
          have hF : F = false := by rw [← HF.out]; simp [formR, H1.out, *]
          subst hF
          clear HF
          go_enter Tryz.func18, Tryz.ntmps18
          go_wp2_with (go_at_call 59; (first | (with_reducible refine (refNameB H1.out _).mono ?_) | (with_reducible refine (refNameB H2.out _).mono ?_) | (with_reducible refine (refNameB H3.out _).mono ?_) | (with_reducible refine (refNameB H4.out _).mono ?_)); rintro e w3 ⟨rfl, rfl⟩)
          go_ret
          exact ⟨rfl, HW.out _⟩
      · skip
        have q2 : (from_.toList == ([] : List UInt8)) = false := (empty_beq from_).trans (decide_eq_false h2)
        have hF : F = false := by rw [← HF.out]; simp [formR, H1.out, *]
        subst hF
        clear HF
        go_enter Tryz.func18, Tryz.ntmps18
        go_wp2_with (go_at_call 59; (first | (with_reducible refine (refNameB H1.out _).mono ?_) | (with_reducible refine (refNameB H2.out _).mono ?_) | (with_reducible refine (refNameB H3.out _).mono ?_) | (with_reducible refine (refNameB H4.out _).mono ?_)); rintro e w3 ⟨rfl, rfl⟩)
        go_ret
        exact ⟨rfl, HW.out _⟩
    · skip
      have q1 : (name.toList == ([] : List UInt8)) = false := (empty_beq name).trans (decide_eq_false h1)
      have hF : F = false := by rw [← HF.out]; simp [formR, H1.out, *]
      subst hF
      clear HF
      go_enter Tryz.func18, Tryz.ntmps18
      go_wp2_with (go_at_call 59; (first | (with_reducible refine (refNameB H1.out _).mono ?_) | (with_reducible refine (refNameB H2.out _).mono ?_) | (with_reducible refine (refNameB H3.out _).mono ?_) | (with_reducible refine (refNameB H4.out _).mono ?_)); rintro e w3 ⟨rfl, rfl⟩)
      go_ret
      exact ⟨rfl, HW.out _⟩
set_option maxRecDepth 100000 in
set_option maxHeartbeats 2000000 in
theorem refForm0 (id kind : Int) (typ name from_ to_ : ByteArray) (n state : Int) (hk : kind ≠ 1 ∧ kind ≠ 2 ∧ kind ≠ 3 ∧ kind ≠ 4) (w : World) : Calls Tryz.prog 18 #[(PRule.mk id kind typ name from_ to_ n state).args] w fun e w' => e = .returned (.bool (formR ⟨id, kind, typ, name, from_, to_, n, state⟩)) ∧ Grow w w' := by
  have HW := Lib.hid (show ∀ o1, Grow w (w.alloc o1) from fun o1 => (Grow.rfl' w).allocd o1)
  have HB := Lib.hid (show ∀ o1 w', Grow (w.alloc o1) w' → w'.heap[w.heap.size]? = some o1 from fun o1 w' hg => by rw [hg.heapEq (by simp)]; exact heap_alloc_new w _)
  generalize hF : formR _ = F
  have HF := Lib.hid hF; clear hF
  obtain ⟨b1, hb1⟩ : ∃ b, decide (NameOk typ) = b := ⟨_, rfl⟩
  obtain ⟨b2, hb2⟩ : ∃ b, decide (NameOk name) = b := ⟨_, rfl⟩
  obtain ⟨b3, hb3⟩ : ∃ b, decide (NameOk from_) = b := ⟨_, rfl⟩
  obtain ⟨b4, hb4⟩ : ∃ b, decide (NameOk to_) = b := ⟨_, rfl⟩
  have H1 := Lib.hid hb1; have H2 := Lib.hid hb2; have H3 := Lib.hid hb3; have H4 := Lib.hid hb4
  clear hb1 hb2 hb3 hb4
  obtain ⟨k1, k2, k3, k4⟩ := hk
  have HK := Lib.hid (And.intro k1 (And.intro k2 (And.intro k3 k4)))
  cases b1
  · skip
    have hF : F = false := by rw [← HF.out]; simp [formR, HK.out, H1.out, *]
    subst hF
    clear HF
    go_enter Tryz.func18, Tryz.ntmps18
    go_wp2_with (go_at_call 59; (first | (with_reducible refine (refNameB H1.out _).mono ?_) | (with_reducible refine (refNameB H2.out _).mono ?_) | (with_reducible refine (refNameB H3.out _).mono ?_) | (with_reducible refine (refNameB H4.out _).mono ?_)); rintro e w3 ⟨rfl, rfl⟩)
    go_ret
    exact ⟨rfl, HW.out _⟩
  · skip
    have hF : F = false := by rw [← HF.out]; simp [formR, HK.out, H1.out, *]
    subst hF
    clear HF
    go_enter Tryz.func18, Tryz.ntmps18
    go_wp2_with (go_at_call 59; (first | (with_reducible refine (refNameB H1.out _).mono ?_) | (with_reducible refine (refNameB H2.out _).mono ?_) | (with_reducible refine (refNameB H3.out _).mono ?_) | (with_reducible refine (refNameB H4.out _).mono ?_)); rintro e w3 ⟨rfl, rfl⟩)
    go_ret
    exact ⟨rfl, HW.out _⟩
theorem refForm (r : PRule) (w : World) : Calls Tryz.prog 18 #[r.args] w fun e w' => e = .returned (.bool (formR r)) ∧ Grow w w' := by
  obtain ⟨id, kind, typ, name, from_, to_, n, state⟩ := r
  by_cases k1 : kind = 1
  · subst k1; exact refForm1 id typ name from_ to_ n state w
  by_cases k2 : kind = 2
  · subst k2; exact refForm2 id typ name from_ to_ n state w
  by_cases k3 : kind = 3
  · subst k3; exact refForm3 id typ name from_ to_ n state w
  by_cases k4 : kind = 4
  · subst k4; exact refForm4 id typ name from_ to_ n state w
  exact refForm0 id kind typ name from_ to_ n state ⟨k1, k2, k3, k4⟩ w

end Go.Hg

namespace Go.Hg

theorem touchR_append (S T : List PSpot) (r : PRule) : touchR (S ++ T) r = (touchR S r || touchR T r) := by
  unfold touchR
  rw [Bool.eq_iff_iff]
  split
  · simp
  · split
    · simp only [List.mem_append, Bool.or_eq_true, decide_eq_true_eq]
      constructor
      · rintro ((h | h) | (h | h))
        · exact .inl (.inl h)
        · exact .inr (.inl h)
        · exact .inl (.inr h)
        · exact .inr (.inr h)
      · rintro ((h | h) | (h | h))
        · exact .inl (.inl h)
        · exact .inr (.inl h)
        · exact .inl (.inr h)
        · exact .inr (.inr h)
    · split
      · simp
      · simp

theorem getP_find (ps : List PProp) (n : ByteArray) : getP ps n = (ps.filter fun p => decide (p.name = n)).head?.map (·.v) := by
  unfold getP
  rw [List.head?_filter]
theorem fil_other {ps : List PProp} {name n : ByteArray} (h : n ≠ name) : ((fil ps name).filter fun p => decide (p.name = n)) = ps.filter fun p => decide (p.name = n) := by
  unfold fil
  rw [List.filter_filter]
  refine List.filter_congr fun p _ => ?_
  by_cases hp : p.name = n
  · subst hp
    simp [h]
  · simp [hp]
theorem ins_other {ps : List PProp} {x : PProp} {n : ByteArray} (h : n ≠ x.name) : ((ins ps x).filter fun p => decide (p.name = n)) = ps.filter fun p => decide (p.name = n) := by
  unfold ins
  rw [List.filter_append, List.filter_cons_of_neg (by simpa using Ne.symm h), ← List.filter_append, List.takeWhile_append_dropWhile]
theorem getP_setP {ps : List PProp} {name n : ByteArray} (v : PVal) (h : n ≠ name) : getP (setP ps name v) n = getP ps n := by
  rw [getP_find, getP_find]
  unfold setP
  split
  · rw [fil_other h]
  · rw [ins_other (x := ⟨name, v⟩) h, fil_other h]

theorem typeN_filter {nodes : List PNode} {p : PNode → Bool} {id : Int} (h : ∀ x ∈ nodes, x.id = id → p x = true) : typeN (nodes.filter p) id = typeN nodes id := by
  unfold typeN
  rw [← List.head?_filter, ← List.head?_filter, List.filter_filter]
  congr 2
  refine List.filter_congr fun x hx => ?_
  by_cases hi : x.id = id
  · simp [hi, h x hx hi]
  · simp [hi]
theorem typeN_map {nodes : List PNode} {f : PNode → PNode} (h : ∀ x, (f x).id = x.id ∧ (f x).typ = x.typ) (id : Int) : typeN (nodes.map f) id = typeN nodes id := by
  unfold typeN
  rw [List.find?_map]
  have : ((fun x : PNode => decide (x.id = id)) ∘ f) = fun x => decide (x.id = id) := by
    funext x
    simp [(h x).1]
  rw [this]
  cases nodes.find? fun x => decide (x.id = id) with
  | none => rfl
  | some x => simp [(h x).2]
theorem typeN_snoc {nodes : List PNode} {x : PNode} {id : Int} (h : (typeN nodes id).isSome = true) : typeN (nodes ++ [x]) id = typeN nodes id := by
  unfold typeN at h ⊢
  rw [List.find?_append]
  cases hf : nodes.find? fun x => decide (x.id = id) with
  | none => rw [hf] at h; cases h
  | some y => rfl
theorem isT_some {nodes : List PNode} {id : Int} {t : ByteArray} (h : isT nodes id t = true) : (typeN nodes id).isSome = true := by
  unfold isT at h
  rw [of_decide_eq_true h]
  rfl
theorem fmap_congr {α β : Type} {f g : α → Option β} : ∀ {l : List α}, (∀ x ∈ l, f x = g x) → l.filterMap f = l.filterMap g
  | [], _ => rfl
  | a :: t, h => by
    rw [List.filterMap_cons, List.filterMap_cons, h a (.head _), fmap_congr fun x hx => h x (.tail _ hx)]
theorem uniqR_sub {l l' : List PNode} (h : l.Sublist l') (r : PRule) (hu : uniqR l' r = true) : uniqR l r = true := by
  unfold uniqR at hu ⊢
  exact decide_eq_true ((of_decide_eq_true hu).sublist (h.filterMap _))
theorem mostR_sub {l l' : List PEdge} (h : l.Sublist l') (r : PRule) (hu : mostR l' r = true) : mostR l r = true := by
  unfold mostR at hu ⊢
  rw [List.all_eq_true] at hu ⊢
  intro e he
  have h1 := hu e (h.subset he)
  have h2 := outR_sub h r e.from_
  simp only [Bool.or_eq_true, decide_eq_true_eq] at h1 ⊢
  rcases h1 with h1 | h1
  · exact .inl h1
  · exact .inr (by omega)
theorem any_sub {α : Type} {l l' : List α} (h : l.Sublist l') {p : α → Bool} (hu : l'.any p = false) : l.any p = false := by
  rw [List.any_eq_false] at hu ⊢
  exact fun x hx => hu x (h.subset hx)
theorem outR_map {l : List PEdge} {f : PEdge → PEdge} (h : ∀ x, (f x).typ = x.typ ∧ (f x).from_ = x.from_) (r : PRule) (x : Int) : outR (l.map f) r x = outR l r x := by
  unfold outR
  rw [List.filter_map, List.length_map]
  congr 2
  funext e
  simp [(h e).1, (h e).2]
theorem outR_snoc {l : List PEdge} {e : PEdge} {r : PRule} (h : e.typ ≠ r.typ) (x : Int) : outR (l ++ [e]) r x = outR l r x := by
  unfold outR
  rw [List.filter_append, List.filter_cons_of_neg (by simp [h])]
  simp

theorem holdR_kinds {nodes : List PNode} {edges : List PEdge} {r : PRule} (hf : formR r = true) : holdR nodes edges r = true ↔
    (r.kind = 1 → uniqR nodes r = true) ∧ (r.kind = 2 → nodes.any (lacksR r) = false) ∧ (r.kind = 3 → edges.any (wrongR nodes r) = false) ∧ (r.kind = 4 → mostR edges r = true) := by
  unfold holdR
  rcases formR_kind hf with h | h | h | h <;> simp [h]

theorem hold_step {G : PGraph} {o : POp} {c : PCat} {r : PRule} (hG : GInv G) (hf : formR r = true) (_ : mayG c o G = 0) (ht : touchR (noteG G o) r = false) (hh : holdR G.nodes G.edges r = true) : holdR (doG o G).nodes (doG o G).edges r = true := by
  rw [holdR_kinds hf] at hh ⊢
  obtain ⟨h1, h2, h3, h4⟩ := hh
  by_cases k1 : o.kind = 1
  · have e : doG o G = addNodeG o G := by unfold doG; rw [if_pos k1]
    have en : noteG G o = [⟨1, o.typ, ByteArray.empty⟩] := by unfold noteG; rw [if_pos k1]
    rw [en] at ht
    rw [e]
    refine ⟨fun hk => ?_, fun hk => ?_, fun hk => ?_, fun hk => h4 hk⟩
    · have := h1 hk
      unfold uniqR at this ⊢
      show decide (((G.nodes ++ [PNode.mk G.next o.typ []]).filterMap (valR r)).Nodup) = true
      rw [List.filterMap_append]
      have hv : valR r ⟨G.next, o.typ, []⟩ = none := by unfold valR getP; split <;> rfl
      rw [List.filterMap_cons_none hv]
      simpa using this
    · show (G.nodes ++ [PNode.mk G.next o.typ []]).any (lacksR r) = false
      rw [List.any_append, h2 hk]
      unfold touchR at ht
      rw [if_neg (by omega), if_pos hk] at ht
      simp only [List.mem_singleton, PSpot.mk.injEq, true_and, Bool.or_eq_false_iff, decide_eq_false_iff_not, and_true] at ht
      simp [lacksR, Ne.symm ht.2]
    · have h5 := h3 hk
      rw [List.any_eq_false] at h5 ⊢
      intro x hx hw
      refine h5 x hx ?_
      unfold wrongR at hw ⊢
      simp only [Bool.and_eq_true, Bool.not_eq_true', decide_eq_true_eq] at hw ⊢
      refine ⟨hw.1, ?_⟩
      cases ha : isT G.nodes x.from_ r.from_ && isT G.nodes x.to_ r.to_
      · rfl
      · exfalso
        rw [Bool.and_eq_true] at ha
        have hw2 := hw.2
        unfold isT addNodeG at hw2
        simp only at hw2
        rw [typeN_snoc (isT_some ha.1), typeN_snoc (isT_some ha.2)] at hw2
        unfold isT at ha
        rw [ha.1, ha.2] at hw2
        cases hw2
  · by_cases k2 : o.kind = 2
    · have e : doG o G = dropNodeG o G := by unfold doG; rw [if_neg k1, if_pos k2]
      rw [e]
      unfold dropNodeG
      refine ⟨fun hk => uniqR_sub List.filter_sublist r (h1 hk), fun hk => any_sub List.filter_sublist (h2 hk), fun hk => ?_, fun hk => mostR_sub List.filter_sublist r (h4 hk)⟩
      have h5 := h3 hk
      rw [List.any_eq_false] at h5 ⊢
      intro x hx hw
      obtain ⟨hx1, hx2⟩ := List.mem_filter.1 hx
      refine h5 x hx1 ?_
      unfold atE at hx2
      simp only [Bool.not_eq_true', decide_eq_false_iff_not, not_or] at hx2
      unfold wrongR isT at hw ⊢
      simp only at hw
      rw [typeN_filter (fun y _ hy => by simp; omega), typeN_filter (fun y _ hy => by simp; omega)] at hw
      exact hw
    · by_cases k3 : o.kind = 3
      · have e : doG o G = addEdgeG o G := by unfold doG; rw [if_neg k1, if_neg k2, if_pos k3]
        have en : noteG G o = [⟨2, o.typ, ByteArray.empty⟩] := by unfold noteG; rw [if_neg k1, if_pos k3]
        rw [en] at ht
        rw [e]
        unfold addEdgeG
        refine ⟨h1, h2, fun hk => ?_, fun hk => ?_⟩
        · unfold touchR at ht
          rw [if_neg (by omega), if_neg (by omega), if_pos (by omega)] at ht
          simp only [List.mem_singleton, PSpot.mk.injEq, true_and, decide_eq_false_iff_not, and_true] at ht
          rw [List.any_append, h3 hk]
          simp [wrongR, Ne.symm ht]
        · unfold touchR at ht
          rw [if_neg (by omega), if_neg (by omega), if_pos (by omega)] at ht
          simp only [List.mem_singleton, PSpot.mk.injEq, true_and, decide_eq_false_iff_not, and_true] at ht
          have h5 := h4 hk
          unfold mostR at h5 ⊢
          rw [List.all_eq_true] at h5 ⊢
          intro x hx
          rcases List.mem_append.1 hx with hx | hx
          · have := h5 x hx
            rw [outR_snoc (Ne.symm ht)]
            exact this
          · rw [List.mem_singleton] at hx
            subst hx
            simp [Ne.symm ht]
      · by_cases k4 : o.kind = 4
        · have e : doG o G = dropEdgeG o G := by unfold doG; rw [if_neg k1, if_neg k2, if_neg k3, if_pos k4]
          rw [e]
          unfold dropEdgeG
          exact ⟨h1, h2, fun hk => any_sub List.filter_sublist (h3 hk), fun hk => mostR_sub List.filter_sublist r (h4 hk)⟩
        · by_cases k5 : o.kind = 5
          · have e : doG o G = setPropG o G := by unfold doG; rw [if_neg k1, if_neg k2, if_neg k3, if_neg k4, if_pos k5]
            rw [e]
            unfold setPropG
            by_cases hn : hasN G o.id = true
            · rw [if_pos hn]
              have en : ∃ n, n ∈ G.nodes ∧ n.id = o.id ∧ PSpot.mk 1 n.typ o.name ∈ noteG G o := by
                unfold hasN at hn
                obtain ⟨n0, hn0, hd⟩ := List.any_eq_true.1 hn
                obtain ⟨n, hfn, hmn, hpn⟩ := find_some_of (p := fun x : PNode => decide (x.id = o.id)) hn0 hd
                refine ⟨n, hmn, by simpa using hpn, ?_⟩
                unfold noteG
                rw [if_neg k1, if_neg k3, if_neg k2, if_neg k4, if_pos k5, hfn]
                simp
              obtain ⟨n, hmn, hid, hsp⟩ := en
              have hval : ∀ x ∈ G.nodes, (r.kind = 1 ∨ r.kind = 2) → x.id = o.id → x.typ = r.typ → r.name ≠ o.name := by
                intro x hx hk hxi hxt hre
                have hxn : x = n := uniq_id hG.nodes hx hmn (by rw [hxi, hid])
                subst hxn
                rw [← hre, hxt] at hsp
                unfold touchR at ht
                rcases hk with hk | hk
                · rw [if_pos hk] at ht
                  simp [hsp] at ht
                · rw [if_neg (by omega), if_pos hk] at ht
                  simp [hsp] at ht
              refine ⟨fun hk => ?_, fun hk => ?_, fun hk => ?_, h4⟩
              · have h5 := h1 hk
                unfold uniqR at h5 ⊢
                rw [List.filterMap_map]
                have : (G.nodes.filterMap (valR r ∘ fun x => if x.id = o.id then ⟨x.id, x.typ, setP x.props o.name o.v⟩ else x)) = G.nodes.filterMap (valR r) := by
                  refine fmap_congr fun x hx => ?_
                  simp only [Function.comp]
                  by_cases hxi : x.id = o.id
                  · rw [if_pos hxi]
                    unfold valR
                    simp only
                    by_cases hxt : x.typ = r.typ
                    · rw [if_pos hxt, if_pos hxt, getP_setP _ (hval x hx (.inl hk) hxi hxt)]
                    · rw [if_neg hxt, if_neg hxt]
                  · rw [if_neg hxi]
                rw [this]
                exact h5
              · have h5 := h2 hk
                rw [List.any_eq_false] at h5 ⊢
                intro y hy
                obtain ⟨x, hx, rfl⟩ := List.mem_map.1 hy
                have h6 := h5 x hx
                by_cases hxi : x.id = o.id
                · rw [if_pos hxi]
                  unfold lacksR at h6 ⊢
                  simp only
                  by_cases hxt : x.typ = r.typ
                  · rw [getP_setP _ (hval x hx (.inr hk) hxi hxt)]
                    exact h6
                  · simp [hxt]
                · rw [if_neg hxi]
                  exact h6
              · have h5 := h3 hk
                rw [List.any_eq_false] at h5 ⊢
                intro x hx
                have h6 := h5 x hx
                unfold wrongR isT at h6 ⊢
                simp only
                rw [typeN_map (fun y => by by_cases hy : y.id = o.id <;> simp [hy]), typeN_map (fun y => by by_cases hy : y.id = o.id <;> simp [hy])]
                exact h6
            · rw [if_neg hn]
              refine ⟨h1, h2, fun hk => ?_, fun hk => ?_⟩
              · have h5 := h3 hk
                rw [List.any_eq_false] at h5 ⊢
                intro y hy
                obtain ⟨x, hx, rfl⟩ := List.mem_map.1 hy
                have h6 := h5 x hx
                by_cases hxi : x.id = o.id
                · rw [if_pos hxi]; exact h6
                · rw [if_neg hxi]; exact h6
              · have h5 := h4 hk
                unfold mostR at h5 ⊢
                rw [List.all_eq_true] at h5 ⊢
                intro y hy
                obtain ⟨x, hx, rfl⟩ := List.mem_map.1 hy
                have h6 := h5 x hx
                rw [outR_map (fun y => by by_cases hy : y.id = o.id <;> simp [hy])]
                by_cases hxi : x.id = o.id
                · rw [if_pos hxi]; exact h6
                · rw [if_neg hxi]; exact h6
          · have e : doG o G = G := by unfold doG; rw [if_neg k1, if_neg k2, if_neg k3, if_neg k4, if_neg k5]
            rw [e]
            exact ⟨h1, h2, h3, h4⟩
theorem hold_run {G : PGraph} {r : PRule} (hG : GInv G) (hf : formR r = true) (l : List POp) (ht : touchR (spotsG G l) r = false) (hh : holdR G.nodes G.edges r = true) : holdR (runG G l).nodes (runG G l).edges r = true := by
  induction l generalizing G with
  | nil => exact hh
  | cons o t ih =>
    unfold spotsG at ht
    rw [touchR_append, Bool.or_eq_false_iff] at ht
    refine ih hG.stepG ht.2 ?_
    unfold stepG
    by_cases hm : mayG (catO o) o G = 0
    · rw [if_pos hm] at ht ⊢
      exact hold_step hG hf hm ht.1 hh
    · rw [if_neg hm]
      exact hh
end Go.Hg

namespace Go.Hg

theorem SpSet.touch {l S : List PSpot} (h : SpSet l S) (r : PRule) : touchR l r = touchR S r := by
  unfold touchR
  simp only [h.2]
end Go.Hg

namespace Go.Hg
open Go.RowKit Go.Proofs

def ltV (a b : PVal) : Bool := decide (a.kind < b.kind) || (decide (a.kind = b.kind) && (decide (a.n < b.n) || (decide (a.n = b.n) && ltS a.s b.s)))
def cmpV (a b : PVal) : Int := if ltV a b = true then -1 else if a = b then 0 else 1
theorem ltV_irrefl (a : PVal) : ltV a a = false := by simp [ltV, ltS_irrefl]
theorem cmpV_zero (a b : PVal) : decide (cmpV a b = 0) = decide (a = b) := by
  unfold cmpV
  by_cases h : a = b
  · subst h; rw [ltV_irrefl]; simp
  · by_cases h2 : ltV a b = true <;> simp [h, h2]
theorem pval_eq (a b : PVal) : a = b ↔ a.kind = b.kind ∧ a.n = b.n ∧ a.s = b.s := by
  constructor
  · rintro rfl; exact ⟨rfl, rfl, rfl⟩
  · intro h; cases a; cases b; simp_all

set_option maxRecDepth 100000 in
set_option maxHeartbeats 2000000 in
theorem refCompare (a b : PVal) (w : World) :
    Calls Tryz.prog 108 #[a.args, b.args] w fun e w' => e = .returned (.int .i64 (cmpV a b)) ∧ Grow w w' := by
  have HW := Lib.hid (show ∀ o1 o2, Grow w ((w.alloc o1).alloc o2) from fun o1 o2 => ((Grow.rfl' w).allocd o1).allocd o2)
  have HE := Lib.hid (show a = b ↔ _ from pval_eq a b)
  obtain ⟨k1, hk1⟩ : ∃ x, decide (a.kind < b.kind) = x := ⟨_, rfl⟩
  obtain ⟨k2, hk2⟩ : ∃ x, (a.kind == b.kind) = x := ⟨_, rfl⟩
  obtain ⟨n1, hn1⟩ : ∃ x, decide (a.n < b.n) = x := ⟨_, rfl⟩
  obtain ⟨n2, hn2⟩ : ∃ x, (a.n == b.n) = x := ⟨_, rfl⟩
  obtain ⟨s1, hs1⟩ : ∃ x, Op.bytesLess a.s.toList b.s.toList = x := ⟨_, rfl⟩
  obtain ⟨s2, hs2⟩ : ∃ x, decide (a.s = b.s) = x := ⟨_, rfl⟩
  have HC := Lib.hid (show cmpV a b = if (k1 || (k2 && (n1 || (n2 && s1)))) = true then -1 else if (k2 && (n2 && s2)) = true then 0 else 1 by
    unfold cmpV ltV ltS
    rw [hk1, ← hk2, hn1, ← hn2, hs1]
    simp only [int_beq]
    congr 1
    by_cases h : a = b
    · have h2 := HE.out.1 h
      rw [if_pos h, if_pos (by rw [← hs2]; simp [h2])]
    · rw [if_neg h, if_neg (fun hh => h (HE.out.2 (by rw [← hs2] at hh; simpa using hh)))])
  cases k1
  · cases k2
    · go_enter Tryz.func108, Tryz.ntmps108
      go_wp2
      go_ret
      exact ⟨by rw [HC.out]; rfl, HW.out _ _⟩
    · cases n1
      · cases n2
        · go_enter Tryz.func108, Tryz.ntmps108
          go_wp2
          go_ret
          exact ⟨by rw [HC.out]; rfl, HW.out _ _⟩
        · cases s1
          · cases s2
            · go_enter Tryz.func108, Tryz.ntmps108
              go_wp2
              go_ret
              exact ⟨by rw [HC.out]; rfl, HW.out _ _⟩
            · go_enter Tryz.func108, Tryz.ntmps108
              go_wp2
              go_ret
              exact ⟨by rw [HC.out]; rfl, HW.out _ _⟩
          · go_enter Tryz.func108, Tryz.ntmps108
            go_wp2
            go_ret
            exact ⟨by rw [HC.out]; rfl, HW.out _ _⟩
      · go_enter Tryz.func108, Tryz.ntmps108
        go_wp2
        go_ret
        exact ⟨by rw [HC.out]; rfl, HW.out _ _⟩
  · go_enter Tryz.func108, Tryz.ntmps108
    go_wp2
    go_ret
    exact ⟨by rw [HC.out]; rfl, HW.out _ _⟩
end Go.Hg

namespace Go.Hg
open Go.RowKit Go.Proofs

theorem filt_snoc {α : Type} {l : List α} {p : α → Bool} (f : α → Int) {j : Nat} {x : α} (hT : l.take (j + 1) = l.take j ++ [x]) {fl : List Int} (hfl : ((l.take j).filter p).map f = fl) {b : Bool} (hb : p x = b) :
    ((l.take (j + 1)).filter p).map f = if b = true then fl ++ [f x] else fl := by
  rw [hT, List.filter_append, ← hfl, List.map_append]
  cases b
  · rw [if_neg (by simp)]; simp [hb]
  · rw [if_pos rfl]; simp [hb]
theorem refIsB {S : Nat → Prop} {v : Value} {nodes : List PNode} {id : Int} {typ : ByteArray} {w : World} {b : Bool} (h : NodesR S w v nodes) (hb : isT nodes id typ = b) :
    Calls Tryz.prog 109 #[v, .int .i64 id, .string typ] w fun e w' => e = .returned (.bool b) ∧ Grow w w' := by
  subst hb
  exact (refIs S v nodes id typ w h).mono fun e w' ⟨he, hw⟩ => ⟨he, by subst hw; exact Grow.rfl' _⟩

set_option maxRecDepth 100000 in
set_option maxHeartbeats 1000000 in
theorem refBrokenNo (nv ev : Value) (N : List PNode) (E : List PEdge) (r : PRule) (w : World) (hf : formR r = false) :
    Calls Tryz.prog 58 #[nv, ev, r.args] w (RBrkPost N E r w) := by
  have HF := Lib.hid hf
  have HW := Lib.hid (show ∀ o1, Grow w (w.alloc o1) from fun o1 => (Grow.rfl' w).allocd o1)
  clear hf
  go_enter Tryz.func58, Tryz.ntmps58
  go_wp2_with fail
  refine (refForm r _).mono ?_
  rintro e w2 ⟨rfl, g2⟩
  have HG2 := Lib.hid ((HW.out _).step g2)
  rw [HF.out]
  clear g2
  go_wp2
  go_ret
  exact ⟨_, [], rfl, ⟨fun _ => rfl, fun h => absurd h (by rw [HF.out]; simp)⟩, IdsW.nil _ _, HG2.out⟩

set_option maxRecDepth 100000 in
set_option maxHeartbeats 4000000 in
theorem refBrokenEnds (S : Nat → Prop) (nv ev : Value) (N : List PNode) (E : List PEdge) (r : PRule) (w : World) (hn : NodesR S w nv N) (he : EdgesR S w ev E) (hb : E.length ≤ 1099511627776) (hf : formR r = true) (hk : r.kind = 3) :
    Calls Tryz.prog 58 #[nv, ev, r.args] w (RBrkPost N E r w) := by
  have HF := Lib.hid hf; have HK := Lib.hid hk; have HBD := Lib.hid hb; have HN := Lib.hid hn
  have HW := Lib.hid (show ∀ o1, Grow w (w.alloc o1) from fun o1 => (Grow.rfl' w).allocd o1)
  obtain ⟨_, _, rfl, _⟩ := SlR.open hn
  obtain ⟨ae, ce, rfl, hel, hec, hE⟩ := SlR.open he
  unfold maxLen at hec
  have HE := Lib.hid hE
  clear hf hk hb hn he hE
  go_enter Tryz.func58, Tryz.ntmps58
  go_wp2_with fail
  refine (refForm r _).mono ?_
  rintro e w2 ⟨rfl, g2⟩
  have HG2 := Lib.hid ((HW.out _).step g2)
  have HRB := Lib.hid (ruleBoxNew w r w2 g2)
  obtain ⟨hrl, c1, c2, c3, c4, c5, c6, c7, c0⟩ := HRB.out.cells
  rw [HF.out]
  rw [HK.out] at c1
  have HI0 := Lib.hid (IdsW.nil w2.heap.size w2)
  clear g2
  go_wp2
  clear c1 c2 c3 c4 c5 c6 c7 c0
  go_loopg [7, 13] E.length (fun g lv i wr => ∃ j : Nat, j ≤ E.length ∧ g = E.length - j ∧ i = .int .i64 j ∧ IdsW w2.heap.size wr lv (((E.take j).filter (wrongR N r)).map (·.id)) ∧ Grow w2 wr)
  case atStart => exact ⟨0, by omega, by omega, rfl, HI0.out, Grow.rfl' w2⟩
  case round =>
    obtain ⟨j, hj, rfl, rfl, hi, hz⟩ := hrel
    obtain ⟨oa, co, rfl, _, _⟩ := hi.isSlice
    have HI := Lib.hid hi; have HZ := Lib.hid hz
    clear hi
    by_cases hjl : j < E.length
    · obtain ⟨ba, oa', ra, rfl, hSa, hba, hRa, hca⟩ := HE.out j E[j] (List.getElem?_eq_getElem hjl)
      have HX := Lib.hid (show ∀ w', Grow w w' → ba < w'.heap.size ∧ w'.cell? ⟨ba, oa' + j * 5, none⟩ = some (.int .i64 E[j].id) ∧ w'.cell? ⟨ba, oa' + j * 5 + 1, none⟩ = some (.string E[j].typ) ∧ w'.cell? ⟨ba, oa' + j * 5 + 2, none⟩ = some (.int .i64 E[j].from_) ∧ w'.cell? ⟨ba, oa' + j * 5 + 3, none⟩ = some (.int .i64 E[j].to_) from fun w' g => by
        obtain ⟨pva, h1, h2, h3, h4, h5, _, _⟩ := hRa.at hba g hca
        exact ⟨h1, h2, h3, h4, h5⟩)
      clear hca hRa hSa hba hz
      have HT := Lib.hid (show E.take (j + 1) = E.take j ++ [E[j]] from List.take_succ_eq_append_getElem hjl)
      have HLE := Lib.hid (show (((E.take j).filter (wrongR N r)).map (·.id)).length ≤ E.length by
        rw [List.length_map]
        exact Nat.le_trans (List.length_filter_le _ _) (by rw [List.length_take]; omega))
      generalize E[j] = x at *
      obtain ⟨bt, hbt⟩ : ∃ b, decide (x.typ = r.typ) = b := ⟨_, rfl⟩
      obtain ⟨bf, hbf⟩ : ∃ b, isT N x.from_ r.from_ = b := ⟨_, rfl⟩
      obtain ⟨bo, hbo⟩ : ∃ b, isT N x.to_ r.to_ = b := ⟨_, rfl⟩
      have HV := Lib.hid (show wrongR N r x = (bt && !(bf && bo)) by unfold wrongR; rw [hbt, hbf, hbo])
      have HBF := Lib.hid hbf; have HBO := Lib.hid hbo
      clear hbf hbo
      generalize hfl : ((E.take j).filter (wrongR N r)).map (·.id) = fl at *
      have HFF := Lib.hid hfl
      clear hfl
      have HWR := Lib.hid (HG2.out.step HZ.out)
      have HNR := Lib.hid (show ∀ g : Gr wr, NodesR S g.x _ N from fun g => HN.out.grow (HWR.out.step g.h))
      obtain ⟨hal, a0, a1, a2, a3⟩ := HX.out wr HWR.out
      obtain ⟨hrl', c1, c2, c3, c4, c5, c6, c7, c0⟩ := (HRB.out.grow HZ.out).cells
      clear c1 c3 c6 c7 c0
      have HD := Lib.hid (filt_snoc (·.id) HT.out HFF.out HV.out)
      clear HV
      have HYES := Lib.hid (show ∀ (w4 : World), Grow wr w4 → ∀ o1, Grow w2 (w4.alloc o1) ∧ IdsW w2.heap.size (w4.alloc o1) (.slice oa fl.length co) fl from fun w4 h o1 => ⟨(HZ.out.step h).allocd o1, (HI.out.grow h).grow ((Grow.rfl' w4).allocd o1)⟩)
      have HNO := Lib.hid (show ∀ (w4 : World), Grow wr w4 → Grow w2 w4 ∧ IdsW w2.heap.size w4 (.slice oa fl.length co) fl from fun w4 h => ⟨HZ.out.step h, HI.out.grow h⟩)
      cases bt
      · go_wp2_with fail
        refine wp_region_grow (by kernel_rfl) (by kernel_rfl) ?_
        repeat (go_big_quiet_step (fail))
        refine wpQuiet_nil ?_
        intro w4 hw4
        go_wp2_with fail
        go_roundg (E.length - (j + 1))
        case measure => omega
        case rel => exact ⟨j + 1, by omega, rfl, by go_num, by rw [HD.out, if_neg (by simp)]; exact (HNO.out _ hw4).2, (HNO.out _ hw4).1⟩
      · cases bf
        · go_wp2_with fail
          refine wp_region_grow (by kernel_rfl) (by kernel_rfl) ?_
          repeat (go_big_quiet_step (exact calls_gr (refIsB (HNR.out _) HBF.out)))
          refine wpQuiet_nil ?_
          intro w4 hw4
          have HW4 := Lib.hid hw4
          have hx := HX.out _ (HWR.out.step hw4)
          obtain ⟨hal4, b0, -, -, -⟩ := hx
          have hzs := (HNO.out _ hw4).1.size
          clear a0 a1 a2 a3 hal hw4 c2 c4 c5
          go_wp2_with (at_builtin; go_must (refine wpList_append_I rfl (.tmp 149) (.tmp 155) 32 rfl Tryz.underlying32 w2.heap.size _ fl rfl (HYES.out _ HW4.out _).2 x.id _ rfl (rd1 _ _ _ (by simp)) (by simp; omega) (by have := HLE.out; have := HBD.out; omega) ?_))
          intro v5 w6 k1 k2 k3
          have H5 := Lib.hid k1; have HG5 := Lib.hid ((HYES.out _ HW4.out _).1.since k2 (Nat.le_refl _))
          clear k1 k2 k3
          go_wp2
          go_roundg (E.length - (j + 1))
          case measure => omega
          case rel => exact ⟨j + 1, by omega, rfl, by go_num, by rw [HD.out, if_pos (by simp)]; exact H5.out, HG5.out⟩
        · cases bo
          · go_wp2_with fail
            refine wp_region_grow (by kernel_rfl) (by kernel_rfl) ?_
            repeat (go_big_quiet_step (first | exact calls_gr (refIsB (HNR.out _) HBF.out) | exact calls_gr (refIsB (HNR.out _) HBO.out)))
            refine wpQuiet_nil ?_
            intro w4 hw4
            have HW4 := Lib.hid hw4
            have hx := HX.out _ (HWR.out.step hw4)
            obtain ⟨hal4, b0, -, -, -⟩ := hx
            have hzs := (HNO.out _ hw4).1.size
            clear a0 a1 a2 a3 hal hw4 c2 c4 c5
            go_wp2_with (at_builtin; go_must (refine wpList_append_I rfl (.tmp 149) (.tmp 155) 32 rfl Tryz.underlying32 w2.heap.size _ fl rfl (HYES.out _ HW4.out _).2 x.id _ rfl (rd1 _ _ _ (by simp)) (by simp; omega) (by have := HLE.out; have := HBD.out; omega) ?_))
            intro v5 w6 k1 k2 k3
            have H5 := Lib.hid k1; have HG5 := Lib.hid ((HYES.out _ HW4.out _).1.since k2 (Nat.le_refl _))
            clear k1 k2 k3
            go_wp2
            go_roundg (E.length - (j + 1))
            case measure => omega
            case rel => exact ⟨j + 1, by omega, rfl, by go_num, by rw [HD.out, if_pos (by simp)]; exact H5.out, HG5.out⟩
          · go_wp2_with fail
            refine wp_region_grow (by kernel_rfl) (by kernel_rfl) ?_
            repeat (go_big_quiet_step (first | exact calls_gr (refIsB (HNR.out _) HBF.out) | exact calls_gr (refIsB (HNR.out _) HBO.out)))
            refine wpQuiet_nil ?_
            intro w4 hw4
            go_wp2_with fail
            go_roundg (E.length - (j + 1))
            case measure => omega
            case rel => exact ⟨j + 1, by omega, rfl, by go_num, by rw [HD.out, if_neg (by simp)]; exact (HNO.out _ hw4).2, (HNO.out _ hw4).1⟩
    · have hkk : E.take j = E := List.take_of_length_le (by omega)
      rw [hkk] at HI
      simp only [hkk]
      have HR := Lib.hid (RBrkPost.of (N := N) (E := E) (r := r) ⟨fun h => absurd h (by rw [HF.out]; simp), fun _ => by unfold BrkR; rw [if_neg (by have := HK.out; omega), if_neg (by have := HK.out; omega), if_pos HK.out]⟩ (by have := HK.out; omega) HI.out HG2.out HZ.out)
      clear hkk
      go_wp2
      go_ret
      exact HR.out
end Go.Hg

namespace Go.Hg
open Go.RowKit Go.Proofs

theorem firstE_step {E : List PEdge} {r : PRule} {y : Int} {j k : Nat} {e : PEdge} (hT : E.take (k + 1) = E.take k ++ [e]) : firstE E r y j (k + 1) = if mtE r y e = true then (firstE E r y j k && decide (j ≤ k)) else firstE E r y j k := by
  unfold firstE
  by_cases hk : j ≤ k
  · rw [Nat.min_eq_right (by omega), Nat.min_eq_right hk]
    by_cases h : mtE r y e = true <;> simp [h, hk]
  · rw [Nat.min_eq_left (by omega), Nat.min_eq_left (by omega), outR_take hT]
    by_cases h : mtE r y e = true
    · simp [h, hk]
    · simp [h]
theorem MostI.start (E : List PEdge) (r : PRule) : MostI E r 0 [] := ⟨.nil, fun y => by simp [outR]⟩
theorem MostI.done {E : List PEdge} {r : PRule} {l : List Int} (h : MostI E r E.length l) (hn : 0 ≤ r.n) : l.Nodup ∧ ∀ y, y ∈ l ↔ r.n < (outR E r y : Int) := by
  refine ⟨h.1, fun y => ?_⟩
  rw [h.2, List.take_length]
  constructor
  · exact fun g => g.1
  · exact fun g => ⟨g, by omega⟩

set_option maxRecDepth 100000 in
set_option maxHeartbeats 8000000 in
theorem refBrokenMost (S : Nat → Prop) (nv ev : Value) (N : List PNode) (E : List PEdge) (r : PRule) (w : World) (hn : NodesR S w nv N) (he : EdgesR S w ev E) (hb : E.length ≤ 1099511627776) (hf : formR r = true) (hk : r.kind = 4) :
    Calls Tryz.prog 58 #[nv, ev, r.args] w (RBrkPost N E r w) := by
  have HF := Lib.hid hf; have HK := Lib.hid hk; have HBD := Lib.hid hb
  have HW := Lib.hid (show ∀ o1, Grow w (w.alloc o1) from fun o1 => (Grow.rfl' w).allocd o1)
  obtain ⟨_, _, rfl, _⟩ := SlR.open hn
  obtain ⟨ae, ce, rfl, hel, hec, hE⟩ := SlR.open he
  unfold maxLen at hec
  have HE := Lib.hid (show ∀ (j : Nat) (hj : j < E.length), ∃ ba oa, ae = some ⟨ba, oa, none⟩ ∧ ∀ w', Grow w w' → ba < w'.heap.size ∧ w'.cell? ⟨ba, oa + j * 5 + 1, none⟩ = some (.string E[j].typ) ∧ w'.cell? ⟨ba, oa + j * 5 + 2, none⟩ = some (.int .i64 E[j].from_) from fun j hj => by
    obtain ⟨ba, oa', ra, rfl, hSa, hba, hRa, hca⟩ := hE j E[j] (List.getElem?_eq_getElem hj)
    refine ⟨ba, oa', rfl, fun w' g => ?_⟩
    obtain ⟨pva, h1, h2, h3, h4, h5, _, _⟩ := hRa.at hba g hca
    exact ⟨h1, h3, h4⟩)
  clear hf hk hb hn he hE
  go_enter Tryz.func58, Tryz.ntmps58
  go_wp2_with fail
  refine (refForm r _).mono ?_
  rintro e w2 ⟨rfl, g2⟩
  have HG2 := Lib.hid ((HW.out _).step g2)
  have HRB := Lib.hid (ruleBoxNew w r w2 g2)
  obtain ⟨hrl, c1, c2, c3, c4, c5, c6, c7, c0⟩ := HRB.out.cells
  rw [HF.out]
  rw [HK.out] at c1
  have HI0 := Lib.hid (IdsW.nil w2.heap.size w2)
  have HM0 := Lib.hid (MostI.start E r)
  clear g2
  go_wp2
  clear c1 c2 c3 c4 c5 c6 c7 c0
  go_loopg [7, 14] E.length (fun g lv i wr => ∃ (j : Nat) (l : List Int), j ≤ E.length ∧ g = E.length - j ∧ i = .int .i64 j ∧ MostI E r j l ∧ l.length ≤ j ∧ IdsW w2.heap.size wr lv l ∧ Grow w2 wr)
  case atStart => exact ⟨0, [], by omega, by omega, rfl, HM0.out, by simp, HI0.out, Grow.rfl' w2⟩
  case round =>
    obtain ⟨j, l, hj, rfl, rfl, hmi, hll, hi, hz⟩ := hrel
    obtain ⟨oa, co, rfl, _, _⟩ := hi.isSlice
    have HI := Lib.hid hi; have HZ := Lib.hid hz; have HMI := Lib.hid hmi; have HLL := Lib.hid hll
    clear hi hmi hll
    by_cases hjl : j < E.length
    · obtain ⟨ba, oa', rfl, hXj⟩ := HE.out j hjl
      have HX := Lib.hid hXj
      have HE1 := Lib.hid (show ∀ (k : Nat) (hk : k < E.length), ∀ w', Grow w w' → w'.cell? ⟨ba, oa' + k * 5 + 1, none⟩ = some (.string E[k].typ) ∧ w'.cell? ⟨ba, oa' + k * 5 + 2, none⟩ = some (.int .i64 E[k].from_) from fun k hk w' g => by
        obtain ⟨b1, o1, h1, h2⟩ := HE.out k hk
        cases h1
        exact (h2 w' g).2)
      have HT := Lib.hid (show E.take (j + 1) = E.take j ++ [E[j]] from List.take_succ_eq_append_getElem hjl)
      clear hXj
      generalize E[j] = x at *
      have HWR := Lib.hid (HG2.out.step HZ.out)
      obtain ⟨wo, rfl⟩ : ∃ wo, wo = wr := ⟨_, rfl⟩
      have hn0 := formR_most HF.out (by have := HK.out; omega) (by have := HK.out; omega) (by have := HK.out; omega)
      have HF0 := Lib.hid (show true = firstE E r x.from_ j 0 by simp [firstE, outR])
      clear hz
      go_wp2
      go_loopg [15, 16, 17] E.length (fun g nv fv kv wr => ∃ (k : Nat) (fb : Bool), k ≤ E.length ∧ g = E.length - k ∧ kv = .int .i64 k ∧ nv = .int .i64 (outR (E.take k) r x.from_ : Nat) ∧ fv = .bool fb ∧ fb = firstE E r x.from_ j k ∧ Grow wo wr)
      case atStart => exact ⟨0, true, by omega, by omega, rfl, rfl, rfl, HF0.out, Grow.rfl' wo⟩
      case round =>
        obtain ⟨k, fb, hk, rfl, rfl, rfl, rfl, hfb, hgo⟩ := hrel
        have HFB := Lib.hid hfb; have HGO := Lib.hid hgo
        have hol : outR (E.take k) r x.from_ ≤ k := by
          unfold outR
          exact Nat.le_trans (List.length_filter_le _ _) (by rw [List.length_take]; omega)
        clear hfb hgo
        by_cases hkl : k < E.length
        · have HTK := Lib.hid (show E.take (k + 1) = E.take k ++ [E[k]] from List.take_succ_eq_append_getElem hkl)
          have HXK := Lib.hid (HE1.out k hkl)
          generalize E[k] = y at *
          obtain ⟨b0, b1⟩ := HXK.out wr (HWR.out.step HGO.out)
          obtain ⟨hal, a1, a2⟩ := HX.out wr (HWR.out.step HGO.out)
          obtain ⟨hrl', c1, c2, c3, c4, c5, c6, c7, c0⟩ := (HRB.out.grow (HZ.out.step HGO.out)).cells
          have HOT := Lib.hid (outR_take (r := r) (y := x.from_) HTK.out)
          have HFS := Lib.hid (firstE_step (r := r) (y := x.from_) (j := j) HTK.out)
          have HNO := Lib.hid (show ∀ (w4 : World), Grow wr w4 → Grow wo w4 from fun w4 h => HGO.out.step h)
          obtain ⟨bt, hbt⟩ : ∃ b, decide (y.typ = r.typ) = b := ⟨_, rfl⟩
          obtain ⟨bf, hbf⟩ : ∃ b, (y.from_ == x.from_) = b := ⟨_, rfl⟩
          obtain ⟨bk, hbk⟩ : ∃ b, decide (j ≤ k) = b := ⟨_, rfl⟩
          have HMT := Lib.hid (show mtE r x.from_ y = (bt && bf) by unfold mtE; rw [hbt, ← hbf, int_beq])
          have HBK := Lib.hid hbk
          generalize outR (E.take k) r x.from_ = n at *
          clear c1 c3 c4 c5 c6 c7 c0
          cases bt
          · go_wp2_with fail
            refine wp_region_grow (by kernel_rfl) (by kernel_rfl) ?_
            repeat (go_big_quiet_step (fail))
            refine wpQuiet_nil ?_
            intro w4 hw4
            go_wp2_with fail
            go_roundg (E.length - (k + 1))
            case measure => omega
            case rel => exact ⟨k + 1, fb, by omega, rfl, by go_num, by rw [HOT.out, if_neg (by rw [HMT.out]; simp)]; rfl, rfl, by rw [HFS.out, if_neg (by rw [HMT.out]; simp)]; exact HFB.out, HNO.out _ hw4⟩
          · cases bf
            · go_wp2_with fail
              refine wp_region_grow (by kernel_rfl) (by kernel_rfl) ?_
              repeat (go_big_quiet_step (fail))
              refine wpQuiet_nil ?_
              intro w4 hw4
              go_wp2_with fail
              go_roundg (E.length - (k + 1))
              case measure => omega
              case rel => exact ⟨k + 1, fb, by omega, rfl, by go_num, by rw [HOT.out, if_neg (by rw [HMT.out]; simp)]; rfl, rfl, by rw [HFS.out, if_neg (by rw [HMT.out]; simp)]; exact HFB.out, HNO.out _ hw4⟩
            · go_wp2_with fail
              refine wp_region_grow (by kernel_rfl) (by kernel_rfl) ?_
              repeat (go_big_quiet_step (fail))
              refine wpQuiet_nil ?_
              intro w4 hw4
              have HW4 := Lib.hid hw4
              clear hw4
              cases fb
              · go_wp2_with fail
                go_roundg (E.length - (k + 1))
                case measure => omega
                case rel => exact ⟨k + 1, false, by omega, rfl, by go_num, by rw [HOT.out, if_pos (by rw [HMT.out]; rfl)]; go_num, rfl, by rw [HFS.out, if_pos (by rw [HMT.out]; rfl), ← HFB.out]; rfl, HNO.out _ HW4.out⟩
              · go_wp2_with fail
                go_roundg (E.length - (k + 1))
                case measure => omega
                case rel => exact ⟨k + 1, bk, by omega, rfl, by go_num, by rw [HOT.out, if_pos (by rw [HMT.out]; rfl)]; go_num, rfl, by rw [HFS.out, if_pos (by rw [HMT.out]; rfl), ← HFB.out, HBK.out]; rfl, HNO.out _ HW4.out⟩
        · have hkk : E.take k = E := List.take_of_length_le (by omega)
          have hke : k = E.length := by omega
          rw [hkk] at hol
          simp only [hkk]
          subst hke
          obtain ⟨hal, a1, a2⟩ := HX.out wr (HWR.out.step HGO.out)
          obtain ⟨hrl', c1, c2, c3, c4, c5, c6, c7, c0⟩ := (HRB.out.grow (HZ.out.step HGO.out)).cells
          clear c1 c3 c4 c5 c7 c0 hkk
          obtain ⟨bt, hbt⟩ : ∃ b, decide (x.typ = r.typ) = b := ⟨_, rfl⟩
          obtain ⟨bn, hbn⟩ : ∃ b, decide (r.n < (outR E r x.from_ : Int)) = b := ⟨_, rfl⟩
          have HST := Lib.hid (HMI.out.step HT.out (by omega) (b := bt && (bn && fb)) (by rw [hbt, hbn, HFB.out]))
          have HBD2 := Lib.hid (show l.length + 1 ≤ j + 1 by have := HLL.out; omega)
          have HI4 := Lib.hid (show ∀ w4, Grow wr w4 → Grow w2 w4 ∧ IdsW w2.heap.size w4 (.slice oa l.length co) l from fun w4 h => ⟨(HZ.out.step HGO.out).step h, HI.out.grow (HGO.out.step h)⟩)
          have HI5 := Lib.hid (show ∀ w4, Grow wr w4 → ∀ o1, Grow w2 (w4.alloc o1) ∧ IdsW w2.heap.size (w4.alloc o1) (.slice oa l.length co) l from fun w4 h o1 => ⟨((HZ.out.step HGO.out).step h).allocd o1, (HI.out.grow (HGO.out.step h)).grow ((Grow.rfl' w4).allocd o1)⟩)
          generalize outR E r x.from_ = n at *
          cases bt
          · go_wp2_with fail
            refine wp_region_grow (by kernel_rfl) (by kernel_rfl) ?_
            repeat (go_big_quiet_step (fail))
            refine wpQuiet_nil ?_
            intro w4 hw4
            go_wp2_with fail
            go_roundg (E.length - (j + 1))
            case measure => omega
            case rel => exact ⟨j + 1, l, by omega, rfl, by go_num, by have h := HST.out; simpa using h, by have := HLL.out; omega, (HI4.out _ hw4).2, (HI4.out _ hw4).1⟩
          · cases bn
            · go_wp2_with fail
              refine wp_region_grow (by kernel_rfl) (by kernel_rfl) ?_
              repeat (go_big_quiet_step (fail))
              refine wpQuiet_nil ?_
              intro w4 hw4
              go_wp2_with fail
              go_roundg (E.length - (j + 1))
              case measure => omega
              case rel => exact ⟨j + 1, l, by omega, rfl, by go_num, by have h := HST.out; simpa using h, by have := HLL.out; omega, (HI4.out _ hw4).2, (HI4.out _ hw4).1⟩
            · cases fb
              · go_wp2_with fail
                refine wp_region_grow (by kernel_rfl) (by kernel_rfl) ?_
                repeat (go_big_quiet_step (fail))
                refine wpQuiet_nil ?_
                intro w4 hw4
                go_wp2_with fail
                go_roundg (E.length - (j + 1))
                case measure => omega
                case rel => exact ⟨j + 1, l, by omega, rfl, by go_num, by have h := HST.out; simpa using h, by have := HLL.out; omega, (HI4.out _ hw4).2, (HI4.out _ hw4).1⟩
              · go_wp2_with fail
                refine wp_region_grow (by kernel_rfl) (by kernel_rfl) ?_
                repeat (go_big_quiet_step (fail))
                refine wpQuiet_nil ?_
                intro w4 hw4
                have HW4 := Lib.hid hw4
                have hx := HX.out _ (((HWR.out.step HGO.out)).step hw4)
                obtain ⟨hal4, _, b1⟩ := hx
                have hzs := (HI4.out _ hw4).1.size
                clear a1 a2 hal hw4 c2 c6
                go_wp2_with (at_builtin; go_must (refine wpList_append_I rfl (.tmp 217) (.tmp 223) 32 rfl Tryz.underlying32 w2.heap.size _ l rfl (HI5.out _ HW4.out _).2 x.from_ _ rfl (rd1 _ _ _ (by simp)) (by simp; omega) (by have := HLL.out; have := HBD.out; omega) ?_))
                intro v5 w6 k1 k2 k3
                have H5 := Lib.hid k1; have HG5 := Lib.hid ((HI5.out _ HW4.out _).1.since k2 (Nat.le_refl _))
                clear k1 k2 k3
                go_wp2
                go_roundg (E.length - (j + 1))
                case measure => omega
                case rel => exact ⟨j + 1, l ++ [x.from_], by omega, rfl, by go_num, by have h := HST.out; simpa using h, by have := HLL.out; simp; omega, H5.out, HG5.out⟩
    · have hkk : j = E.length := by omega
      have hn0 := formR_most HF.out (by have := HK.out; omega) (by have := HK.out; omega) (by have := HK.out; omega)
      have HDN := Lib.hid (MostI.done (hkk ▸ HMI.out) hn0)
      clear hkk hn0 hz
      go_wp2
      go_ret
      exact ⟨_, l, rfl, ⟨fun h => absurd h (by rw [HF.out]; simp), fun _ => by rw [if_pos HK.out]; exact HDN.out⟩, HI.out.base HG2.out.size, HG2.out.step HZ.out⟩
end Go.Hg
