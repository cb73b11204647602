/- Maps with keys of int64, whatever the elements: a function's view; Who is near whom: the plain words, who is reached, which path is told; The keys of a map with keys of int64, as the kit's laws of maps.Keys and slices.Sorted want them; The kit's contracts of the library at this seat's functions (ShelfD); build.ids' closure; slices.DeleteFunc and slices.Sort at int64, also of nothing; A send into a channel with room, and a select of one receive with a default, met in the kit's walk: laws of the machine of one goroutine, stated for a region of operations; Deleting from a map of integers, its length, clearing it; its size is the number of its keys; Who is near whom: the plain words of the reference's way; Rules: the plain words, what form a rule has, whether a graph keeps it, what breaks it. Conditions: those that each theorem names. -/
import Derived.WalkKit
import Derived.WalkSpells
import Derived.WalkLawsBesides
import Derived.Lib.Hide
import Derived.BigQuiet
import Derived.Deep.LoopGhost
import Derived.Test.YtfachjfohhhgeaaGreatDoorRows
import Derived.Lib.SliceRun
import Derived.WideMake
import Derived.Deep.RegionLaw
import Derived.Lib.Overlaps
import Derived.Deep.RegionHeld3
import Derived.Laws.ResultCell
import Derived.Shelf.SortM.Plain
import Derived.Shelf.SortM.SortNone
import Derived.Shelf.SlicesE.DeleteFunc
import Derived.Maps.OwnOps
import Derived.Maps.OwnSet
import Derived.Carry
import Derived.Lib.SlKeysI
import Derived.Shelf.SlIterI.Nil
import Derived.Conc.LoneCalls
import Derived.Test.YtfachjfohhhgeaaGreatDoorBdD
namespace Go.Hg
open MapKept

def MapI (w : World) (b : Nat) (f : Int → Option Value) (n : Nat) : Prop :=
  ∃ es clock, w.heap[b]? = some (.map es clock) ∧ Stamped es clock ∧ es.size ≤ n ∧ (∀ x ∈ es.toList, ∃ k, x.key = .int .i64 k) ∧ ∀ k v, f k = some v ↔ ∃ x ∈ es.toList, x.key = .int .i64 k ∧ x.val = v
def fput (f : Int → Option Value) (k : Int) (v : Value) : Int → Option Value := fun x => if x = k then some v else f x
theorem fput_same (f : Int → Option Value) (k : Int) (v : Value) : fput f k v k = some v := by simp [fput]
theorem fput_other (f : Int → Option Value) {k x : Int} (v : Value) (h : x ≠ k) : fput f k v x = f x := by simp [fput, h]
theorem MapI.lt {w : World} {b n : Nat} {f : Int → Option Value} (h : MapI w b f n) : b < w.heap.size := by
  obtain ⟨es, c, hb, -⟩ := h
  exact (Array.getElem?_eq_some_iff.1 hb).1
theorem MapI.mono {w : World} {b n n' : Nat} {f : Int → Option Value} (h : MapI w b f n) (hn : n ≤ n') : MapI w b f n' := by
  obtain ⟨es, c, hb, hs, hz, r⟩ := h
  exact ⟨es, c, hb, hs, Nat.le_trans hz hn, r⟩
theorem MapI.keep {w w' : World} {b n : Nat} {f : Int → Option Value} (h : MapI w b f n) (hw : w'.heap[b]? = w.heap[b]?) : MapI w' b f n := by
  obtain ⟨es, c, hb, r⟩ := h
  exact ⟨es, c, hw.trans hb, r⟩
theorem MapI.mod {w w' : World} {b n : Nat} {f : Int → Option Value} {F : Nat → Prop} (h : MapI w b f n) (hm : Mod F w w') (hF : ¬ F b) : MapI w' b f n := h.keep (hm.block b h.lt hF)
theorem MapI.grow {w w' : World} {b n : Nat} {f : Int → Option Value} (h : MapI w b f n) (hg : Grow w w') : MapI w' b f n := h.keep (hg.heapEq h.lt)
theorem MapI.made (w : World) : MapI (w.alloc (.map #[] 0)) w.heap.size (fun _ => none) 0 :=
  ⟨#[], 0, (MapKept.heap_alloc w _).1, stamped_empty 0, by simp, by simp, by simp⟩

section
variable {P : Program} {w : World} {b n : Nat} {f : Int → Option Value} {t kt et : TypeId}
theorem mapI_find {es : Array MapEntry} (hk : ∀ x ∈ es.toList, ∃ k, x.key = .int .i64 k) (k : Int) :
    (Instr.findNow (.int .i64) (.int .i64 k) es.toList 0 = some none ∧ ∀ x ∈ es.toList, x.key ≠ .int .i64 k) ∨ ∃ j e, Instr.findNow (.int .i64) (.int .i64 k) es.toList 0 = some (some (j, e.val)) ∧ es.toList[j]? = some e ∧ e.key = .int .i64 k := by
  have h := findNow_spec (d := .int .i64) (k := .int .i64 k) (by simp [IsKey]) es.toList 0 (fun x hx => by obtain ⟨q, hq⟩ := hk x hx; simp [hq, IsKey])
  simpa using h
theorem MapI.look (h : MapI w b f n) (ht : P.underlying t = some (.map kt et)) (hk : P.underlying kt = some (.int .i64)) {z : Value} (hz : (zeroValue et).run P w = .ok z w) (k : Int) :
    (Instr.lookup t (.map (some b)) (.int .i64 k) false).run P w = .ok ((f k).getD z) w := by
  obtain ⟨es, c, hb, hs, -, hi, hf⟩ := h
  have hc : (Instr.checkKey es.isEmpty 10000 kt (.int .i64 k)).run P w = .ok () w := MapKept.run_checkKey (k := .int .i64 k) hk (by simp [IsKey]) es.isEmpty 9999
  rcases mapI_find hi k with ⟨h1, h2⟩ | ⟨j, e, h1, h2, h3⟩
  · have hn : f k = none := by
      cases hfk : f k with
      | none => rfl
      | some v => obtain ⟨x, hx, h3, -⟩ := (hf k v).1 hfk; exact absurd h3 (h2 x hx)
    have hf' := MapKept.run_findKey (P := P) (w := w) hk h1
    simp [Instr.lookup, run_underlying ht, MapKept.run_getObj_map hb, Result.andThen]
    rw [hc]
    simp [hf', hz, hn]
  · have hn : f k = some e.val := (hf k e.val).2 ⟨e, List.mem_of_getElem? h2, h3, rfl⟩
    have hf' := MapKept.run_findKey (P := P) (w := w) hk h1
    simp [Instr.lookup, run_underlying ht, MapKept.run_getObj_map hb, Result.andThen]
    rw [hc]
    simp [hf', hn]
theorem MapI.update (h : MapI w b f n) (ht : P.underlying t = some (.map kt et)) (hk : P.underlying kt = some (.int .i64)) (k : Int) (v : Value) :
    ∃ w', (Instr.mapUpdate t (.map (some b)) (.int .i64 k) v).run P w = .ok () w' ∧ MapI w' b (fput f k v) (n + 1) ∧ ((f k).isSome → MapI w' b (fput f k v) n) ∧ Mod (fun r => r = b) w w' ∧ w'.heap.size = w.heap.size := by
  obtain ⟨es, c, hb, hs, hn, hi, hf⟩ := h
  have hkk : IsKey (.int .i64) (.int .i64 k) := by simp [IsKey]
  have hc : (Instr.checkKey false 10000 kt (.int .i64 k)).run P w = .ok () w := MapKept.run_checkKey (k := .int .i64 k) hk hkk false 9999
  rcases mapI_find hi k with ⟨h1, h2⟩ | ⟨j, e, h1, h2, h3⟩
  · have hf' := MapKept.run_findKey (P := P) (w := w) hk h1
    have hfk : f k = none := by
      cases hfk : f k with
      | none => rfl
      | some v => obtain ⟨x, hx, h3, -⟩ := (hf k v).1 hfk; exact absurd h3 (h2 x hx)
    have hM : MapI { w with heap := w.heap.setIfInBounds b (.map (es.push { key := .int .i64 k, val := v, born := c }) (c + 1)) } b (fput f k v) (n + 1) := by
      refine ⟨_, _, (heap_set hb).1, stamped_push hs h2, by simp; omega, ?_, ?_⟩
      · intro x hx
        simp only [Array.toList_push, List.mem_append, List.mem_singleton] at hx
        rcases hx with hx | rfl
        · exact hi x hx
        · exact ⟨k, rfl⟩
      · intro k' v'
        simp only [Array.toList_push, List.mem_append, List.mem_singleton]
        by_cases hkk' : k' = k
        · subst hkk'
          rw [fput_same]
          constructor
          · intro hv
            exact ⟨_, .inr rfl, rfl, Option.some.inj hv⟩
          · rintro ⟨x, hx | rfl, h3, h4⟩
            · exact absurd h3 (h2 x hx)
            · exact congrArg some h4
        · rw [fput_other _ _ hkk', hf]
          constructor
          · rintro ⟨x, hx, h3, h4⟩
            exact ⟨x, .inl hx, h3, h4⟩
          · rintro ⟨x, hx | rfl, h3, h4⟩
            · exact ⟨x, hx, h3, h4⟩
            · simp only [Value.int.injEq, true_and] at h3
              exact absurd h3.symm hkk'
    refine ⟨_, ?_, hM, fun hs => by simp [hfk] at hs, ?_, by simp⟩
    · simp [Instr.mapUpdate, run_underlying ht, MapKept.run_getObj_map hb, hc, hf', MapKept.run_setObj_map _ hb, Result.andThen]
    · exact ⟨rfl, rfl, rfl, by simp, fun r hr hne => (heap_set hb).2 r hne⟩
  · have hf' := MapKept.run_findKey (P := P) (w := w) hk h1
    have hj : es[j]? = some e := by simpa using h2
    have hM : MapI { w with heap := w.heap.setIfInBounds b (.map (es.modify j (fun e => { e with key := .int .i64 k, val := v })) c) } b (fput f k v) n := by
      have hkey : ∀ e', es[j]? = some e' → ({ e' with key := .int .i64 k, val := v } : MapEntry).key = e'.key := fun e' he' => by rw [hj] at he'; cases he'; exact h3.symm
      have hmem : ∀ x, x ∈ (es.modify j (fun e => { e with key := .int .i64 k, val := v })).toList ↔ ∃ i y, es[i]? = some y ∧ x = if j = i then { y with key := .int .i64 k, val := v } else y := by
        intro x
        rw [List.mem_iff_getElem?]
        simp only [Array.getElem?_toList, Array.getElem?_modify]
        constructor
        · rintro ⟨i, hi'⟩
          by_cases hji : j = i
          · subst hji
            simp [hj] at hi'
            exact ⟨j, e, hj, by simp [hi']⟩
          · simp [hji] at hi'
            exact ⟨i, x, hi', by simp [hji]⟩
        · rintro ⟨i, y, hy, rfl⟩
          refine ⟨i, ?_⟩
          by_cases hji : j = i
          · subst hji
            simp [hy]
          · simp [hji, hy]
      refine ⟨_, _, (heap_set hb).1, stamped_modify hs _ _ (fun _ _ => rfl) (fun e' _ he' => hkey e' he'), by simp; omega, ?_, ?_⟩
      · intro x hx
        obtain ⟨i, y, hy, rfl⟩ := (hmem x).1 hx
        by_cases hji : j = i
        · simp [hji]
        · simp only [hji, if_false]
          exact hi y (List.mem_of_getElem? (by simpa using hy))
      · intro k' v'
        by_cases hkk' : k' = k
        · subst hkk'
          rw [fput_same]
          constructor
          · intro hv
            exact ⟨{ e with key := .int .i64 k', val := v }, (hmem _).2 ⟨j, e, hj, by simp⟩, rfl, Option.some.inj hv⟩
          · rintro ⟨x, hx, h4, h5⟩
            obtain ⟨i, y, hy, rfl⟩ := (hmem x).1 hx
            by_cases hji : j = i
            · simp [hji] at h5
              exact congrArg some h5
            · exfalso
              simp only [hji, if_false] at h4
              have hnd := hs.2.2
              have hnd := List.pairwise_iff_getElem.1 hnd
              have hjl : j < es.toList.length := by simpa using (Array.getElem?_eq_some_iff.1 hj).1
              have hil : i < es.toList.length := by simpa using (Array.getElem?_eq_some_iff.1 hy).1
              have ej : es.toList[j] = e := by simpa using (Array.getElem?_eq_some_iff.1 hj).2
              have ei : es.toList[i] = y := by simpa using (Array.getElem?_eq_some_iff.1 hy).2
              rcases Nat.lt_or_gt_of_ne hji with hlt | hlt
              · exact hnd j i (by simpa using hjl) (by simpa using hil) hlt (by simp only [List.getElem_map, ej, ei, h3, h4])
              · exact hnd i j (by simpa using hil) (by simpa using hjl) hlt (by simp only [List.getElem_map, ej, ei, h3, h4])
        · rw [fput_other _ _ hkk', hf]
          constructor
          · rintro ⟨x, hx, h4, h5⟩
            obtain ⟨i, hi'⟩ := List.mem_iff_getElem?.1 hx
            have hji : j ≠ i := by
              rintro rfl
              rw [h2] at hi'
              cases hi'
              rw [h3] at h4
              simp only [Value.int.injEq, true_and] at h4
              exact hkk' h4.symm
            exact ⟨x, (hmem x).2 ⟨i, x, by simpa using hi', by simp [hji]⟩, h4, h5⟩
          · rintro ⟨x, hx, h4, h5⟩
            obtain ⟨i, y, hy, rfl⟩ := (hmem x).1 hx
            by_cases hji : j = i
            · simp [hji] at h4
              exact absurd h4.symm hkk'
            · simp only [hji, if_false] at h4 h5
              exact ⟨y, List.mem_of_getElem? (by simpa using hy), h4, h5⟩
    refine ⟨_, ?_, hM.mono (Nat.le_succ _), fun _ => hM, ?_, by simp⟩
    · simp [Instr.mapUpdate, run_underlying ht, MapKept.run_getObj_map hb, hc, hf', hj, h3, run_keyThatStays hkk, MapKept.run_setObj_map _ hb, Result.andThen]
    · exact ⟨rfl, rfl, rfl, by simp, fun r hr hne => (heap_set hb).2 r hne⟩

variable {ops : Array Oper} {rest : List Oper} {o : Oper} {a : Act} {Q : Exit → Act → World → Prop}
theorem wpList_lookI (w : World) (hg : o.guard = none) (m x : Operand) (t : TypeId) (hop : o.op = Op.lookup t m x false) (kt et : TypeId) (ht : P.underlying t = some (.map kt et)) (hk : P.underlying kt = some (.int .i64)) (z : Value)
    (hz : (zeroValue et).run P w = .ok z w) (b n : Nat) (f : Int → Option Value) (hm : a.eval m = .map (some b)) (h : MapI w b f n) (k : Int) (hx : a.eval x = .int .i64 k)
    (hK : wpList P ops Q rest (a.put o.dst ((f k).getD z)) w) : wpList P ops Q (o :: rest) a w := by
  refine wpList_plain hg fun K' hK' => ?_
  unfold Oper.wp
  simp [execOp, hop, hm, hx, h.look ht hk hz k, Result.andThen]
  exact hK' _ _ hK
theorem wpList_updI (w : World) (hg : o.guard = none) (m x v : Operand) (t : TypeId) (hop : o.op = Op.mapUpdate t m x v) (kt et : TypeId) (ht : P.underlying t = some (.map kt et)) (hk : P.underlying kt = some (.int .i64))
    (b n : Nat) (f : Int → Option Value) (hm : a.eval m = .map (some b)) (h : MapI w b f n) (k : Int) (hx : a.eval x = .int .i64 k) (val : Value) (hv : a.eval v = val)
    (hK : ∀ w', MapI w' b (fput f k val) (n + 1) → ((f k).isSome → MapI w' b (fput f k val) n) → Mod (fun r => r = b) w w' → w'.heap.size = w.heap.size → wpList P ops Q rest (a.put o.dst undef) w') : wpList P ops Q (o :: rest) a w := by
  refine wpList_plain hg fun K' hK' => ?_
  obtain ⟨w', hrun, r1, r2, r3, r4⟩ := h.update ht hk k val
  unfold Oper.wp
  simp [execOp, hop, hm, hx, hv, hrun, Result.andThen]
  exact hK' _ _ (hK w' r1 r2 r3 r4)
end
end Go.Hg

namespace Go.Hg

def fitE (typ : ByteArray) (e : PEdge) : Bool := decide (typ = ByteArray.empty) || decide (e.typ = typ)
def outsE (E : List PEdge) (typ : ByteArray) (x : Int) : List PEdge := E.filter fun e => fitE typ e && decide (e.from_ = x)
def insE (E : List PEdge) (typ : ByteArray) (y : Int) : List PEdge := E.filter fun e => fitE typ e && decide (e.to_ = y)
def StepE (E : List PEdge) (typ : ByteArray) (x y : Int) : Prop := ∃ e ∈ E, fitE typ e = true ∧ e.from_ = x ∧ e.to_ = y
theorem stepE_outs {E : List PEdge} {typ : ByteArray} {x y : Int} : StepE E typ x y ↔ ∃ e ∈ outsE E typ x, e.to_ = y := by
  simp only [StepE, outsE, List.mem_filter, Bool.and_eq_true, decide_eq_true_eq]
  constructor
  · rintro ⟨e, h1, h2, h3, h4⟩
    exact ⟨e, ⟨h1, h2, h3⟩, h4⟩
  · rintro ⟨e, ⟨h1, h2, h3⟩, h4⟩
    exact ⟨e, h1, h2, h3, h4⟩
theorem stepE_ins {E : List PEdge} {typ : ByteArray} {x y : Int} : StepE E typ x y ↔ ∃ e ∈ insE E typ y, e.from_ = x := by
  simp only [StepE, insE, List.mem_filter, Bool.and_eq_true, decide_eq_true_eq]
  constructor
  · rintro ⟨e, h1, h2, h3, h4⟩
    exact ⟨e, ⟨h1, h2, h4⟩, h3⟩
  · rintro ⟨e, ⟨h1, h2, h3⟩, h4⟩
    exact ⟨e, h1, h2, h4, h3⟩

def RSet (l : List Int) (p : Int → Prop) : Prop := l.Pairwise (· < ·) ∧ ∀ y, y ∈ l ↔ p y
theorem RSet.same : ∀ {l l' : List Int}, l.Pairwise (· < ·) → l'.Pairwise (· < ·) → (∀ y, y ∈ l ↔ y ∈ l') → l = l'
  | [], [], _, _, _ => rfl
  | [], b :: t, _, _, h => by have := (h b).2 (.head _); cases this
  | a :: s, [], _, _, h => by have := (h a).1 (.head _); cases this
  | a :: s, b :: t, h1, h2, h => by
    rw [List.pairwise_cons] at h1 h2
    have hab : a = b := by
      have ha := (h a).1 (.head _)
      have hb := (h b).2 (.head _)
      rcases List.mem_cons.1 ha with r | ha
      · exact r
      rcases List.mem_cons.1 hb with r | hb
      · exact r.symm
      have := h2.1 a ha
      have := h1.1 b hb
      omega
    subst hab
    refine congrArg (a :: ·) (RSet.same h1.2 h2.2 fun y => ?_)
    constructor
    · intro hy
      have := h1.1 y hy
      rcases List.mem_cons.1 ((h y).1 (.tail _ hy)) with r | r
      · omega
      · exact r
    · intro hy
      have := h2.1 y hy
      rcases List.mem_cons.1 ((h y).2 (.tail _ hy)) with r | r
      · omega
      · exact r
theorem RSet.uniq {l l' : List Int} {p p' : Int → Prop} (h : RSet l p) (h' : RSet l' p') (hp : ∀ y, p y ↔ p' y) : l = l' :=
  RSet.same h.1 h'.1 fun y => by rw [h.2, h'.2, hp]
theorem RSet.nil {p : Int → Prop} (hp : ∀ y, ¬ p y) : RSet [] p := ⟨.nil, fun y => by simp [hp]⟩

def Rch (E : List PEdge) (typ : ByteArray) : Nat → Int → Int → Prop
  | 0, _, _ => False
  | n + 1, x, y => StepE E typ x y ∨ ∃ z, Rch E typ n x z ∧ StepE E typ z y
section
variable {E : List PEdge} {typ : ByteArray}
theorem Rch.succ : ∀ {n : Nat} {x y : Int}, Rch E typ n x y → Rch E typ (n + 1) x y
  | 0, _, _, h => h.elim
  | _ + 1, _, _, .inl h => .inl h
  | _ + 1, _, _, .inr ⟨z, h1, h2⟩ => .inr ⟨z, h1.succ, h2⟩
theorem Rch.mono {n m : Nat} {x y : Int} (h : Rch E typ n x y) (hm : n ≤ m) : Rch E typ m x y := by
  induction m with
  | zero => cases Nat.le_zero.1 hm; exact h
  | succ m ih =>
    rcases Nat.lt_or_ge n (m + 1) with h1 | h1
    · exact (ih (by omega)).succ
    · have : n = m + 1 := by omega
      exact this ▸ h
theorem Rch.ends : ∀ {n : Nat} {x y : Int}, Rch E typ n x y → ∃ e ∈ E, e.to_ = y
  | _ + 1, _, _, .inl ⟨e, h1, _, _, h4⟩ => ⟨e, h1, h4⟩
  | _ + 1, _, _, .inr ⟨_, _, e, h1, _, _, h4⟩ => ⟨e, h1, h4⟩
theorem nodup_le {α β : Type} [DecidableEq β] (f : α → β) : ∀ (E : List α) (l : List β), l.Nodup → (∀ y ∈ l, ∃ e ∈ E, f e = y) → l.length ≤ E.length
  | [], [], _, _ => Nat.le_refl _
  | [], y :: _, _, h => by obtain ⟨e, he, _⟩ := h y (.head _); cases he
  | e :: t, l, hn, h => by
    have h1 := nodup_le f t (l.erase (f e)) (hn.erase _) (fun y hy => by
      obtain ⟨hne, hy⟩ := (hn.mem_erase_iff).1 hy
      obtain ⟨e', he', rfl⟩ := h y hy
      rcases List.mem_cons.1 he' with rfl | he'
      · exact absurd rfl hne
      · exact ⟨e', he', rfl⟩)
    have h2 : l.length ≤ (l.erase (f e)).length + 1 := by
      rw [List.length_erase]
      split <;> omega
    simp only [List.length_cons]
    omega

structure FrI (E : List PEdge) (typ : ByteArray) (M nx r : List Int) (j : Nat) (seen : List PEdge) : Prop where
  nodup : (M ++ nx).Nodup
  new : ∀ y ∈ nx, ∃ x ∈ r, StepE E typ x y
  gone : ∀ x ∈ r.take j, ∀ y, StepE E typ x y → y ∈ M ∨ y ∈ nx
  seen : ∀ e ∈ seen, e.to_ ∈ M ∨ e.to_ ∈ nx
  ends : ∀ y ∈ M ++ nx, ∃ e ∈ E, e.to_ = y
theorem FrI.add {M nx r : List Int} {j : Nat} {seen : List PEdge} (h : FrI E typ M nx r j seen) {e : PEdge} {x : Int} (hx : r[j]? = some x) (he : e ∈ outsE E typ x) (hn : ¬ (e.to_ ∈ M ∨ e.to_ ∈ nx)) :
    FrI E typ M (nx ++ [e.to_]) r j (seen ++ [e]) := by
  have hin : ∀ y, y ∈ nx → y ∈ nx ++ [e.to_] := fun y hy => List.mem_append_left _ hy
  refine ⟨?_, ?_, fun x hx y hs => (h.gone x hx y hs).imp id (hin y), ?_, ?_⟩
  · rw [← List.append_assoc]
    refine List.nodup_append.2 ⟨h.nodup, by simp, ?_⟩
    intro a ha b hb
    rw [List.mem_singleton] at hb
    subst hb
    rintro rfl
    exact hn (List.mem_append.1 ha)
  · intro y hy
    rcases List.mem_append.1 hy with hy | hy
    · exact h.new y hy
    · rw [List.mem_singleton.1 hy]
      exact ⟨x, List.mem_of_getElem? hx, stepE_outs.2 ⟨e, he, rfl⟩⟩
  · intro e' he'
    rcases List.mem_append.1 he' with he' | he'
    · exact (h.seen e' he').imp id (hin _)
    · rw [List.mem_singleton.1 he']; exact .inr (by simp)
  · intro y hy
    rw [← List.append_assoc] at hy
    rcases List.mem_append.1 hy with hy | hy
    · exact h.ends y hy
    · rw [List.mem_singleton.1 hy]
      exact ⟨e, (List.mem_filter.1 he).1, rfl⟩
theorem FrI.next {M nx r : List Int} {j : Nat} {x : Int} (h : FrI E typ M nx r j (outsE E typ x)) (hx : r[j]? = some x) : FrI E typ M nx r (j + 1) [] := by
  refine ⟨h.nodup, h.new, ?_, by simp, h.ends⟩
  intro z hz y hs
  rw [List.take_add_one, hx] at hz
  rcases List.mem_append.1 hz with hz | hz
  · exact h.gone z hz y hs
  · obtain rfl : z = x := by simpa using hz
    obtain ⟨e, he, rfl⟩ := stepE_outs.1 hs
    exact h.seen e he
theorem FrI.len {M nx r : List Int} {j : Nat} {seen : List PEdge} (h : FrI E typ M nx r j seen) : M.length + nx.length ≤ E.length := by
  have := nodup_le (fun e : PEdge => e.to_) E _ h.nodup h.ends
  simpa using this

structure OutI (E : List PEdge) (typ : ByteArray) (id : Int) (M r : List Int) (k : Nat) : Prop where
  nodup : M.Nodup
  mem : ∀ y, y ∈ M ↔ Rch E typ k id y
  front : ∀ y ∈ r, Rch E typ k id y ∨ y = id
  shut : ∀ y, Rch E typ k id y ∨ y = id → y ∈ r ∨ ∀ z, StepE E typ y z → z ∈ M
theorem OutI.ends {id : Int} {M r : List Int} {k : Nat} (h : OutI E typ id M r k) : ∀ y ∈ M, ∃ e ∈ E, e.to_ = y := fun y hy => ((h.mem y).1 hy).ends
theorem OutI.next {id : Int} {M nx r : List Int} {k : Nat} (h : OutI E typ id M r k) (hf : FrI E typ M nx r r.length []) : OutI E typ id (M ++ nx) nx (k + 1) := by
  have hg : ∀ x ∈ r, ∀ y, StepE E typ x y → y ∈ M ∨ y ∈ nx := by
    have := hf.gone
    rwa [List.take_length] at this
  have hm : ∀ y, y ∈ M ++ nx ↔ Rch E typ (k + 1) id y := by
    intro y
    constructor
    · intro hy
      rcases List.mem_append.1 hy with hy | hy
      · exact ((h.mem y).1 hy).succ
      · obtain ⟨x, hx, hs⟩ := hf.new y hy
        rcases h.front x hx with hr | rfl
        · exact .inr ⟨x, hr, hs⟩
        · exact .inl hs
    · intro hy
      have key : ∀ x, Rch E typ k id x ∨ x = id → StepE E typ x y → y ∈ M ++ nx := by
        intro x hx hs
        rcases h.shut x hx with hr | hr
        · exact List.mem_append.2 (hg x hr y hs)
        · exact List.mem_append_left _ (hr y hs)
      rcases hy with hs | ⟨z, hz, hs⟩
      · exact key id (.inr rfl) hs
      · exact key z (.inl hz) hs
  refine ⟨hf.nodup, hm, fun y hy => .inl ((hm y).1 (List.mem_append_right _ hy)), ?_⟩
  intro y hy
  by_cases hn : y ∈ nx
  · exact .inl hn
  right
  intro z hs
  have hy' : Rch E typ k id y ∨ y = id := by
    rcases hy with hy | hy
    · rcases List.mem_append.1 ((hm y).2 hy) with r | r
      · exact .inl ((h.mem y).1 r)
      · exact absurd r hn
    · exact .inr hy
  rcases h.shut y hy' with hr | hr
  · exact List.mem_append.2 (hg y hr z hs)
  · exact List.mem_append_left _ (hr z hs)
def Wlk (E : List PEdge) (typ : ByteArray) (t : Int) : Nat → Int → Prop
  | 0, x => x = t
  | n + 1, x => ∃ z, StepE E typ x z ∧ Wlk E typ t n z
def Dst (E : List PEdge) (typ : ByteArray) (t : Int) (n : Nat) (x : Int) : Prop := Wlk E typ t n x ∧ ∀ m, m < n → ¬ Wlk E typ t m x
theorem Dst.uniq {t x : Int} {n m : Nat} (h : Dst E typ t n x) (h' : Dst E typ t m x) : n = m := by
  rcases Nat.lt_trichotomy n m with r | r | r
  · exact absurd h.1 (h'.2 n r)
  · exact r
  · exact absurd h'.1 (h.2 m r)
theorem Wlk.dst {t x : Int} {n : Nat} (h : Wlk E typ t n x) : ∃ d, d ≤ n ∧ Dst E typ t d x := by
  induction n using Nat.strongRecOn with
  | ind n ih =>
    by_cases hm : ∃ m, m < n ∧ Wlk E typ t m x
    · obtain ⟨m, hm, hw⟩ := hm
      obtain ⟨d, hd, h⟩ := ih m hm hw
      exact ⟨d, by omega, h⟩
    · exact ⟨n, Nat.le_refl _, h, fun m hlt hw => hm ⟨m, hlt, hw⟩⟩
theorem Dst.zero {t x : Int} : Dst E typ t 0 x ↔ x = t := ⟨fun h => h.1, fun h => ⟨h, fun _ hm => by omega⟩⟩
theorem Dst.step {t x : Int} {n : Nat} (h : Dst E typ t (n + 1) x) : ∃ z, StepE E typ x z ∧ Dst E typ t n z := by
  obtain ⟨⟨z, hs, hw⟩, hn⟩ := h
  refine ⟨z, hs, hw, fun m hm hw' => hn (m + 1) (by omega) ⟨z, hs, hw'⟩⟩
def PathR (E : List PEdge) (typ : ByteArray) (t : Int) : Nat → Int → List Int → Prop
  | 0, _, l => l = []
  | d + 1, x, l => ∃ pre e post l', outsE E typ x = pre ++ e :: post ∧ (∀ e' ∈ pre, ¬ Dst E typ t d e'.to_) ∧ Dst E typ t d e.to_ ∧ l = e.id :: l' ∧ PathR E typ t d e.to_ l'
def PathS (E : List PEdge) (typ : ByteArray) (x t : Int) (l : List Int) : Prop := (x = t ∧ l = []) ∨ (x ≠ t ∧ (∀ d, ¬ Wlk E typ t d x) ∧ l = []) ∨ (x ≠ t ∧ ∃ d, Dst E typ t d x ∧ PathR E typ t d x l)
theorem split_uniq {α : Type} {p : α → Prop} : ∀ {pre pre' post post' : List α} {e e' : α}, pre ++ e :: post = pre' ++ e' :: post' → (∀ x ∈ pre, ¬ p x) → (∀ x ∈ pre', ¬ p x) → p e → p e' → e = e'
  | [], [], _, _, _, _, h, _, _, _, _ => by simp at h; exact h.1
  | [], b :: s, _, _, e, e', h, _, h2, h3, _ => by
    simp at h
    exact absurd (h.1 ▸ h3) (h2 b (.head _))
  | a :: s, [], _, _, e, e', h, h1, _, _, h4 => by
    simp at h
    exact absurd (h.1 ▸ h4) (h1 a (.head _))
  | a :: s, b :: u, _, _, _, _, h, h1, h2, h3, h4 => by
    simp at h
    exact split_uniq h.2 (fun x hx => h1 x (.tail _ hx)) (fun x hx => h2 x (.tail _ hx)) h3 h4
theorem PathR.uniq {t : Int} : ∀ {d : Nat} {x : Int} {l l' : List Int}, PathR E typ t d x l → PathR E typ t d x l' → l = l'
  | 0, _, _, _, h, h' => h.trans h'.symm
  | d + 1, x, _, _, ⟨pre, e, post, l, h1, h2, h3, rfl, h4⟩, ⟨pre', e', post', l', h1', h2', h3', rfl, h4'⟩ => by
    have he : e = e' := split_uniq (p := fun e => Dst E typ t d e.to_) (h1.symm.trans h1') h2 h2' h3 h3'
    subst he
    exact congrArg (e.id :: ·) (h4.uniq h4')
theorem PathS.uniq {x t : Int} {l l' : List Int} (h : PathS E typ x t l) (h' : PathS E typ x t l') : l = l' := by
  rcases h with ⟨a, rfl⟩ | ⟨a, b, rfl⟩ | ⟨a, d, b, c⟩ <;> rcases h' with ⟨a', rfl⟩ | ⟨a', b', rfl⟩ | ⟨a', d', b', c'⟩
  · rfl
  · rfl
  · exact absurd a a'
  · rfl
  · rfl
  · exact absurd b'.1 (b _)
  · exact absurd a' a
  · exact absurd b.1 (b' _)
  · cases b.uniq b'
    exact c.uniq c'

structure QI (E : List PEdge) (typ : ByteArray) (t : Int) (f : Int → Option Nat) (dn todo : List Int) : Prop where
  nodup : (dn ++ todo).Nodup
  dom : ∀ x, x ∈ dn ++ todo ↔ ∃ d, f x = some d
  zero : f t = some 0
  walk : ∀ x d, f x = some d → Wlk E typ t d x
  cls : ∀ y ∈ dn, ∀ x d, StepE E typ x y → f y = some d → ∃ d', d' ≤ d + 1 ∧ f x = some d'
  mono : todo.Pairwise fun a b => ∀ d d', f a = some d → f b = some d' → d ≤ d'
  top : ∀ y s, todo = y :: s → ∀ x d d', f y = some d → f x = some d' → d' ≤ d + 1
  ends : ∀ x ∈ dn ++ todo, x = t ∨ ∃ e ∈ E, e.from_ = x
structure QP (E : List PEdge) (typ : ByteArray) (t : Int) (f : Int → Option Nat) (dn : List Int) (y : Int) (d : Nat) (todo : List Int) (seen : List PEdge) : Prop where
  nodup : (dn ++ y :: todo).Nodup
  dom : ∀ x, x ∈ dn ++ y :: todo ↔ ∃ d, f x = some d
  zero : f t = some 0
  walk : ∀ x d, f x = some d → Wlk E typ t d x
  cls : ∀ y ∈ dn, ∀ x d, StepE E typ x y → f y = some d → ∃ d', d' ≤ d + 1 ∧ f x = some d'
  mono : (y :: todo).Pairwise fun a b => ∀ d d', f a = some d → f b = some d' → d ≤ d'
  at_ : f y = some d
  top : ∀ x d', f x = some d' → d' ≤ d + 1
  seen : ∀ e ∈ seen, ∃ d', d' ≤ d + 1 ∧ f e.from_ = some d'
  ends : ∀ x ∈ dn ++ y :: todo, x = t ∨ ∃ e ∈ E, e.from_ = x
def nput (f : Int → Option Nat) (k : Int) (v : Nat) : Int → Option Nat := fun x => if x = k then some v else f x
theorem QI.open {t : Int} {f : Int → Option Nat} {dn s : List Int} {y : Int} (h : QI E typ t f dn (y :: s)) : ∃ d, f y = some d ∧ QP E typ t f dn y d s [] := by
  obtain ⟨d, hd⟩ := (h.dom y).1 (by simp)
  exact ⟨d, hd, h.nodup, h.dom, h.zero, h.walk, h.cls, h.mono, hd, fun x d' hx => h.top y s rfl x d d' hd hx, by simp, h.ends⟩
theorem nput_same (f : Int → Option Nat) (k : Int) (v : Nat) : nput f k v k = some v := by simp [nput]
theorem nput_other (f : Int → Option Nat) {k x : Int} (v : Nat) (h : x ≠ k) : nput f k v x = f x := by simp [nput, h]
theorem QP.add {t : Int} {f : Int → Option Nat} {dn s : List Int} {y : Int} {d : Nat} {seen : List PEdge} (h : QP E typ t f dn y d s seen) {e : PEdge} (hin : e ∈ insE E typ y) (he : f e.from_ = none) :
    QP E typ t (nput f e.from_ (d + 1)) dn y d (s ++ [e.from_]) (seen ++ [e]) := by
  obtain ⟨hE, hfit⟩ := List.mem_filter.1 hin
  rw [Bool.and_eq_true, decide_eq_true_eq] at hfit
  have hstep : StepE E typ e.from_ y := ⟨e, hE, hfit.1, rfl, hfit.2⟩
  have hnot : e.from_ ∉ dn ++ y :: s := fun hm => by obtain ⟨q, hq⟩ := (h.dom _).1 hm; rw [he] at hq; cases hq
  have hsame : ∀ {x q}, f x = some q → nput f e.from_ (d + 1) x = some q := fun {x q} hx => by
    rw [nput_other]
    · exact hx
    · rintro rfl; rw [he] at hx; cases hx
  have hback : ∀ {x q}, nput f e.from_ (d + 1) x = some q → (x = e.from_ ∧ q = d + 1) ∨ f x = some q := fun {x q} hx => by
    by_cases hxe : x = e.from_
    · subst hxe
      rw [nput_same] at hx
      exact .inl ⟨rfl, (Option.some.inj hx).symm⟩
    · rw [nput_other _ _ hxe] at hx
      exact .inr hx
  have hl : dn ++ y :: (s ++ [e.from_]) = (dn ++ y :: s) ++ [e.from_] := by simp
  refine ⟨?_, ?_, hsame h.zero, ?_, ?_, ?_, hsame h.at_, ?_, ?_, ?_⟩
  · rw [hl]
    refine List.nodup_append.2 ⟨h.nodup, by simp, ?_⟩
    intro a ha b hb
    rw [List.mem_singleton] at hb
    subst hb
    rintro rfl
    exact hnot ha
  · intro x
    rw [hl, List.mem_append, h.dom, List.mem_singleton]
    constructor
    · rintro (⟨q, hq⟩ | rfl)
      · exact ⟨q, hsame hq⟩
      · exact ⟨_, nput_same _ _ _⟩
    · rintro ⟨q, hq⟩
      rcases hback hq with ⟨r, -⟩ | r
      · exact .inr r
      · exact .inl ⟨q, r⟩
  · intro x q hq
    rcases hback hq with ⟨rfl, rfl⟩ | r
    · exact ⟨y, hstep, h.walk y d h.at_⟩
    · exact h.walk x q r
  · intro z hz x q hs hq
    rcases hback hq with ⟨rfl, rfl⟩ | r
    · exact absurd (List.mem_append_left _ hz) hnot
    · obtain ⟨d', h1, h2⟩ := h.cls z hz x q hs r
      exact ⟨d', h1, hsame h2⟩
  · rw [show y :: (s ++ [e.from_]) = (y :: s) ++ [e.from_] from rfl, List.pairwise_append]
    refine ⟨h.mono.imp_of_mem ?_, by simp, ?_⟩
    · intro a b ha hb hab q q' hq hq'
      rcases hback hq with ⟨rfl, rfl⟩ | r
      · exact absurd (List.mem_append_right _ ha) hnot
      rcases hback hq' with ⟨rfl, rfl⟩ | r'
      · exact absurd (List.mem_append_right _ hb) hnot
      exact hab q q' r r'
    · intro a ha b hb q q' hq hq'
      rw [List.mem_singleton] at hb
      subst hb
      rw [nput_same] at hq'
      cases hq'
      rcases hback hq with ⟨rfl, rfl⟩ | r
      · exact Nat.le_refl _
      · exact h.top a q r
  · intro x q hq
    rcases hback hq with ⟨-, rfl⟩ | r
    · exact Nat.le_refl _
    · exact h.top x q r
  · intro e' he'
    rcases List.mem_append.1 he' with he' | he'
    · obtain ⟨d', h1, h2⟩ := h.seen e' he'
      exact ⟨d', h1, hsame h2⟩
    · rw [List.mem_singleton.1 he']
      exact ⟨d + 1, Nat.le_refl _, nput_same _ _ _⟩
  · intro x hx
    rw [hl] at hx
    rcases List.mem_append.1 hx with hx | hx
    · exact h.ends x hx
    · rw [List.mem_singleton.1 hx]
      exact .inr ⟨e, hE, rfl⟩
theorem QP.next {t : Int} {f : Int → Option Nat} {dn s : List Int} {y : Int} {d : Nat} (h : QP E typ t f dn y d s (insE E typ y)) : QI E typ t f (dn ++ [y]) s := by
  have hl : dn ++ [y] ++ s = dn ++ y :: s := by simp
  refine ⟨by rw [hl]; exact h.nodup, fun x => by rw [hl]; exact h.dom x, h.zero, h.walk, ?_, (List.pairwise_cons.1 h.mono).2, ?_, by rw [hl]; exact h.ends⟩
  · intro z hz x q hs hq
    rcases List.mem_append.1 hz with hz | hz
    · exact h.cls z hz x q hs hq
    · rw [List.mem_singleton.1 hz] at hs hq
      rw [h.at_] at hq
      cases hq
      obtain ⟨e, he, rfl⟩ := stepE_ins.1 hs
      exact h.seen e he
  · rintro z u rfl x q q' hq hq'
    have h1 := (List.pairwise_cons.1 h.mono).1 z (.head _) d q h.at_ hq
    have h2 := h.top x q' hq'
    omega
theorem QI.len {t : Int} {f : Int → Option Nat} {dn todo : List Int} (h : QI E typ t f dn todo) : dn.length + todo.length ≤ E.length + 1 := by
  have := nodup_le (fun o : Option PEdge => match o with | none => t | some e => e.from_) (none :: E.map some) _ h.nodup (fun y hy => by
    rcases h.ends y hy with rfl | ⟨e, he, rfl⟩
    · exact ⟨none, .head _, rfl⟩
    · exact ⟨some e, .tail _ (List.mem_map.2 ⟨e, he, rfl⟩), rfl⟩)
  simpa using this
theorem QP.len {t : Int} {f : Int → Option Nat} {dn todo : List Int} {y : Int} {d : Nat} {seen : List PEdge} (h : QP E typ t f dn y d todo seen) : dn.length + todo.length + 1 ≤ E.length + 1 := by
  have := nodup_le (fun o : Option PEdge => match o with | none => t | some e => e.from_) (none :: E.map some) _ h.nodup (fun y hy => by
    rcases h.ends y hy with rfl | ⟨e, he, rfl⟩
    · exact ⟨none, .head _, rfl⟩
    · exact ⟨some e, .tail _ (List.mem_map.2 ⟨e, he, rfl⟩), rfl⟩)
  simp at this
  omega
end
end Go.Hg

namespace Go.Hg
open MapKept Go.Maps Go.WideElems
def anyElem (v : Value) : Option (DataW Unit × List MemPlace) := some ((fun _ => .agg []) v, [])
theorem MapI.owns {w : World} {b n : Nat} {f : Int → Option Value} (h : MapI w b f n) {P : Program} {k : TypeId} (hk : P.underlying k = some (.int .i64)) (hn : n ≤ maxLen) (hw : ∀ x, f x ≠ none → (Lit.int .i64 x).wf = true) :
    ∃ D0 : DataW Unit, w.ownsMap P k anyElem b n D0 ∧ Maps.size D0 ≤ n ∧ ∀ ss : List Int, ss.Perm (intKeys D0) → ss.Nodup ∧ ∀ x, x ∈ ss ↔ f x ≠ none := by
  obtain ⟨es, c, hb, hs, hz, hi, hf⟩ := h
  have F : Fit P k anyElem es c := ⟨Nat.le_trans hz hn, hs, fun x hx => by
    obtain ⟨q, hq⟩ := hi x hx
    have hwq := hw q (by rw [(hf q x.val).2 ⟨x, hx, hq, rfl⟩]; simp)
    exact ⟨(.int .i64 q, .agg []), by
      unfold rd
      rw [hq, keyOf_int_mk hk hwq]
      rfl⟩⟩
  have hown : w.ownsMap P k anyElem b n (.map ((es.toList.map (rg P k anyElem)).foldr DataW.insert [])) := ⟨es, c, hb, F, hz, rfl⟩
  refine ⟨_, hown, hown.size_le, fun ss hp => ?_⟩
  let L : List Int := es.toList.map fun x => match x.key with | .int _ a => a | _ => 0
  have hL : ∀ x, x ∈ L ↔ f x ≠ none := by
    intro x
    constructor
    · intro hx
      obtain ⟨e, he, rfl⟩ := List.mem_map.1 hx
      obtain ⟨q, hq⟩ := hi e he
      rw [hq]
      rw [(hf q e.val).2 ⟨e, he, hq, rfl⟩]
      simp
    · intro hx
      cases hfx : f x with
      | none => exact absurd hfx hx
      | some v =>
        obtain ⟨e, he, hq, -⟩ := (hf x v).1 hfx
        exact List.mem_map.2 ⟨e, he, by rw [hq]⟩
  have hnd : L.Nodup := by
    have h3 := hs.2.2
    refine List.pairwise_map.2 ?_
    refine (List.pairwise_map.1 h3).imp_of_mem ?_
    intro a e ha he hne hx
    obtain ⟨q, hq⟩ := hi a ha
    obtain ⟨q', hq'⟩ := hi e he
    rw [hq, hq'] at hx
    simp only at hx
    exact hne (by rw [hq, hq', hx])
  have key : L.Perm (intKeys (.map ((es.toList.map (rg P k anyElem)).foldr DataW.insert []))) := by
    have hperm : ∀ l : List (Lit × DataW Unit), (l.foldr DataW.insert []).Perm l := by
      intro l
      induction l with
      | nil => exact List.Perm.nil
      | cons a t ih =>
        have hin : ∀ (x : Lit × DataW Unit) (m : List (Lit × DataW Unit)), (DataW.insert x m).Perm (x :: m) := by
          intro x m
          induction m with
          | nil => exact List.Perm.refl _
          | cons y r ihr =>
            unfold DataW.insert
            split
            · exact List.Perm.refl _
            · exact (ihr.cons y).trans (List.Perm.swap x y r)
        exact (hin a _).trans (ih.cons a)
    have h1 := ((hperm (es.toList.map (rg P k anyElem))).map fun p => intOf p.1).symm
    refine List.Perm.trans (List.Perm.of_eq ?_) h1
    rw [List.map_map]
    refine List.map_congr_left fun x hx => ?_
    obtain ⟨q, hq⟩ := hi x hx
    obtain ⟨y, hy⟩ := F.reads x hx
    have h2 := rd_key hy
    rw [hq, keyOf_int_mk hk (hw q (by rw [(hf q x.val).2 ⟨x, hx, hq, rfl⟩]; simp))] at h2
    simp only [Function.comp, rg_of hy, ← Option.some.inj h2, hq, intOf]
  have hpl := hp.trans key.symm
  exact ⟨hpl.nodup_iff.2 hnd, fun x => (hpl.mem_iff).trans (hL x)⟩
theorem rset_sorted {ss : List Int} {p : Int → Prop} (hn : ss.Nodup) (hm : ∀ x, x ∈ ss ↔ p x) : RSet (ss.mergeSort fun x y => decide (x ≤ y)) p := by
  have hp := List.mergeSort_perm ss (fun x y => decide (x ≤ y))
  refine ⟨?_, fun y => hp.mem_iff.trans (hm y)⟩
  have h1 : (ss.mergeSort fun x y => decide (x ≤ y)).Pairwise fun a b => decide (a ≤ b) = true := List.pairwise_mergeSort (fun a b c h1 h2 => by simp only [decide_eq_true_eq] at *; omega) (fun a b => by simp only [Bool.or_eq_true, decide_eq_true_eq]; omega) ss
  have h2 : (ss.mergeSort fun x y => decide (x ≤ y)).Nodup := hp.nodup_iff.2 hn
  refine (h1.and h2).imp fun {a b} h => ?_
  have h3 := h.1
  have h4 := h.2
  simp only [decide_eq_true_eq] at h3
  omega
end Go.Hg

namespace Go.Hg
open Go.RowKit Go.Maps Go.Sort Go.Shelf Go.Proofs

def keysA_ren : Go.Shelf.Ren := ⟨fun | 7 => 41 | 10 => 63 | n => n, fun | 23 => 86 | 26 => 2 | 3 => 3 | 28 => 91 | 0 => 0 | 27 => 90 | 33 => 120 | 4 => 4 | n => n, fun | n => n⟩
theorem keysA : SlLaysZI.n7 Tryz.prog keysA_ren := {
  mixed := by kernel_rfl,
  f7 := ⟨Tryz.f41.name, by decide, Tryz.func41.trans (congrArg some (by kernel_rfl))⟩,
  f10 := ⟨Tryz.f63.name, by decide, Tryz.func63.trans (congrArg some (by kernel_rfl))⟩,
  t0 := Tryz.underlying0,
  a0 := Tryz.isAgg0,
  z0 := Tryz.sizeOf0,
  v0 := Tryz.zeroValue0,
  t4 := Tryz.underlying4,
  a4 := Tryz.isAgg4,
  z4 := Tryz.sizeOf4,
  v4 := Tryz.zeroValue4,
  t23 := Tryz.underlying86,
  a23 := Tryz.isAgg86,
  z23 := Tryz.sizeOf86,
  v23 := Tryz.zeroValue86,
  t26 := Tryz.underlying2,
  a26 := Tryz.isAgg2,
  z26 := Tryz.sizeOf2,
  v26 := Tryz.zeroValue2,
  t27 := Tryz.underlying90,
  a27 := Tryz.isAgg90,
  z27 := Tryz.sizeOf90,
  v27 := Tryz.zeroValue90,
  t28 := Tryz.underlying91,
  a28 := Tryz.isAgg91,
  z28 := Tryz.sizeOf91,
  v28 := Tryz.zeroValue91,
  t33 := Tryz.underlying120,
  a33 := Tryz.isAgg120,
  z33 := Tryz.sizeOf120,
  v33 := Tryz.zeroValue120 }
def sortedA_ren : Go.Shelf.Ren := ⟨fun | 6 => 40 | 8 => 61 | 9 => 62 | 11 => 98 | 13 => 100 | 12 => 99 | 23 => 128 | 24 => 129 | 14 => 119 | 15 => 120 | 16 => 121 | 17 => 122 | 18 => 123 | 19 => 124 | 20 => 125 | 21 => 126 | 22 => 127 | 25 => 143 | 26 => 144 | 27 => 145 | 28 => 146 | 29 => 147 | 30 => 148 | 31 => 152 | n => n, fun | 26 => 2 | 28 => 91 | 24 => 25 | 0 => 0 | 3 => 3 | 37 => 150 | 48 => 173 | 50 => 175 | 4 => 4 | 40 => 166 | 39 => 165 | 45 => 155 | 5 => 5 | 9 => 9 | 51 => 192 | 55 => 196 | 57 => 201 | 58 => 202 | 33 => 120 | n => n, fun | n => n⟩
theorem sortedA : SlLaysZI.n6 Tryz.prog sortedA_ren := {
  mixed := by kernel_rfl,
  f6 := ⟨Tryz.f40.name, by decide, Tryz.func40.trans (congrArg some (by kernel_rfl))⟩,
  f8 := ⟨Tryz.f61.name, by decide, Tryz.func61.trans (congrArg some (by kernel_rfl))⟩,
  f11 := ⟨Tryz.f98.name, by decide, Tryz.func98.trans (congrArg some (by kernel_rfl))⟩,
  t0 := Tryz.underlying0,
  a0 := Tryz.isAgg0,
  z0 := Tryz.sizeOf0,
  v0 := Tryz.zeroValue0,
  t24 := Tryz.underlying25,
  a24 := Tryz.isAgg25,
  z24 := Tryz.sizeOf25,
  v24 := Tryz.zeroValue25,
  t26 := Tryz.underlying2,
  a26 := Tryz.isAgg2,
  z26 := Tryz.sizeOf2,
  v26 := Tryz.zeroValue2,
  t28 := Tryz.underlying91,
  a28 := Tryz.isAgg91,
  z28 := Tryz.sizeOf91,
  v28 := Tryz.zeroValue91,
  i26 := by kernel_rfl }
def sortA_ren : Go.Shelf.Ren := ⟨fun | 5 => 62 | 8 => 100 | 7 => 99 | 19 => 128 | 20 => 129 | 10 => 119 | 11 => 120 | 12 => 121 | 13 => 122 | 14 => 123 | 15 => 124 | 16 => 125 | 17 => 126 | 18 => 127 | 30 => 143 | 31 => 144 | 32 => 145 | 33 => 146 | 34 => 147 | 35 => 148 | 40 => 152 | n => n, fun | 23 => 25 | 25 => 2 | 3 => 3 | 32 => 150 | 22 => 25 | 0 => 0 | 44 => 173 | 46 => 175 | 4 => 4 | 36 => 166 | 35 => 165 | 41 => 155 | 5 => 5 | 9 => 9 | 53 => 192 | 57 => 196 | 63 => 201 | 64 => 202 | n => n, fun | n => n⟩
theorem sortA : SlLaysM.n5 Tryz.prog sortA_ren := {
  mixed := by kernel_rfl,
  f5 := ⟨Tryz.f62.name, by decide, Tryz.func62.trans (congrArg some (by kernel_rfl))⟩,
  f7 := ⟨Tryz.f99.name, by decide, Tryz.func99.trans (congrArg some (by kernel_rfl))⟩,
  f8 := Tryz.func100.trans (congrArg some (by kernel_rfl)),
  f10 := ⟨Tryz.f119.name, by decide, Tryz.func119.trans (congrArg some (by kernel_rfl))⟩,
  f11 := ⟨Tryz.f120.name, by decide, Tryz.func120.trans (congrArg some (by kernel_rfl))⟩,
  f12 := ⟨Tryz.f121.name, by decide, Tryz.func121.trans (congrArg some (by kernel_rfl))⟩,
  f13 := ⟨Tryz.f122.name, by decide, Tryz.func122.trans (congrArg some (by kernel_rfl))⟩,
  f14 := ⟨Tryz.f123.name, by decide, Tryz.func123.trans (congrArg some (by kernel_rfl))⟩,
  f15 := ⟨Tryz.f124.name, by decide, Tryz.func124.trans (congrArg some (by kernel_rfl))⟩,
  f16 := ⟨Tryz.f125.name, by decide, Tryz.func125.trans (congrArg some (by kernel_rfl))⟩,
  f17 := ⟨Tryz.f126.name, by decide, Tryz.func126.trans (congrArg some (by kernel_rfl))⟩,
  f18 := ⟨Tryz.f127.name, by decide, Tryz.func127.trans (congrArg some (by kernel_rfl))⟩,
  f19 := Tryz.func128.trans (congrArg some (by kernel_rfl)),
  f20 := Tryz.func129.trans (congrArg some (by kernel_rfl)),
  f30 := ⟨Tryz.f143.name, by decide, Tryz.func143.trans (congrArg some (by kernel_rfl))⟩,
  f31 := Tryz.func144.trans (congrArg some (by kernel_rfl)),
  f32 := Tryz.func145.trans (congrArg some (by kernel_rfl)),
  f33 := ⟨Tryz.f146.name, by decide, Tryz.func146.trans (congrArg some (by kernel_rfl))⟩,
  f34 := ⟨Tryz.f147.name, by decide, Tryz.func147.trans (congrArg some (by kernel_rfl))⟩,
  f35 := ⟨Tryz.f148.name, by decide, Tryz.func148.trans (congrArg some (by kernel_rfl))⟩,
  f40 := ⟨Tryz.f152.name, by decide, Tryz.func152.trans (congrArg some (by kernel_rfl))⟩,
  t0 := Tryz.underlying0,
  a0 := Tryz.isAgg0,
  z0 := Tryz.sizeOf0,
  v0 := Tryz.zeroValue0,
  t3 := Tryz.underlying3,
  a3 := Tryz.isAgg3,
  z3 := Tryz.sizeOf3,
  v3 := Tryz.zeroValue3,
  t4 := Tryz.underlying4,
  a4 := Tryz.isAgg4,
  z4 := Tryz.sizeOf4,
  v4 := Tryz.zeroValue4,
  t5 := Tryz.underlying5,
  a5 := Tryz.isAgg5,
  z5 := Tryz.sizeOf5,
  v5 := Tryz.zeroValue5,
  t9 := Tryz.underlying9,
  a9 := Tryz.isAgg9,
  z9 := Tryz.sizeOf9,
  v9 := Tryz.zeroValue9,
  t22 := Tryz.underlying25,
  a22 := Tryz.isAgg25,
  z22 := Tryz.sizeOf25,
  v22 := Tryz.zeroValue25,
  t23 := Tryz.underlying25,
  a23 := Tryz.isAgg25,
  z23 := Tryz.sizeOf25,
  v23 := Tryz.zeroValue25,
  t25 := Tryz.underlying2,
  a25 := Tryz.isAgg2,
  z25 := Tryz.sizeOf2,
  v25 := Tryz.zeroValue2,
  t32 := Tryz.underlying150,
  a32 := Tryz.isAgg150,
  z32 := Tryz.sizeOf150,
  v32 := Tryz.zeroValue150,
  t35 := Tryz.underlying165,
  a35 := Tryz.isAgg165,
  z35 := Tryz.sizeOf165,
  v35 := Tryz.zeroValue165,
  t36 := Tryz.underlying166,
  a36 := Tryz.isAgg166,
  z36 := Tryz.sizeOf166,
  v36 := Tryz.zeroValue166,
  t41 := Tryz.underlying155,
  a41 := Tryz.isAgg155,
  z41 := Tryz.sizeOf155,
  v41 := Tryz.zeroValue155,
  t44 := Tryz.underlying173,
  a44 := Tryz.isAgg173,
  z44 := Tryz.sizeOf173,
  v44 := Tryz.zeroValue173,
  t46 := Tryz.underlying175,
  a46 := Tryz.isAgg175,
  z46 := Tryz.sizeOf175,
  v46 := Tryz.zeroValue175,
  t53 := Tryz.underlying192,
  a53 := Tryz.isAgg192,
  z53 := Tryz.sizeOf192,
  v53 := Tryz.zeroValue192,
  t57 := Tryz.underlying196,
  a57 := Tryz.isAgg196,
  z57 := Tryz.sizeOf196,
  v57 := Tryz.zeroValue196,
  t63 := Tryz.underlying201,
  a63 := Tryz.isAgg201,
  z63 := Tryz.sizeOf201,
  v63 := Tryz.zeroValue201,
  t64 := Tryz.underlying202,
  a64 := Tryz.isAgg202,
  z64 := Tryz.sizeOf202,
  v64 := Tryz.zeroValue202 }
def delFI_ren : Go.Shelf.Ren := ⟨fun | 10 => 64 | 6 => 101 | n => n, fun | 22 => 25 | 23 => 2 | 25 => 120 | 3 => 3 | 4 => 4 | 0 => 0 | n => n, fun | n => n⟩
theorem delFI : SlLaysH.n10 Tryz.prog delFI_ren := {
  mixed := by kernel_rfl,
  f6 := ⟨Tryz.f101.name, by decide, Tryz.func101.trans (congrArg some (by kernel_rfl))⟩,
  f10 := ⟨Tryz.f64.name, by decide, Tryz.func64.trans (congrArg some (by kernel_rfl))⟩,
  t0 := Tryz.underlying0,
  a0 := Tryz.isAgg0,
  z0 := Tryz.sizeOf0,
  v0 := Tryz.zeroValue0,
  t3 := Tryz.underlying3,
  a3 := Tryz.isAgg3,
  z3 := Tryz.sizeOf3,
  v3 := Tryz.zeroValue3,
  t4 := Tryz.underlying4,
  a4 := Tryz.isAgg4,
  z4 := Tryz.sizeOf4,
  v4 := Tryz.zeroValue4,
  t22 := Tryz.underlying25,
  a22 := Tryz.isAgg25,
  z22 := Tryz.sizeOf25,
  v22 := Tryz.zeroValue25,
  a23 := Tryz.isAgg2,
  z23 := Tryz.sizeOf2,
  t25 := Tryz.underlying120,
  a25 := Tryz.isAgg120,
  z25 := Tryz.sizeOf120,
  v25 := Tryz.zeroValue120 }

theorem sortsA (m : Nat) : AnyZI.SortsIn Tryz.prog sortedA_ren Fence.wide m :=
  ⟨fun blk off cap ss W hH hblk hsz => callsIn_wide.2 (AnyM.slices_Sort_int sortA blk off cap ss W hH hblk hsz), fun p cap W => callsIn_wide.2 (AnyM.slices_Sort_int_none sortA p cap W)⟩
theorem mapsKeys (b : Nat) (w : World) : Calls Tryz.prog 41 #[.map (some b)] w fun e w' => e = .returned (.func (.func 63) #[] #[.pointer (some ⟨w.heap.size, 0, none⟩)]) ∧ w' = w.alloc (.cells #[.map (some b)] 86) :=
  callsIn_wide.1 (AnyZI.keys_in keysA Fence.wide 5 trivial rfl (some b) w)
theorem ownsRow_ids {w : World} {base : Nat} {v : Value} {ss : List Int} {n : Nat} (hn : n = ss.length) (h : w.ownsRow base 2 1 v n (ss.map encZ)) : IdsR (fun x => base ≤ x) w v ss := by
  subst hn
  have key : ∃ ob, OwnS w 2 1 v ss.length (ss.map (Value.int .i64 ·)) ob ∧ ∀ g, ob = some g → base ≤ g := by
    rcases h.2 with ⟨rfl, h0⟩ | ⟨g, cap, cur, rfl, hb, hg, h1, h2, h3, h4⟩
    · exact ⟨none, ⟨h.1, .inl ⟨none, rfl, h0, rfl, by simp⟩⟩, by simp⟩
    · exact ⟨some g, ⟨h.1, .inr ⟨g, cap, cur, rfl, rfl, hg, h1, h2, h3, h4⟩⟩, fun x hx => by cases hx; exact hb⟩
  obtain ⟨ob, h1, h2⟩ := key
  have h3 : OwnL w 2 1 (fun n r => r = [Value.int .i64 n]) v ss ob := ⟨ss.map (fun n => [.int .i64 n]), by simp, fun k x r hx hr => by
    rw [List.getElem?_map, hx] at hr
    simp only [Option.map_some, Option.some.injEq] at hr
    subst hr
    exact ⟨rfl, rfl⟩, by
    have e : (ss.map fun n => [Value.int .i64 n]).flatten = ss.map (.int .i64 ·) := by
      clear h1 h2 h
      induction ss with
      | nil => rfl
      | cons a t ih => simp [ih]
    rw [e]; exact h1⟩
  exact h3.toSl h2
set_option maxRecDepth 100000 in
set_option maxHeartbeats 2000000 in
theorem slicesSorted (b n : Nat) (f : Int → Option Value) (w : World) (h : MapI w b f n) (hn : n ≤ 4096) (hw : ∀ x, f x ≠ none → (Lit.int .i64 x).wf = true) :
    Calls Tryz.prog 40 #[.func (.func 63) #[] #[.pointer (some ⟨w.heap.size, 0, none⟩)]] (w.alloc (.cells #[.map (some b)] 86)) fun e w' => ∃ v L, e = .returned v ∧ RSet L (fun y => f y ≠ none) ∧ IdsR (fun x => w.heap.size ≤ x) w' v L ∧ Grow w w' := by
  have hmx : n ≤ maxLen := by unfold maxLen; omega
  obtain ⟨D0, hown, hsz, hk⟩ := h.owns (P := Tryz.prog) (k := 2) Tryz.underlying2 hmx hw
  have hseq : SeqGives Fence.wide 2 Tryz.prog 63 #[.pointer (some ⟨w.heap.size, 0, none⟩)] encZ (fun ss => ss.Perm (intKeys D0)) (Maps.size D0) (w.alloc (.cells #[.map (some b)] 86)) :=
    AnyZI.keys_gives (ρ := keysA_ren) { keysA with } Fence.wide _ trivial rfl (by omega) w.heap.size b n D0 _ (by simp) (by simp) (hown.alloc _)
  have cS := AnyZI.sorted_in sortedA Fence.wide 5 trivial trivial trivial trivial rfl (by omega) (sortsA _) (enters_of Tryz.func62 (by kernel_rfl) rfl) 63 #[.pointer (some ⟨w.heap.size, 0, none⟩)] trivial (enters_of Tryz.func63 (by kernel_rfl) rfl) _ _ (Nat.le_trans hsz hmx) (by omega) _ hseq
  refine (callsIn_wide.1 cS).mono ?_
  rintro e w' ⟨v, ss, rfl, hS, hrow, -, hb⟩
  obtain ⟨h1, h2⟩ := hk ss hS
  refine ⟨v, _, rfl, rset_sorted h1 h2, (ownsRow_ids (by simp) hrow).sub (fun x hx => by simp at hx; omega) (fun _ _ _ h => h), ?_⟩
  exact ((Grow.rfl' w).allocd _).step hb
end Go.Hg

namespace Go.Hg
open Go.RowKit Go.Proofs Go.Sort Go.Shelf

set_option maxRecDepth 100000 in
set_option maxHeartbeats 1000000 in
theorem idsLess (x f : Int) (fb : Nat) (w : World) (h : w.cell? ⟨fb, 0, none⟩ = some (.int .i64 f)) :
    FnGives Tryz.prog 65 #[.pointer (some ⟨fb, 0, none⟩)] #[.int .i64 x] (.bool (decide (x < f))) w := by
  show Calls Tryz.prog 65 #[.int .i64 x, .pointer (some ⟨fb, 0, none⟩)] w _
  obtain ⟨b, hb⟩ : ∃ b, decide (x < f) = b := ⟨_, rfl⟩
  rw [hb]
  go_enter Tryz.func65, Tryz.ntmps65
  go_wp2
  go_ret
  exact ⟨rfl, 0, rfl⟩
theorem idsLessAt (f : Int) (fb : Nat) (w : World) (hb : fb < w.heap.size) (h : w.cell? ⟨fb, 0, none⟩ = some (.int .i64 f)) : PredAt Tryz.prog 65 #[.pointer (some ⟨fb, 0, none⟩)] (Value.int .i64) (fun x => decide (x < f)) w :=
  fun W x g => idsLess x f fb W ((g.cell (p := ⟨fb, 0, none⟩) hb).trans h)
theorem idsLessOver (f : Int) (fb g size : Nat) (w : World) (hb : fb < w.heap.size) (hne : fb ≠ g) (h : w.cell? ⟨fb, 0, none⟩ = some (.int .i64 f)) : PredOver Tryz.prog 65 #[.pointer (some ⟨fb, 0, none⟩)] (Value.int .i64) (fun x => decide (x < f)) g 0 size w := by
  intro n os dk x _
  refine idsLess x f fb _ ?_
  unfold sortWorld
  rw [Sort.cell?_grow _ os _ (by rw [Go.Sort.size_putRow]; exact hb), cell?_putRow_other _ _ _ _ _ _ (.inl hne)]
  exact h
theorem enterIds1 : ∀ args w, (callFunc 65 args).run Tryz.prog w = .ok (.enter 65 args) w := fun args w => enterF Tryz.func65 (by kernel_rfl) rfl args w
set_option maxRecDepth 100000 in
set_option maxHeartbeats 1000000 in
theorem indexIdsNone (p : Option Addr) (cap : Nat) (fv : Value) (w : World) :
    Calls Tryz.prog 101 #[.slice p 0 cap, fv] w fun e w' => e = .returned (.int .i64 (-1)) ∧ w' = w := by
  go_enter Tryz.func101, Tryz.ntmps101
  go_wp2
  refine wp_loop_rounds 1 ?_
  rw [rounds_succ]
  go_wp2
  go_ret
  exact ⟨rfl, rfl⟩
set_option maxRecDepth 100000 in
set_option maxHeartbeats 1000000 in
theorem deleteIdsNone (p : Option Addr) (cap : Nat) (fv : Value) (w : World) :
    Calls Tryz.prog 64 #[.slice p 0 cap, fv] w fun e w' => e = .returned (.slice p 0 cap) ∧ w' = w := by
  go_enter Tryz.func64, Tryz.ntmps64
  go_wp2_with fail
  refine (indexIdsNone _ _ _ _).mono ?_
  rintro e w' ⟨rfl, rfl⟩
  go_wp2
  go_ret
  exact ⟨rfl, rfl⟩
theorem deleteIds (n fb : Nat) (f : Int) (v : Value) (l : List Int) (w : World) (h : IdsH n w v l) (hfb : fb < n) (hn : n ≤ w.heap.size) (hc : w.cell? ⟨fb, 0, none⟩ = some (.int .i64 f)) :
    Calls Tryz.prog 64 #[v, .func (.func 65) #[] #[.pointer (some ⟨fb, 0, none⟩)]] w fun e w' => ∃ v', e = .returned v' ∧ IdsH n w' v' (l.filter fun x => decide (f ≤ x)) ∧ Since n w w' := by
  rcases h with ⟨p, cap, rfl, hcap, rfl⟩ | ⟨g, cap, rfl, h1, h2, h3, h4, h5⟩
  · refine (deleteIdsNone p cap _ w).mono ?_
    rintro e w' ⟨rfl, rfl⟩
    exact ⟨_, rfl, .inl ⟨p, cap, rfl, hcap, rfl⟩, Mod.rfl' _ _⟩
  · unfold maxLen at h2
    have hk := AnyE.slices_DeleteFunc (P := Tryz.prog) (ρ := delFI_ren) { delFI with } (Value.int .i64) (fun _ => rfl) (fun x => decide (x < f)) 65 #[.pointer (some ⟨fb, 0, none⟩)] enterIds1 0 (fun _ => by kernel_rfl) g 0 cap l.toArray w (idsLessAt f fb w (by omega) hc) (idsLessOver f fb g _ w (by omega) (by omega) hc) h5 (by simp; omega) (by simpa using h1)
    simp at hk
    refine Calls.mono hk ?_
    rintro e w' ⟨rfl, q, rfl⟩
    have ef : (l.filter fun x => !decide (x < f)) = l.filter fun x => decide (f ≤ x) := List.filter_congr fun x _ => by rw [Bool.eq_iff_iff]; simp
    have hlen := List.length_filter_le (fun x => !decide (x < f)) l
    have hsz : ((l.filter fun x => !decide (x < f)) ++ List.replicate (l.length - (l.filter fun x => !decide (x < f)).length) (0 : Int)).toArray.size = l.toArray.size := by simp; omega
    have hh := put_holds (os := #[]) q h4 h5 hsz
    rw [Sort.grow_empty] at hh
    have hs := put_since (w := w) (os := #[]) h3 q ((l.filter fun x => !decide (x < f)) ++ List.replicate (l.length - (l.filter fun x => !decide (x < f)).length) (0 : Int)).toArray
    rw [Sort.grow_empty] at hs
    rw [← ef]
    refine ⟨_, rfl, .inr ⟨g, cap, rfl, by omega, by unfold maxLen; omega, h3, Nat.lt_of_lt_of_le h4 hs.size, fun j hj => ?_⟩, hs⟩
    have hj2 : j < (l.filter fun x => !decide (x < f)).length := by simpa using hj
    have h6 := hh j (by rw [hsz]; simp; omega)
    have e6 : ((l.filter fun x => !decide (x < f)) ++ List.replicate (l.length - (l.filter fun x => !decide (x < f)).length) (0 : Int)).toArray[j]! = (l.filter fun x => !decide (x < f)).toArray[j]! := by
      rw [getElem!_pos _ j (by rw [hsz]; simp; omega), getElem!_pos _ j hj]
      simp [List.getElem_append_left hj2]
    rw [e6] at h6
    exact h6
theorem sortIds (n : Nat) (v : Value) (l : List Int) (w : World) (h : IdsH n w v l) (hl : l.length ≤ 1099511627776) :
    Calls Tryz.prog 62 #[v] w fun e w' => e = .returned (.tuple #[]) ∧ IdsH n w' v (l.mergeSort fun x y => decide (x ≤ y)) ∧ Since n w w' := by
  rcases h with ⟨p, cap, rfl, hcap, rfl⟩ | ⟨g, cap, rfl, h1, h2, h3, h4, h5⟩
  · refine (AnyM.slices_Sort_int_none sortA p cap w).mono ?_
    rintro e w' ⟨rfl, rfl⟩
    exact ⟨rfl, .inl ⟨p, cap, rfl, hcap, by simp⟩, Mod.rfl' _ _⟩
  · have h2' := h2
    unfold maxLen at h2'
    refine (AnyM.slices_Sort_int sortA g 0 cap l w h5 h4 (by omega)).mono ?_
    rintro e w' ⟨rfl, q, os, rfl⟩
    have hs := put_since (w := w) (os := os) h3 q (l.mergeSort fun x y => decide (x ≤ y)).toArray
    exact ⟨rfl, .inr ⟨g, cap, by rw [List.length_mergeSort], by rw [List.length_mergeSort]; exact h1, h2, h3, Nat.lt_of_lt_of_le h4 hs.size, put_holds q h4 h5 (by simp)⟩, hs⟩
end Go.Hg

namespace Go.Hg
open Go Go.Conc

section
variable {P : Program} {ops : Array Oper} {Q : Exit → Act → World → Prop} {a : Act} {w w' : World} {i : Nat} {rest : List Nat} {o : Oper}

theorem stepG_comm' {main : Bool} {b : Frame} {k : List Item} {cs : List Frame} {cases : Array CommCase} {blocking : Bool} {shape : CommShape} (ho : ops[i]? = some o) (hw : Region.wanted o (yielded ops a.tmps) = true)
    (hr : (execOp a.eval o).run P w = .ok (.comm cases blocking shape) w') :
    ∃ es, Go.stepG P main (G (b.at a (.inRegion ops (i :: rest) :: k)) cs) w = .comm (G (b.at a (.inRegion ops (i :: rest) :: k)) cs) cases blocking shape w' es := by
  rw [stepG_oper ho hw]
  simp [Go.stepG.apply, hr, G, Frame.at, GStep.after]

def Arr (P : Program) (ops : Array Oper) (Q : Exit → Act → World → Prop) (l : List Nat) (a : Act) (w : World) : Prop :=
  ∀ (b : Frame) (k : List Item) (cs : List Frame), ∃ e a' w', Q e a' w' ∧ Arrives P (lone (b.at a (.inRegion ops l :: k)) cs w) b k cs e a' w'
theorem arr_region {id : Nat} (h : Arr P ops Q (List.range ops.size) a w) : (Code.region id ops false).wp P Q a w :=
  fun b k cs => let ⟨e, a', w', q, r⟩ := h b k cs; ⟨e, a', w', q, .of_steps (.one step_region) r⟩
theorem arr_nil (h : Q .normal a w) : Arr P ops Q [] a w := fun _ _ _ => ⟨.normal, a, w, h, .one step_region_end⟩
theorem finish_eq (ho : ops[i]? = some o) (b : Frame) (k : List Item) (v : Value) : (b.at a (.inRegion ops (i :: rest) :: k)).finish v = b.at (a.put o.dst v) (.inRegion ops rest :: k) := by
  rw [Frame.finish_at, ho]; rfl
theorem arr_step {v : Value} (ho : ops[i]? = some o)
    (h : ∀ (b : Frame) (k : List Item) (cs : List Frame), step P (solo (G (b.at a (.inRegion ops (i :: rest) :: k)) cs) w) = .next (solo (G ((b.at a (.inRegion ops (i :: rest) :: k)).finish v) cs) w'))
    (h' : Arr P ops Q rest (a.put o.dst v) w') : Arr P ops Q (i :: rest) a w := by
  intro b k cs
  obtain ⟨e, a', w'', hq, harr⟩ := h' b k cs
  have hs := h b k cs
  rw [finish_eq ho] at hs
  exact ⟨e, a', w'', hq, .of_steps (.one hs) harr⟩
theorem arr_value {v : Value} (ho : ops[i]? = some o) (hw : Region.wanted o (yielded ops a.tmps) = true) (hr : (execOp a.eval o).run P w = .ok (.value v) w') (h' : Arr P ops Q rest (a.put o.dst v) w') : Arr P ops Q (i :: rest) a w :=
  arr_step ho (fun b k cs => by
    refine step_lone_go ?_
    rw [stepG_op ho hw]
    simp [Go.stepG.apply, hr]) h'
variable {c cap s r : Nat} {buf : Array Value} {z v : Value} {tm closed : Bool}
theorem arr_send (ho : ops[i]? = some o) (hw : Region.wanted o (yielded ops a.tmps) = true) (hr : (execOp a.eval o).run P w = .ok (.comm #[scase c v z] true .send) w)
    (hc : w.heap[c]? = some (.chan cap buf false s r tm)) (hroom : buf.size < cap) (h' : Arr P ops Q rest (a.put o.dst undef) (w.setChan c cap (buf.push v) false (s + 1) r tm)) : Arr P ops Q (i :: rest) a w :=
  arr_step ho (fun b k cs => by
    obtain ⟨es, he⟩ := stepG_comm' (main := true) (b := b) (k := k) (cs := cs) (rest := rest) ho hw hr
    exact step_lone_send_room he hc hroom) h'
theorem step_sel_buf {P : Program} {fr : Frame} {cs : List Frame} {w w₁ : World} {es : Array Event} (h : Go.stepG P true (G fr cs) w = .comm (G fr cs) #[rcase c z] false .select w₁ es) (hc : w₁.heap[c]? = some (.chan cap buf closed s r tm)) (hsome : 0 < buf.size) :
    step P (solo (G fr cs) w) = .next (solo (G (fr.finish (.tuple #[goInt 0, .bool true, buf.getD 0 undef])) cs) (w₁.setChan c cap (buf.extract 1 buf.size) closed s (r + 1) tm)) := by
  have hp := partners_alone (c := c) true
  rw [step, stepT_solo rfl]
  simp [runT, solo, G, Array.swapAt!, Array.swapAt, h, GStep.es, communicate, ways, rcase, hc, hp, hsome, choose, Sem.run, Question.forced, bind, Sem.bind, pure, Goroutine.finishComm, commResult, World.setChan] at h ⊢
theorem arr_sel_buf (ho : ops[i]? = some o) (hw : Region.wanted o (yielded ops a.tmps) = true) (hr : (execOp a.eval o).run P w = .ok (.comm #[rcase c z] false .select) w)
    (hc : w.heap[c]? = some (.chan cap buf closed s r tm)) (hsome : 0 < buf.size) (h' : Arr P ops Q rest (a.put o.dst (.tuple #[goInt 0, .bool true, buf.getD 0 undef])) (w.setChan c cap (buf.extract 1 buf.size) closed s (r + 1) tm)) : Arr P ops Q (i :: rest) a w :=
  arr_step ho (fun b k cs => by
    obtain ⟨es, he⟩ := stepG_comm' (main := true) (b := b) (k := k) (cs := cs) (rest := rest) ho hw hr
    exact step_sel_buf he hc hsome) h'
theorem arr_sel_default (ho : ops[i]? = some o) (hw : Region.wanted o (yielded ops a.tmps) = true) (hr : (execOp a.eval o).run P w = .ok (.comm #[rcase c z] false .select) w)
    (hc : w.heap[c]? = some (.chan cap #[] false s r tm)) (h' : Arr P ops Q rest (a.put o.dst (.tuple #[goInt (-1), .bool false, z])) w) : Arr P ops Q (i :: rest) a w :=
  arr_step ho (fun b k cs => by
    obtain ⟨es, he⟩ := stepG_comm' (main := true) (b := b) (k := k) (cs := cs) (rest := rest) ho hw hr
    exact step_lone_select_default he hc) h'
end
end Go.Hg

namespace Go.Hg
open MapKept

def fdel (f : Int → Option Value) (k : Int) : Int → Option Value := fun x => if x = k then none else f x
section
variable {P : Program} {w : World} {b n : Nat} {f : Int → Option Value} {t kt et : TypeId}
theorem nodup_keys {es : Array MapEntry} {c : Nat} (hs : Stamped es c) : (es.toList.map (·.key)).Nodup := hs.2.2
theorem MapI.sizeL (h : MapI w b f n) {L : List Int} (hn : L.Nodup) (hL : ∀ k, (f k).isSome = true ↔ k ∈ L) : ∃ es c, w.heap[b]? = some (.map es c) ∧ es.size = L.length := by
  obtain ⟨es, c, hb, hs, hz, hi, hf⟩ := h
  refine ⟨es, c, hb, ?_⟩
  have hk := nodup_keys hs
  have hl : (L.map (fun k => Value.int .i64 k)).Nodup := List.Pairwise.map _ (fun a b (hab : a ≠ b) => by simpa using hab) hn
  have hp : (es.toList.map (·.key)).Perm (L.map (fun k => Value.int .i64 k)) := by
    refine (List.perm_ext_iff_of_nodup hk hl).2 fun v => ?_
    simp only [List.mem_map]
    constructor
    · rintro ⟨x, hx, rfl⟩
      obtain ⟨k, hk'⟩ := hi x hx
      exact ⟨k, (hL k).1 (by rw [(hf k x.val).2 ⟨x, hx, hk', rfl⟩]; rfl), hk'.symm⟩
    · rintro ⟨k, hk', rfl⟩
      obtain ⟨v, hv⟩ := Option.isSome_iff_exists.1 ((hL k).2 hk')
      obtain ⟨x, hx, h1, -⟩ := (hf k v).1 hv
      exact ⟨x, hx, h1⟩
  have := hp.length_eq
  simpa using this
theorem MapI.fits (h : MapI w b f n) {L : List Int} (hn : L.Nodup) (hL : ∀ k, (f k).isSome = true ↔ k ∈ L) : MapI w b f L.length := by
  obtain ⟨es, c, hb, hz⟩ := h.sizeL hn hL
  obtain ⟨es', c', hb', hs, -, hi, hf⟩ := h
  rw [hb] at hb'
  cases hb'
  exact ⟨es, c, hb, hs, by omega, hi, hf⟩
theorem MapI.len (h : MapI w b f n) (ht : P.underlying t = some (.map kt et)) {L : List Int} (hn : L.Nodup) (hL : ∀ k, (f k).isSome = true ↔ k ∈ L) (ty : TypeId) :
    (Builtin.len_ #[t] ty #[.map (some b)]).run P w = .ok (.int .i64 L.length) w := by
  obtain ⟨es, c, hb, hz⟩ := h.sizeL hn hL
  simp [Builtin.len_, run_underlying ht, MapKept.run_getObj_map hb, goInt, Result.andThen, hz]
theorem MapI.clear (h : MapI w b f n) (ht : P.underlying t = some (.map kt et)) (ty : TypeId) :
    ∃ w', (Builtin.clear_ #[t] ty #[.map (some b)]).run P w = .ok (.tuple #[]) w' ∧ MapI w' b (fun _ => none) 0 ∧ Mod (fun r => r = b) w w' ∧ w'.heap.size = w.heap.size := by
  obtain ⟨es, c, hb, hs, hz, hi, hf⟩ := h
  refine ⟨{ w with heap := w.heap.setIfInBounds b (.map #[] c) }, ?_, ⟨#[], c, (heap_set hb).1, ⟨by simp, by simp, by simp⟩, by simp, by simp, by simp⟩, ⟨rfl, rfl, rfl, by simp, fun r hr hne => (heap_set hb).2 r hne⟩, by simp⟩
  simp [Builtin.clear_, run_underlying ht, MapKept.run_getObj_map hb, MapKept.run_setObj_map _ hb, Result.andThen]
theorem MapI.drop (h : MapI w b f n) (ht : P.underlying t = some (.map kt et)) (hk : P.underlying kt = some (.int .i64)) (k : Int) (ty : TypeId) :
    ∃ w', (Builtin.delete_ #[t, kt] ty #[.map (some b), .int .i64 k]).run P w = .ok (.tuple #[]) w' ∧ MapI w' b (fdel f k) n ∧ Mod (fun r => r = b) w w' ∧ w'.heap.size = w.heap.size := by
  obtain ⟨es, c, hb, hs, hz, hi, hf⟩ := h
  have hkk : IsKey (.int .i64) (.int .i64 k) := by simp [IsKey]
  have hc : (Instr.checkKey es.isEmpty 10000 kt (.int .i64 k)).run P w = .ok () w := MapKept.run_checkKey (k := .int .i64 k) hk hkk es.isEmpty 9999
  rcases mapI_find hi k with ⟨h1, h2⟩ | ⟨j, e, h1, h2, h3⟩
  · have hf' := MapKept.run_findKey (P := P) (w := w) hk h1
    refine ⟨{ w with heap := w.heap.setIfInBounds b (.map es c) }, ?_, ⟨es, c, (heap_set hb).1, hs, hz, hi, fun k' v' => ?_⟩, ⟨rfl, rfl, rfl, by simp, fun r hr hne => (heap_set hb).2 r hne⟩, by simp⟩
    · simp [Builtin.delete_, run_underlying ht, MapKept.run_getObj_map hb, hc, hf', MapKept.run_setObj_map _ hb, Result.andThen]
    · unfold fdel
      by_cases hkk' : k' = k
      · subst hkk'
        simp only [if_true]
        constructor
        · intro h; cases h
        · rintro ⟨x, hx, h3, _⟩; exact absurd h3 (h2 x hx)
      · simp only [hkk', if_false]
        exact hf k' v'
  · have hf' := MapKept.run_findKey (P := P) (w := w) hk h1
    have hjl : j < es.toList.length := (List.getElem?_eq_some_iff.1 h2).1
    have hjs : j < es.size := by simpa using hjl
    have hsub : (es.eraseIdxIfInBounds j).toList = es.toList.eraseIdx j := by
      unfold Array.eraseIdxIfInBounds
      rw [dif_pos hjs]
      simp
    have hnd : ∀ x ∈ es.toList.eraseIdx j, x.key ≠ .int .i64 k := by
      intro x hx e1
      obtain ⟨i, hi', hx'⟩ := List.mem_eraseIdx_iff_getElem.1 hx
      obtain ⟨hne, hx'⟩ := hx'
      have hp := List.pairwise_iff_getElem.1 hs.2.2
      have ej : es.toList[j] = e := (List.getElem?_eq_some_iff.1 h2).2
      rcases Nat.lt_or_gt_of_ne hne with hlt | hlt
      · exact hp i j (by simpa using hi') (by simpa using hjl) hlt (by simp only [List.getElem_map, ej, hx', h3, e1])
      · exact hp j i (by simpa using hjl) (by simpa using hi') hlt (by simp only [List.getElem_map, ej, hx', h3, e1])
    refine ⟨{ w with heap := w.heap.setIfInBounds b (.map (es.eraseIdxIfInBounds j) c) }, ?_, ⟨_, c, (heap_set hb).1, stamped_erase hs j, Nat.le_trans (MapFrom.size_erase es j) hz, ?_, fun k' v' => ?_⟩, ⟨rfl, rfl, rfl, by simp, fun r hr hne => (heap_set hb).2 r hne⟩, by simp⟩
    · simp [Builtin.delete_, run_underlying ht, MapKept.run_getObj_map hb, hc, hf', MapKept.run_setObj_map _ hb, Result.andThen]
    · intro x hx
      rw [hsub] at hx
      exact hi x ((List.eraseIdx_sublist _ _).subset hx)
    · rw [hsub]
      unfold fdel
      by_cases hkk' : k' = k
      · subst hkk'
        simp only [if_true]
        constructor
        · intro h; cases h
        · rintro ⟨x, hx, h3, _⟩; exact absurd h3 (hnd x hx)
      · simp only [hkk', if_false]
        rw [hf k' v']
        constructor
        · rintro ⟨x, hx, g1, g2⟩
          obtain ⟨i, hil, hix⟩ := List.mem_iff_getElem.1 hx
          refine ⟨x, List.mem_eraseIdx_iff_getElem.2 ⟨i, hil, ?_, hix⟩, g1, g2⟩
          rintro rfl
          have ej : es.toList[i] = e := (List.getElem?_eq_some_iff.1 h2).2
          rw [hix] at ej
          subst ej
          rw [h3] at g1
          simp only [Value.int.injEq, true_and] at g1
          exact hkk' g1.symm
        · rintro ⟨x, hx, g1, g2⟩
          exact ⟨x, (List.eraseIdx_sublist _ _).subset hx, g1, g2⟩
end
section
variable {ops : Array Oper} {rest : List Oper} {o : Oper} {a : Act} {Q : Exit → Act → World → Prop} {P : Program}
theorem wpList_dropI (w : World) (hg : o.guard = none) (m x : Operand) (t kt : TypeId) (hop : o.op = Op.call { callee := Callee.builtin Builtin.delete, args := #[m, x], argTypes := #[t, kt] }) (et : TypeId) (ht : P.underlying t = some (.map kt et)) (hk : P.underlying kt = some (.int .i64))
    (b n : Nat) (f : Int → Option Value) (hm : a.eval m = .map (some b)) (h : MapI w b f n) (k : Int) (hx : a.eval x = .int .i64 k)
    (hK : ∀ w', MapI w' b (fdel f k) n → Mod (fun r => r = b) w w' → w'.heap.size = w.heap.size → wpList P ops Q rest (a.put o.dst (.tuple #[])) w') : wpList P ops Q (o :: rest) a w := by
  refine wpList_plain hg fun K' hK' => ?_
  obtain ⟨w', hrun, r1, r2, r3⟩ := h.drop ht hk k o.type
  unfold Oper.wp
  simp [execOp, hop, resolve, invoke, builtin, hm, hx, hrun, Result.andThen]
  exact hK' _ _ (hK w' r1 r2 r3)
theorem wpList_lenI (w : World) (hg : o.guard = none) (m : Operand) (t : TypeId) (hop : o.op = Op.call { callee := Callee.builtin Builtin.len, args := #[m], argTypes := #[t] }) (kt et : TypeId) (ht : P.underlying t = some (.map kt et))
    (b n : Nat) (f : Int → Option Value) (hm : a.eval m = .map (some b)) (h : MapI w b f n) (L : List Int) (hn : L.Nodup) (hL : ∀ k, (f k).isSome = true ↔ k ∈ L)
    (hK : wpList P ops Q rest (a.put o.dst (.int .i64 L.length)) w) : wpList P ops Q (o :: rest) a w := by
  refine wpList_plain hg fun K' hK' => ?_
  unfold Oper.wp
  simp [execOp, hop, resolve, invoke, builtin, hm, h.len ht hn hL o.type, Result.andThen]
  exact hK' _ _ hK
end
end Go.Hg

namespace Go.Hg
section
variable {E : List PEdge} {typ : ByteArray}

def spotL (l : List Int) (n : Int) : Nat := (l.takeWhile fun x => decide (x < n)).length
def putL (l : List Int) (n : Int) : List Int := if n ∈ l then l else l.take (spotL l n) ++ n :: l.drop (spotL l n)
theorem take_spotL (l : List Int) (n : Int) : l.take (spotL l n) = l.takeWhile fun x => decide (x < n) := by
  have h := List.takeWhile_append_dropWhile (p := fun x => decide (x < n)) (l := l)
  have e : l.take (spotL l n) = ((l.takeWhile fun x => decide (x < n)) ++ l.dropWhile fun x => decide (x < n)).take (l.takeWhile fun x => decide (x < n)).length := by rw [h]; rfl
  rw [e]
  exact List.take_left' rfl
theorem drop_spotL (l : List Int) (n : Int) : l.drop (spotL l n) = l.dropWhile fun x => decide (x < n) := by
  have h := List.takeWhile_append_dropWhile (p := fun x => decide (x < n)) (l := l)
  have e : l.drop (spotL l n) = ((l.takeWhile fun x => decide (x < n)) ++ l.dropWhile fun x => decide (x < n)).drop (l.takeWhile fun x => decide (x < n)).length := by rw [h]; rfl
  rw [e]
  exact List.drop_left' rfl
theorem mem_putL (l : List Int) (n y : Int) : y ∈ putL l n ↔ y ∈ l ∨ y = n := by
  unfold putL
  split
  · constructor
    · exact .inl
    · rintro (h | rfl)
      · exact h
      · assumption
  · conv => rhs; rw [← List.take_append_drop (spotL l n) l]
    simp only [List.mem_append, List.mem_cons]
    constructor
    · rintro (h | h | h)
      · exact .inl (.inl h)
      · exact .inr h
      · exact .inl (.inr h)
    · rintro ((h | h) | h)
      · exact .inl h
      · exact .inr (.inr h)
      · exact .inr (.inl h)
theorem dropWhile_ge {n : Int} : ∀ {l : List Int}, l.Pairwise (· < ·) → ∀ x ∈ l.dropWhile (fun x => decide (x < n)), n ≤ x
  | [], _, x, hx => by cases hx
  | a :: t, h, x, hx => by
    rw [List.pairwise_cons] at h
    by_cases ha : a < n
    · rw [List.dropWhile_cons_of_pos (by simpa using ha)] at hx
      exact dropWhile_ge h.2 x hx
    · rw [List.dropWhile_cons_of_neg (by simpa using ha)] at hx
      rcases List.mem_cons.1 hx with rfl | hx
      · omega
      · have := h.1 x hx; omega
theorem takeWhile_lt {n : Int} : ∀ {l : List Int}, ∀ x ∈ l.takeWhile (fun x => decide (x < n)), x < n
  | [], x, hx => by cases hx
  | a :: t, x, hx => by
    by_cases ha : a < n
    · rw [List.takeWhile_cons_of_pos (by simpa using ha)] at hx
      rcases List.mem_cons.1 hx with rfl | hx
      · exact ha
      · exact takeWhile_lt x hx
    · rw [List.takeWhile_cons_of_neg (by simpa using ha)] at hx
      cases hx
theorem putL_rises {l : List Int} (h : l.Pairwise (· < ·)) (n : Int) : (putL l n).Pairwise (· < ·) := by
  unfold putL
  split
  · exact h
  · rename_i hn
    rw [take_spotL, drop_spotL]
    have hge : ∀ x ∈ l.dropWhile (fun x => decide (x < n)), n < x := fun x hx => by
      have h1 := dropWhile_ge h x hx
      have h2 : x ∈ l := (List.dropWhile_sublist _).subset hx
      have : x ≠ n := by rintro rfl; exact hn h2
      omega
    rw [List.pairwise_append, List.pairwise_cons]
    refine ⟨h.sublist (List.takeWhile_sublist _), ⟨hge, h.sublist (List.dropWhile_sublist _)⟩, ?_⟩
    intro a ha b hb
    have h1 := takeWhile_lt a ha
    rcases List.mem_cons.1 hb with rfl | hb
    · exact h1
    · have := hge b hb; omega
theorem RSet.put {l : List Int} {p : Int → Prop} (h : RSet l p) (n : Int) : RSet (putL l n) (fun y => p y ∨ y = n) :=
  ⟨putL_rises h.1 n, fun y => by rw [mem_putL, h.2]⟩
theorem rises_nodup {l : List Int} (h : l.Pairwise (· < ·)) : l.Nodup := h.imp fun {a b} hab => by omega
theorem RSet.len {l : List Int} {p : Int → Prop} (h : RSet l p) (f : PEdge → Int) (hp : ∀ y, p y → ∃ e ∈ E, f e = y) : l.length ≤ E.length := nodup_le f E l (rises_nodup h.1) (fun y hy => hp y ((h.2 y).1 hy))
theorem RSet.full {l l' : List Int} {p p' : Int → Prop} (h : RSet l p) (h' : RSet l' p') (hp : ∀ y, p y → p' y) (hl : l'.length = l.length) : ∀ y, p' y → p y := by
  intro y hy
  by_cases hn : p y
  · exact hn
  exfalso
  have hny : y ∉ l := fun hm => hn ((h.2 y).1 hm)
  have := nodup_le (id : Int → Int) l' (y :: l) (List.nodup_cons.2 ⟨hny, rises_nodup h.1⟩) (fun z hz => by
    rcases List.mem_cons.1 hz with rfl | hz
    · exact ⟨z, (h'.2 z).2 hy, rfl⟩
    · exact ⟨z, (h'.2 z).2 (hp z ((h.2 z).1 hz)), rfl⟩)
  simp only [List.length_cons] at this
  omega
theorem outs_split {x : Int} {i : Nat} {e : PEdge} (he : E[i]? = some e) (h1 : fitE typ e = true) (h2 : e.from_ = x) : outsE E typ x = outsE (E.take i) typ x ++ e :: outsE (E.drop (i + 1)) typ x := by
  have hl : E = E.take i ++ e :: E.drop (i + 1) := by
    obtain ⟨hi, rfl⟩ := List.getElem?_eq_some_iff.1 he
    rw [List.getElem_cons_drop, List.take_append_drop]
  conv => lhs; rw [hl]
  simp [outsE, List.filter_append, h1, h2]
theorem PathR.cons {t x : Int} {d i : Nat} {e : PEdge} {l : List Int} (he : E[i]? = some e) (h1 : fitE typ e = true) (h2 : e.from_ = x) (hn : ∀ e' ∈ E.take i, fitE typ e' = true → e'.from_ = x → ¬ Dst E typ t d e'.to_) (hd : Dst E typ t d e.to_)
    (hl : PathR E typ t d e.to_ l) : PathR E typ t (d + 1) x (e.id :: l) :=
  ⟨_, e, _, l, outs_split he h1 h2, fun e' he' => by
    obtain ⟨h3, h4⟩ := List.mem_filter.1 he'
    rw [Bool.and_eq_true, decide_eq_true_eq] at h4
    exact hn e' h3 h4.1 h4.2, hd, rfl, hl⟩
theorem Wlk.ends {t x : Int} {d : Nat} (h : Wlk E typ t d x) (hne : x ≠ t) : (∃ e ∈ E, e.from_ = x) ∧ ∃ e ∈ E, e.to_ = t := by
  have key : ∀ d x, Wlk E typ t (d + 1) x → ∃ e ∈ E, e.to_ = t := by
    intro d
    induction d with
    | zero => rintro x ⟨z, ⟨e, he, -, -, h4⟩, rfl⟩; exact ⟨e, he, h4⟩
    | succ d ih => rintro x ⟨z, -, hw⟩; exact ih z hw
  cases d with
  | zero => exact absurd h hne
  | succ d =>
    refine ⟨?_, key d x h⟩
    obtain ⟨z, ⟨e, he, -, h3, -⟩, -⟩ := h
    exact ⟨e, he, h3⟩
end
end Go.Hg

namespace Go.Hg

def getP (ps : List PProp) (name : ByteArray) : Option PVal := (ps.find? fun p => decide (p.name = name)).map (·.v)
theorem getP_take {ps : List PProp} {name : ByteArray} {k : Nat} {p : PProp} (hk : ps[k]? = some p) (hp : p.name = name) (hall : ∀ q ∈ ps.take k, q.name ≠ name) : getP ps name = some p.v := by
  induction ps generalizing k with
  | nil => simp at hk
  | cons a t ih =>
    cases k with
    | zero =>
      simp at hk
      subst hk
      simp [getP, hp]
    | succ k =>
      have ha : a.name ≠ name := hall a (by simp)
      have h2 := ih (k := k) (by simpa using hk) (fun q hq => hall q (by simp [hq]))
      unfold getP at h2 ⊢
      rw [List.find?_cons_of_neg (by simpa using ha)]
      exact h2
theorem getP_none {ps : List PProp} {name : ByteArray} (hall : ∀ q ∈ ps, q.name ≠ name) : getP ps name = none := by
  unfold getP
  rw [List.find?_eq_none.2 (fun q hq => by simpa using hall q hq)]
  rfl

def formR (r : PRule) : Bool :=
  decide (NameOk r.typ) && (
    if r.kind = 1 ∨ r.kind = 2 then decide (NameOk r.name) && (decide (r.from_ = ByteArray.empty) && (decide (r.to_ = ByteArray.empty) && decide (r.n = 0)))
    else if r.kind = 3 then decide (NameOk r.from_) && (decide (NameOk r.to_) && (decide (r.name = ByteArray.empty) && decide (r.n = 0)))
    else if r.kind = 4 then decide (r.name = ByteArray.empty) && (decide (r.from_ = ByteArray.empty) && (decide (r.to_ = ByteArray.empty) && (decide (0 ≤ r.n) && decide (r.n ≤ 1024))))
    else false)
theorem formR_kind {r : PRule} (h : formR r = true) : r.kind = 1 ∨ r.kind = 2 ∨ r.kind = 3 ∨ r.kind = 4 := by
  unfold formR at h
  rw [Bool.and_eq_true] at h
  have h2 := h.2
  by_cases h12 : r.kind = 1 ∨ r.kind = 2
  · rcases h12 with h | h
    · exact .inl h
    · exact .inr (.inl h)
  · rw [if_neg h12] at h2
    by_cases h3 : r.kind = 3
    · exact .inr (.inr (.inl h3))
    · rw [if_neg h3] at h2
      by_cases h4 : r.kind = 4
      · exact .inr (.inr (.inr h4))
      · rw [if_neg h4] at h2; cases h2

def valR (r : PRule) (n : PNode) : Option PVal := if n.typ = r.typ then getP n.props r.name else none
def lacksR (r : PRule) (n : PNode) : Bool := decide (n.typ = r.typ) && (getP n.props r.name).isNone
def typeN (nodes : List PNode) (id : Int) : Option ByteArray := (nodes.find? fun x => decide (x.id = id)).map (·.typ)
def isT (nodes : List PNode) (id : Int) (typ : ByteArray) : Bool := decide (typeN nodes id = some typ)
def wrongR (nodes : List PNode) (r : PRule) (e : PEdge) : Bool := decide (e.typ = r.typ) && !(isT nodes e.from_ r.from_ && isT nodes e.to_ r.to_)
def outR (edges : List PEdge) (r : PRule) (x : Int) : Nat := (edges.filter fun e => decide (e.typ = r.typ) && decide (e.from_ = x)).length
def uniqR (nodes : List PNode) (r : PRule) : Bool := decide ((nodes.filterMap (valR r)).Nodup)
def mostR (edges : List PEdge) (r : PRule) : Bool := edges.all fun e => !decide (e.typ = r.typ) || decide ((outR edges r e.from_ : Int) ≤ r.n)
def holdR (nodes : List PNode) (edges : List PEdge) (r : PRule) : Bool :=
  if r.kind = 1 then uniqR nodes r else if r.kind = 2 then !nodes.any (lacksR r) else if r.kind = 3 then !edges.any (wrongR nodes r) else mostR edges r
def keepR (nodes : List PNode) (edges : List PEdge) (r : PRule) : Bool := formR r && holdR nodes edges r

def doubR (nodes : List PNode) (r : PRule) (n : PNode) : Bool := match valR r n with
  | none => false
  | some v => decide (2 ≤ (nodes.filterMap (valR r)).count v)
end Go.Hg
