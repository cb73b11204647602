/- Maps with keys of int64, whatever the elements: a function's view; Maps with any keys that can be told apart: a function's view; look, update, entry and its store, delete, clear; The keys of a map with keys of int64, as the kit's laws of maps.Keys and slices.Sorted want them; A map of int64 to int, as the kit's laws of ranges and of maps.DeleteFunc want it, and back; What breaks a rule: the plain words; without it the rule is kept; The closure of rule.Keeps for most: counts in a map, and a range over it; Maps with any keys at a drawn region: look, entry, store; Keys that are structs of three plain cells: told apart by their cells; rule.unique. Conditions: those that each theorem names. -/
import Derived.Maps.OwnOps
import Derived.Maps.OwnSet
import Derived.Carry
import Derived.Test.YtanijffgogpmdaaGreatChkA
import Derived.Lib.SlKeysI
import Derived.Maps.RangeWalk
import Derived.Lib.SlMapFilter
import Derived.Test.YtanijffgogpmdaaGreatChkB
import Derived.Test.YtanijffgogpmdaaGreatChkC
import Derived.Test.YtanijffgogpmdaaGreatChkF
namespace Go.Hg
open MapKept

/-- block b is a map of at most n entries that holds f -/
def MapI (w : World) (b : Nat) (f : Int → Option Value) (n : Nat) : Prop :=
  ∃ es clock, w.heap[b]? = some (.map es clock) ∧ Stamped es clock ∧ es.size ≤ n ∧ (∀ x ∈ es.toList, ∃ k, x.key = .int .i64 k) ∧ ∀ k v, f k = some v ↔ ∃ x ∈ es.toList, x.key = .int .i64 k ∧ x.val = v
/-- .. with another value at k -/
def fput (f : Int → Option Value) (k : Int) (v : Value) : Int → Option Value := fun x => if x = k then some v else f x
theorem fput_same (f : Int → Option Value) (k : Int) (v : Value) : fput f k v k = some v := by simp [fput]
theorem fput_other (f : Int → Option Value) {k x : Int} (v : Value) (h : x ≠ k) : fput f k v x = f x := by simp [fput, h]
theorem MapI.lt {w : World} {b n : Nat} {f : Int → Option Value} (h : MapI w b f n) : b < w.heap.size := by
  obtain ⟨es, c, hb, -⟩ := h
  exact (Array.getElem?_eq_some_iff.1 hb).1
theorem MapI.mono {w : World} {b n n' : Nat} {f : Int → Option Value} (h : MapI w b f n) (hn : n ≤ n') : MapI w b f n' := by
  obtain ⟨es, c, hb, hs, hz, r⟩ := h
  exact ⟨es, c, hb, hs, Nat.le_trans hz hn, r⟩
theorem MapI.keep {w w' : World} {b n : Nat} {f : Int → Option Value} (h : MapI w b f n) (hw : w'.heap[b]? = w.heap[b]?) : MapI w' b f n := by
  obtain ⟨es, c, hb, r⟩ := h
  exact ⟨es, c, hw.trans hb, r⟩
theorem MapI.mod {w w' : World} {b n : Nat} {f : Int → Option Value} {F : Nat → Prop} (h : MapI w b f n) (hm : Mod F w w') (hF : ¬ F b) : MapI w' b f n := h.keep (hm.block b h.lt hF)
theorem MapI.grow {w w' : World} {b n : Nat} {f : Int → Option Value} (h : MapI w b f n) (hg : Grow w w') : MapI w' b f n := h.keep (hg.heapEq h.lt)
theorem MapI.made (w : World) : MapI (w.alloc (.map #[] 0)) w.heap.size (fun _ => none) 0 :=
  ⟨#[], 0, (MapKept.heap_alloc w _).1, stamped_empty 0, by simp, by simp, by simp⟩

section
variable {P : Program} {w : World} {b n : Nat} {f : Int → Option Value} {t kt et : TypeId}
theorem mapI_find {es : Array MapEntry} (hk : ∀ x ∈ es.toList, ∃ k, x.key = .int .i64 k) (k : Int) :
    (Instr.findNow (.int .i64) (.int .i64 k) es.toList 0 = some none ∧ ∀ x ∈ es.toList, x.key ≠ .int .i64 k) ∨ ∃ j e, Instr.findNow (.int .i64) (.int .i64 k) es.toList 0 = some (some (j, e.val)) ∧ es.toList[j]? = some e ∧ e.key = .int .i64 k := by
  have h := findNow_spec (d := .int .i64) (k := .int .i64 k) (by simp [IsKey]) es.toList 0 (fun x hx => by obtain ⟨q, hq⟩ := hk x hx; simp [hq, IsKey])
  simpa using h
/-- m[k] with ok -/
theorem MapI.look_ok (h : MapI w b f n) (ht : P.underlying t = some (.map kt et)) (hk : P.underlying kt = some (.int .i64)) {z : Value} (hz : (zeroValue et).run P w = .ok z w) (k : Int) :
    (Instr.lookup t (.map (some b)) (.int .i64 k) true).run P w = .ok (.tuple #[(f k).getD z, .bool (f k).isSome]) w := by
  obtain ⟨es, c, hb, hs, -, hi, hf⟩ := h
  have hc : (Instr.checkKey es.isEmpty 10000 kt (.int .i64 k)).run P w = .ok () w := MapKept.run_checkKey (k := .int .i64 k) hk (by simp [IsKey]) es.isEmpty 9999
  rcases mapI_find hi k with ⟨h1, h2⟩ | ⟨j, e, h1, h2, h3⟩
  · have hn : f k = none := by
      cases hfk : f k with
      | none => rfl
      | some v => obtain ⟨x, hx, h3, -⟩ := (hf k v).1 hfk; exact absurd h3 (h2 x hx)
    have hf' := MapKept.run_findKey (P := P) (w := w) hk h1
    simp [Instr.lookup, run_underlying ht, MapKept.run_getObj_map hb, Result.andThen]
    rw [hc]
    simp [hf', hz, hn]
  · have hn : f k = some e.val := (hf k e.val).2 ⟨e, List.mem_of_getElem? h2, h3, rfl⟩
    have hf' := MapKept.run_findKey (P := P) (w := w) hk h1
    simp [Instr.lookup, run_underlying ht, MapKept.run_getObj_map hb, Result.andThen]
    rw [hc]
    simp [hf', hn]
theorem MapI.look (h : MapI w b f n) (ht : P.underlying t = some (.map kt et)) (hk : P.underlying kt = some (.int .i64)) {z : Value} (hz : (zeroValue et).run P w = .ok z w) (k : Int) :
    (Instr.lookup t (.map (some b)) (.int .i64 k) false).run P w = .ok ((f k).getD z) w := by
  obtain ⟨es, c, hb, hs, -, hi, hf⟩ := h
  have hc : (Instr.checkKey es.isEmpty 10000 kt (.int .i64 k)).run P w = .ok () w := MapKept.run_checkKey (k := .int .i64 k) hk (by simp [IsKey]) es.isEmpty 9999
  rcases mapI_find hi k with ⟨h1, h2⟩ | ⟨j, e, h1, h2, h3⟩
  · have hn : f k = none := by
      cases hfk : f k with
      | none => rfl
      | some v => obtain ⟨x, hx, h3, -⟩ := (hf k v).1 hfk; exact absurd h3 (h2 x hx)
    have hf' := MapKept.run_findKey (P := P) (w := w) hk h1
    simp [Instr.lookup, run_underlying ht, MapKept.run_getObj_map hb, Result.andThen]
    rw [hc]
    simp [hf', hz, hn]
  · have hn : f k = some e.val := (hf k e.val).2 ⟨e, List.mem_of_getElem? h2, h3, rfl⟩
    have hf' := MapKept.run_findKey (P := P) (w := w) hk h1
    simp [Instr.lookup, run_underlying ht, MapKept.run_getObj_map hb, Result.andThen]
    rw [hc]
    simp [hf', hn]
/-- m[k] = v -/
theorem MapI.update (h : MapI w b f n) (ht : P.underlying t = some (.map kt et)) (hk : P.underlying kt = some (.int .i64)) (k : Int) (v : Value) :
    ∃ w', (Instr.mapUpdate t (.map (some b)) (.int .i64 k) v).run P w = .ok () w' ∧ MapI w' b (fput f k v) (n + 1) ∧ ((f k).isSome → MapI w' b (fput f k v) n) ∧ Mod (fun r => r = b) w w' ∧ w'.heap.size = w.heap.size := by
  obtain ⟨es, c, hb, hs, hn, hi, hf⟩ := h
  have hkk : IsKey (.int .i64) (.int .i64 k) := by simp [IsKey]
  have hc : (Instr.checkKey false 10000 kt (.int .i64 k)).run P w = .ok () w := MapKept.run_checkKey (k := .int .i64 k) hk hkk false 9999
  rcases mapI_find hi k with ⟨h1, h2⟩ | ⟨j, e, h1, h2, h3⟩
  · have hf' := MapKept.run_findKey (P := P) (w := w) hk h1
    have hfk : f k = none := by
      cases hfk : f k with
      | none => rfl
      | some v => obtain ⟨x, hx, h3, -⟩ := (hf k v).1 hfk; exact absurd h3 (h2 x hx)
    have hM : MapI { w with heap := w.heap.setIfInBounds b (.map (es.push { key := .int .i64 k, val := v, born := c }) (c + 1)) } b (fput f k v) (n + 1) := by
      refine ⟨_, _, (heap_set hb).1, stamped_push hs h2, by simp; omega, ?_, ?_⟩
      · intro x hx
        simp only [Array.toList_push, List.mem_append, List.mem_singleton] at hx
        rcases hx with hx | rfl
        · exact hi x hx
        · exact ⟨k, rfl⟩
      · intro k' v'
        simp only [Array.toList_push, List.mem_append, List.mem_singleton]
        by_cases hkk' : k' = k
        · subst hkk'
          rw [fput_same]
          constructor
          · intro hv
            exact ⟨_, .inr rfl, rfl, Option.some.inj hv⟩
          · rintro ⟨x, hx | rfl, h3, h4⟩
            · exact absurd h3 (h2 x hx)
            · exact congrArg some h4
        · rw [fput_other _ _ hkk', hf]
          constructor
          · rintro ⟨x, hx, h3, h4⟩
            exact ⟨x, .inl hx, h3, h4⟩
          · rintro ⟨x, hx | rfl, h3, h4⟩
            · exact ⟨x, hx, h3, h4⟩
            · simp only [Value.int.injEq, true_and] at h3
              exact absurd h3.symm hkk'
    refine ⟨_, ?_, hM, fun hs => by simp [hfk] at hs, ?_, by simp⟩
    · simp [Instr.mapUpdate, run_underlying ht, MapKept.run_getObj_map hb, hc, hf', MapKept.run_setObj_map _ hb, Result.andThen]
    · exact ⟨rfl, rfl, rfl, by simp, fun r hr hne => (heap_set hb).2 r hne⟩
  · have hf' := MapKept.run_findKey (P := P) (w := w) hk h1
    have hj : es[j]? = some e := by simpa using h2
    have hM : MapI { w with heap := w.heap.setIfInBounds b (.map (es.modify j (fun e => { e with key := .int .i64 k, val := v })) c) } b (fput f k v) n := by
      have hkey : ∀ e', es[j]? = some e' → ({ e' with key := .int .i64 k, val := v } : MapEntry).key = e'.key := fun e' he' => by rw [hj] at he'; cases he'; exact h3.symm
      have hmem : ∀ x, x ∈ (es.modify j (fun e => { e with key := .int .i64 k, val := v })).toList ↔ ∃ i y, es[i]? = some y ∧ x = if j = i then { y with key := .int .i64 k, val := v } else y := by
        intro x
        rw [List.mem_iff_getElem?]
        simp only [Array.getElem?_toList, Array.getElem?_modify]
        constructor
        · rintro ⟨i, hi'⟩
          by_cases hji : j = i
          · subst hji
            simp [hj] at hi'
            exact ⟨j, e, hj, by simp [hi']⟩
          · simp [hji] at hi'
            exact ⟨i, x, hi', by simp [hji]⟩
        · rintro ⟨i, y, hy, rfl⟩
          refine ⟨i, ?_⟩
          by_cases hji : j = i
          · subst hji
            simp [hy]
          · simp [hji, hy]
      refine ⟨_, _, (heap_set hb).1, stamped_modify hs _ _ (fun _ _ => rfl) (fun e' _ he' => hkey e' he'), by simp; omega, ?_, ?_⟩
      · intro x hx
        obtain ⟨i, y, hy, rfl⟩ := (hmem x).1 hx
        by_cases hji : j = i
        · simp [hji]
        · simp only [hji, if_false]
          exact hi y (List.mem_of_getElem? (by simpa using hy))
      · intro k' v'
        by_cases hkk' : k' = k
        · subst hkk'
          rw [fput_same]
          constructor
          · intro hv
            exact ⟨{ e with key := .int .i64 k', val := v }, (hmem _).2 ⟨j, e, hj, by simp⟩, rfl, Option.some.inj hv⟩
          · rintro ⟨x, hx, h4, h5⟩
            obtain ⟨i, y, hy, rfl⟩ := (hmem x).1 hx
            by_cases hji : j = i
            · simp [hji] at h5
              exact congrArg some h5
            · exfalso
              simp only [hji, if_false] at h4
              have hnd := hs.2.2
              have hnd := List.pairwise_iff_getElem.1 hnd
              have hjl : j < es.toList.length := by simpa using (Array.getElem?_eq_some_iff.1 hj).1
              have hil : i < es.toList.length := by simpa using (Array.getElem?_eq_some_iff.1 hy).1
              have ej : es.toList[j] = e := by simpa using (Array.getElem?_eq_some_iff.1 hj).2
              have ei : es.toList[i] = y := by simpa using (Array.getElem?_eq_some_iff.1 hy).2
              rcases Nat.lt_or_gt_of_ne hji with hlt | hlt
              · exact hnd j i (by simpa using hjl) (by simpa using hil) hlt (by simp only [List.getElem_map, ej, ei, h3, h4])
              · exact hnd i j (by simpa using hil) (by simpa using hjl) hlt (by simp only [List.getElem_map, ej, ei, h3, h4])
        · rw [fput_other _ _ hkk', hf]
          constructor
          · rintro ⟨x, hx, h4, h5⟩
            obtain ⟨i, hi'⟩ := List.mem_iff_getElem?.1 hx
            have hji : j ≠ i := by
              rintro rfl
              rw [h2] at hi'
              cases hi'
              rw [h3] at h4
              simp only [Value.int.injEq, true_and] at h4
              exact hkk' h4.symm
            exact ⟨x, (hmem x).2 ⟨i, x, by simpa using hi', by simp [hji]⟩, h4, h5⟩
          · rintro ⟨x, hx, h4, h5⟩
            obtain ⟨i, y, hy, rfl⟩ := (hmem x).1 hx
            by_cases hji : j = i
            · simp [hji] at h4
              exact absurd h4.symm hkk'
            · simp only [hji, if_false] at h4 h5
              exact ⟨y, List.mem_of_getElem? (by simpa using hy), h4, h5⟩
    refine ⟨_, ?_, hM.mono (Nat.le_succ _), fun _ => hM, ?_, by simp⟩
    · simp [Instr.mapUpdate, run_underlying ht, MapKept.run_getObj_map hb, hc, hf', hj, h3, run_keyThatStays hkk, MapKept.run_setObj_map _ hb, Result.andThen]
    · exact ⟨rfl, rfl, rfl, by simp, fun r hr hne => (heap_set hb).2 r hne⟩

variable {ops : Array Oper} {rest : List Oper} {o : Oper} {a : Act} {Q : Exit → Act → World → Prop}
theorem wpList_lookI_ok (w : World) (hg : o.guard = none) (m x : Operand) (t : TypeId) (hop : o.op = Op.lookup t m x true) (kt et : TypeId) (ht : P.underlying t = some (.map kt et)) (hk : P.underlying kt = some (.int .i64)) (z : Value)
    (hz : (zeroValue et).run P w = .ok z w) (b n : Nat) (f : Int → Option Value) (hm : a.eval m = .map (some b)) (h : MapI w b f n) (k : Int) (hx : a.eval x = .int .i64 k)
    (hK : wpList P ops Q rest (a.put o.dst (.tuple #[(f k).getD z, .bool (f k).isSome])) w) : wpList P ops Q (o :: rest) a w := by
  refine wpList_plain hg fun K' hK' => ?_
  unfold Oper.wp
  simp [execOp, hop, hm, hx, h.look_ok ht hk hz k, Result.andThen]
  exact hK' _ _ hK
theorem wpList_lookI (w : World) (hg : o.guard = none) (m x : Operand) (t : TypeId) (hop : o.op = Op.lookup t m x false) (kt et : TypeId) (ht : P.underlying t = some (.map kt et)) (hk : P.underlying kt = some (.int .i64)) (z : Value)
    (hz : (zeroValue et).run P w = .ok z w) (b n : Nat) (f : Int → Option Value) (hm : a.eval m = .map (some b)) (h : MapI w b f n) (k : Int) (hx : a.eval x = .int .i64 k)
    (hK : wpList P ops Q rest (a.put o.dst ((f k).getD z)) w) : wpList P ops Q (o :: rest) a w := by
  refine wpList_plain hg fun K' hK' => ?_
  unfold Oper.wp
  simp [execOp, hop, hm, hx, h.look ht hk hz k, Result.andThen]
  exact hK' _ _ hK
theorem wpList_updI (w : World) (hg : o.guard = none) (m x v : Operand) (t : TypeId) (hop : o.op = Op.mapUpdate t m x v) (kt et : TypeId) (ht : P.underlying t = some (.map kt et)) (hk : P.underlying kt = some (.int .i64))
    (b n : Nat) (f : Int → Option Value) (hm : a.eval m = .map (some b)) (h : MapI w b f n) (k : Int) (hx : a.eval x = .int .i64 k) (val : Value) (hv : a.eval v = val)
    (hK : ∀ w', MapI w' b (fput f k val) (n + 1) → ((f k).isSome → MapI w' b (fput f k val) n) → Mod (fun r => r = b) w w' → w'.heap.size = w.heap.size → wpList P ops Q rest (a.put o.dst undef) w') : wpList P ops Q (o :: rest) a w := by
  refine wpList_plain hg fun K' hK' => ?_
  obtain ⟨w', hrun, r1, r2, r3, r4⟩ := h.update ht hk k val
  unfold Oper.wp
  simp [execOp, hop, hm, hx, hv, hrun, Result.andThen]
  exact hK' _ _ (hK w' r1 r2 r3 r4)
end
end Go.Hg

namespace Go.Hg
open MapKept

/-- what is asked of keys -/
structure KeyK (P : Program) (kt : TypeId) {κ : Type} (kv : κ → Value) : Prop where
  inj : ∀ {a b : κ}, kv a = kv b → a = b
  check : ∀ (w : World) (e : Bool) (k : κ), (Instr.checkKey e 10000 kt (kv k)).run P w = .ok () w
  find : ∀ (w : World) (k : κ) (es : List MapEntry), (∀ x ∈ es, ∃ q, x.key = kv q) → ((Instr.findKey kt (kv k) es).run P w = .ok none w ∧ ∀ x ∈ es, x.key ≠ kv k) ∨
    ∃ j e, (Instr.findKey kt (kv k) es).run P w = .ok (some (j, e.val)) w ∧ es[j]? = some e ∧ e.key = kv k
  stays : ∀ (w : World) (k : κ), (Instr.keyThatStays (kv k) (kv k)).run P w = .ok (kv k) w
theorem keyK_int {P : Program} {kt : TypeId} (hk : P.underlying kt = some (.int .i64)) : KeyK P kt (fun k : Int => .int .i64 k) where
  inj h := by simpa using h
  check w e k := MapKept.run_checkKey (k := .int .i64 k) hk (by simp [IsKey]) e 9999
  find w k es hes := by
    rcases mapI_find (es := es.toArray) (by simpa using hes) k with ⟨h1, h2⟩ | ⟨j, e, h1, h2, h3⟩
    · exact .inl ⟨MapKept.run_findKey hk (by simpa using h1), by simpa using h2⟩
    · exact .inr ⟨j, e, MapKept.run_findKey hk (by simpa using h1), by simpa using h2, h3⟩
  stays w k := run_keyThatStays (d := .int .i64) (by simp [IsKey])
section
variable {κ : Type} {kv : κ → Value}

/-- block b is a map of at most n entries that holds f -/
def MapK (kv : κ → Value) (w : World) (b : Nat) (f : κ → Option Value) (n : Nat) : Prop :=
  ∃ es clock, w.heap[b]? = some (.map es clock) ∧ Stamped es clock ∧ es.size ≤ n ∧ (∀ x ∈ es.toList, ∃ k, x.key = kv k) ∧ ∀ k v, f k = some v ↔ ∃ x ∈ es.toList, x.key = kv k ∧ x.val = v
theorem MapI.toK {w : World} {b n : Nat} {f : Int → Option Value} (h : MapI w b f n) : MapK (fun k : Int => .int .i64 k) w b f n := h
theorem MapK.toI {w : World} {b n : Nat} {f : Int → Option Value} (h : MapK (fun k : Int => .int .i64 k) w b f n) : MapI w b f n := h
def kput [DecidableEq κ] (f : κ → Option Value) (k : κ) (v : Value) : κ → Option Value := fun x => if x = k then some v else f x
def kdel [DecidableEq κ] (f : κ → Option Value) (k : κ) : κ → Option Value := fun x => if x = k then none else f x
theorem kput_same [DecidableEq κ] (f : κ → Option Value) (k : κ) (v : Value) : kput f k v k = some v := by simp [kput]
theorem kput_other [DecidableEq κ] (f : κ → Option Value) {k x : κ} (v : Value) (h : x ≠ k) : kput f k v x = f x := by simp [kput, h]
theorem kput_twice [DecidableEq κ] (f : κ → Option Value) (k : κ) (v u : Value) : kput (kput f k v) k u = kput f k u := by
  funext x
  by_cases h : x = k <;> simp [kput, h]
theorem MapK.lt {w : World} {b n : Nat} {f : κ → Option Value} (h : MapK kv w b f n) : b < w.heap.size := by
  obtain ⟨es, c, hb, -⟩ := h
  exact (Array.getElem?_eq_some_iff.1 hb).1
theorem MapK.mono {w : World} {b n n' : Nat} {f : κ → Option Value} (h : MapK kv w b f n) (hn : n ≤ n') : MapK kv w b f n' := by
  obtain ⟨es, c, hb, hs, hz, r⟩ := h
  exact ⟨es, c, hb, hs, Nat.le_trans hz hn, r⟩
theorem MapK.keep {w w' : World} {b n : Nat} {f : κ → Option Value} (h : MapK kv w b f n) (hw : w'.heap[b]? = w.heap[b]?) : MapK kv w' b f n := by
  obtain ⟨es, c, hb, r⟩ := h
  exact ⟨es, c, hw.trans hb, r⟩
theorem MapK.mod {w w' : World} {b n : Nat} {f : κ → Option Value} {F : Nat → Prop} (h : MapK kv w b f n) (hm : Mod F w w') (hF : ¬ F b) : MapK kv w' b f n := h.keep (hm.block b h.lt hF)
theorem MapK.grow {w w' : World} {b n : Nat} {f : κ → Option Value} (h : MapK kv w b f n) (hg : Grow w w') : MapK kv w' b f n := h.keep (hg.heapEq h.lt)
theorem MapK.made (w : World) : MapK kv (w.alloc (.map #[] 0)) w.heap.size (fun _ => none) 0 :=
  ⟨#[], 0, (MapKept.heap_alloc w _).1, stamped_empty 0, by simp, by simp, by simp⟩
/-- the entry that a stamp names -/
def BornAt (kv : κ → Value) (w : World) (b : Nat) (s : Nat) (k : κ) : Prop := ∃ es clock, w.heap[b]? = some (.map es clock) ∧ ∃ x ∈ es.toList, x.born = s ∧ x.key = kv k

section
variable {P : Program} {w : World} {b n : Nat} {f : κ → Option Value} {t kt et : TypeId}
/-- one more entry -/
theorem MapK.pushed [DecidableEq κ] {es : Array MapEntry} {c : Nat} (hb : w.heap[b]? = some (.map es c)) (hs : Stamped es c) (hn : es.size ≤ n) (hi : ∀ x ∈ es.toList, ∃ k, x.key = kv k) (hf : ∀ k v, f k = some v ↔ ∃ x ∈ es.toList, x.key = kv k ∧ x.val = v)
    (inj : ∀ {a b : κ}, kv a = kv b → a = b) (k : κ) (v : Value) (h2 : ∀ x ∈ es.toList, x.key ≠ kv k) :
    MapK kv { w with heap := w.heap.setIfInBounds b (.map (es.push { key := kv k, val := v, born := c }) (c + 1)) } b (kput f k v) (n + 1) := by
  refine ⟨_, _, (heap_set hb).1, stamped_push hs h2, by simp; omega, ?_, ?_⟩
  · intro x hx
    simp only [Array.toList_push, List.mem_append, List.mem_singleton] at hx
    rcases hx with hx | rfl
    · exact hi x hx
    · exact ⟨k, rfl⟩
  · intro k' v'
    simp only [Array.toList_push, List.mem_append, List.mem_singleton]
    by_cases hkk' : k' = k
    · subst hkk'
      rw [kput_same]
      constructor
      · intro hv
        exact ⟨_, .inr rfl, rfl, Option.some.inj hv⟩
      · rintro ⟨x, hx | rfl, h3, h4⟩
        · exact absurd h3 (h2 x hx)
        · exact congrArg some h4
    · rw [kput_other _ _ hkk', hf]
      constructor
      · rintro ⟨x, hx, h3, h4⟩
        exact ⟨x, .inl hx, h3, h4⟩
      · rintro ⟨x, hx | rfl, h3, h4⟩
        · exact ⟨x, hx, h3, h4⟩
        · exact absurd (inj h3).symm hkk'
/-- an entry's value is another one -/
theorem MapK.modified [DecidableEq κ] {es : Array MapEntry} {c j : Nat} {e : MapEntry} (hb : w.heap[b]? = some (.map es c)) (hs : Stamped es c) (hn : es.size ≤ n) (hi : ∀ x ∈ es.toList, ∃ k, x.key = kv k) (hf : ∀ k v, f k = some v ↔ ∃ x ∈ es.toList, x.key = kv k ∧ x.val = v)
    (inj : ∀ {a b : κ}, kv a = kv b → a = b) (k : κ) (v : Value) (hj : es[j]? = some e) (h3 : e.key = kv k) :
    MapK kv { w with heap := w.heap.setIfInBounds b (.map (es.modify j (fun e => { e with key := kv k, val := v })) c) } b (kput f k v) n := by
  have h2 : es.toList[j]? = some e := by simpa using hj
  have hkey : ∀ e', es[j]? = some e' → ({ e' with key := kv k, val := v } : MapEntry).key = e'.key := fun e' he' => by rw [hj] at he'; cases he'; exact h3.symm
  have hmem : ∀ x, x ∈ (es.modify j (fun e => { e with key := kv k, val := v })).toList ↔ ∃ i y, es[i]? = some y ∧ x = if j = i then { y with key := kv k, val := v } else y := by
    intro x
    rw [List.mem_iff_getElem?]
    simp only [Array.getElem?_toList, Array.getElem?_modify]
    constructor
    · rintro ⟨i, hi'⟩
      by_cases hji : j = i
      · subst hji
        simp [hj] at hi'
        exact ⟨j, e, hj, by simp [hi']⟩
      · simp [hji] at hi'
        exact ⟨i, x, hi', by simp [hji]⟩
    · rintro ⟨i, y, hy, rfl⟩
      refine ⟨i, ?_⟩
      by_cases hji : j = i
      · subst hji
        simp [hy]
      · simp [hji, hy]
  refine ⟨_, _, (heap_set hb).1, stamped_modify hs _ _ (fun _ _ => rfl) (fun e' _ he' => hkey e' he'), by simp; omega, ?_, ?_⟩
  · intro x hx
    obtain ⟨i, y, hy, rfl⟩ := (hmem x).1 hx
    by_cases hji : j = i
    · exact ⟨k, by simp [hji]⟩
    · simp only [hji, if_false]
      exact hi y (List.mem_of_getElem? (by simpa using hy))
  · intro k' v'
    by_cases hkk' : k' = k
    · subst hkk'
      rw [kput_same]
      constructor
      · intro hv
        exact ⟨{ e with key := kv k', val := v }, (hmem _).2 ⟨j, e, hj, by simp⟩, rfl, Option.some.inj hv⟩
      · rintro ⟨x, hx, h4, h5⟩
        obtain ⟨i, y, hy, rfl⟩ := (hmem x).1 hx
        by_cases hji : j = i
        · simp [hji] at h5
          exact congrArg some h5
        · exfalso
          simp only [hji, if_false] at h4
          have hnd := hs.2.2
          have hnd := List.pairwise_iff_getElem.1 hnd
          have hjl : j < es.toList.length := by simpa using (Array.getElem?_eq_some_iff.1 hj).1
          have hil : i < es.toList.length := by simpa using (Array.getElem?_eq_some_iff.1 hy).1
          have ej : es.toList[j] = e := by simpa using (Array.getElem?_eq_some_iff.1 hj).2
          have ei : es.toList[i] = y := by simpa using (Array.getElem?_eq_some_iff.1 hy).2
          rcases Nat.lt_or_gt_of_ne hji with hlt | hlt
          · exact hnd j i (by simpa using hjl) (by simpa using hil) hlt (by simp only [List.getElem_map, ej, ei, h3, h4])
          · exact hnd i j (by simpa using hil) (by simpa using hjl) hlt (by simp only [List.getElem_map, ej, ei, h3, h4])
    · rw [kput_other _ _ hkk', hf]
      constructor
      · rintro ⟨x, hx, h4, h5⟩
        obtain ⟨i, hi'⟩ := List.mem_iff_getElem?.1 hx
        have hji : j ≠ i := by
          rintro rfl
          rw [h2] at hi'
          cases hi'
          rw [h3] at h4
          exact hkk' (inj h4).symm
        exact ⟨x, (hmem x).2 ⟨i, x, by simpa using hi', by simp [hji]⟩, h4, h5⟩
      · rintro ⟨x, hx, h4, h5⟩
        obtain ⟨i, y, hy, rfl⟩ := (hmem x).1 hx
        by_cases hji : j = i
        · simp [hji] at h4
          exact absurd (inj h4).symm hkk'
        · simp only [hji, if_false] at h4 h5
          exact ⟨y, List.mem_of_getElem? (by simpa using hy), h4, h5⟩
theorem MapK.none_of {es : Array MapEntry} (hf : ∀ k v, f k = some v ↔ ∃ x ∈ es.toList, x.key = kv k ∧ x.val = v) {k : κ} (h2 : ∀ x ∈ es.toList, x.key ≠ kv k) : f k = none := by
  cases hfk : f k with
  | none => rfl
  | some v => obtain ⟨x, hx, h3, -⟩ := (hf k v).1 hfk; exact absurd h3 (h2 x hx)
theorem MapK.mod_set {es : Array MapEntry} {c : Nat} (hb : w.heap[b]? = some (.map es c)) (o : Obj) : Mod (fun r => r = b) w { w with heap := w.heap.setIfInBounds b o } :=
  ⟨rfl, rfl, rfl, by simp, fun r _ hne => (heap_set hb).2 r hne⟩
/-- m[k] with ok -/
theorem MapK.look_ok (h : MapK kv w b f n) (ht : P.underlying t = some (.map kt et)) (K : KeyK P kt kv) {z : Value} (hz : (zeroValue et).run P w = .ok z w) (k : κ) :
    (Instr.lookup t (.map (some b)) (kv k) true).run P w = .ok (.tuple #[(f k).getD z, .bool (f k).isSome]) w := by
  obtain ⟨es, c, hb, hs, -, hi, hf⟩ := h
  have hc := K.check w es.isEmpty k
  rcases K.find w k es.toList hi with ⟨hf', h2⟩ | ⟨j, e, hf', h2, h3⟩
  · have hn : f k = none := MapK.none_of hf h2
    simp [Instr.lookup, run_underlying ht, MapKept.run_getObj_map hb, Result.andThen]
    rw [hc]
    simp [hf', hz, hn]
  · have hn : f k = some e.val := (hf k e.val).2 ⟨e, List.mem_of_getElem? h2, h3, rfl⟩
    simp [Instr.lookup, run_underlying ht, MapKept.run_getObj_map hb, Result.andThen]
    rw [hc]
    simp [hf', hn]
theorem MapK.look (h : MapK kv w b f n) (ht : P.underlying t = some (.map kt et)) (K : KeyK P kt kv) {z : Value} (hz : (zeroValue et).run P w = .ok z w) (k : κ) :
    (Instr.lookup t (.map (some b)) (kv k) false).run P w = .ok ((f k).getD z) w := by
  obtain ⟨es, c, hb, hs, -, hi, hf⟩ := h
  have hc := K.check w es.isEmpty k
  rcases K.find w k es.toList hi with ⟨hf', h2⟩ | ⟨j, e, hf', h2, h3⟩
  · have hn : f k = none := MapK.none_of hf h2
    simp [Instr.lookup, run_underlying ht, MapKept.run_getObj_map hb, Result.andThen]
    rw [hc]
    simp [hf', hz, hn]
  · have hn : f k = some e.val := (hf k e.val).2 ⟨e, List.mem_of_getElem? h2, h3, rfl⟩
    simp [Instr.lookup, run_underlying ht, MapKept.run_getObj_map hb, Result.andThen]
    rw [hc]
    simp [hf', hn]
/-- m[k] = v -/
theorem MapK.update [DecidableEq κ] (h : MapK kv w b f n) (ht : P.underlying t = some (.map kt et)) (K : KeyK P kt kv) (k : κ) (v : Value) :
    ∃ w', (Instr.mapUpdate t (.map (some b)) (kv k) v).run P w = .ok () w' ∧ MapK kv w' b (kput f k v) (n + 1) ∧ ((f k).isSome → MapK kv w' b (kput f k v) n) ∧ Mod (fun r => r = b) w w' ∧ w'.heap.size = w.heap.size := by
  obtain ⟨es, c, hb, hs, hn, hi, hf⟩ := h
  have hc := K.check w false k
  rcases K.find w k es.toList hi with ⟨hf', h2⟩ | ⟨j, e, hf', h2, h3⟩
  · have hfk : f k = none := MapK.none_of hf h2
    refine ⟨_, ?_, MapK.pushed hb hs hn hi hf K.inj k v h2, fun hs => by simp [hfk] at hs, MapK.mod_set hb _, by simp⟩
    simp [Instr.mapUpdate, run_underlying ht, MapKept.run_getObj_map hb, hc, hf', MapKept.run_setObj_map _ hb, Result.andThen]
  · have hj : es[j]? = some e := by simpa using h2
    have hM := MapK.modified hb hs hn hi hf K.inj k v hj h3
    refine ⟨_, ?_, hM.mono (Nat.le_succ _), fun _ => hM, MapK.mod_set hb _, by simp⟩
    simp [Instr.mapUpdate, run_underlying ht, MapKept.run_getObj_map hb, hc, hf', hj, h3, K.stays, MapKept.run_setObj_map _ hb, Result.andThen]
/-- the entry of 'm[k]++': its value, and its stamp -/
theorem MapK.entry [DecidableEq κ] (h : MapK kv w b f n) (ht : P.underlying t = some (.map kt et)) (K : KeyK P kt kv) {z : Value} (hz : ∀ w, (zeroValue et).run P w = .ok z w) (k : κ) :
    ∃ (w' : World) (s : Nat), (Instr.mapEntry t (.map (some b)) (kv k)).run P w = .ok (.tuple #[(f k).getD z, goInt (s : Int)]) w' ∧ MapK kv w' b (kput f k ((f k).getD z)) (n + 1) ∧ ((f k).isSome → MapK kv w' b (kput f k ((f k).getD z)) n) ∧ BornAt kv w' b s k ∧ Mod (fun r => r = b) w w' ∧ w'.heap.size = w.heap.size := by
  obtain ⟨es, c, hb, hs, hn, hi, hf⟩ := h
  have hc := K.check w false k
  rcases K.find w k es.toList hi with ⟨hf', h2⟩ | ⟨j, e, hf', h2, h3⟩
  · have hfk : f k = none := MapK.none_of hf h2
    have hM := MapK.pushed hb hs hn hi hf K.inj k z h2
    refine ⟨_, c, ?_, by rw [hfk]; exact hM, fun hs => by simp [hfk] at hs, ⟨_, _, (heap_set hb).1, _, by simp; exact .inr rfl, rfl, rfl⟩, MapK.mod_set hb _, by simp⟩
    simp [Instr.mapEntry, run_underlying ht, MapKept.run_getObj_map hb, hc, hf', hz, hfk, MapKept.run_setObj_map _ hb, Result.andThen]
  · have hj : es[j]? = some e := by simpa using h2
    have hfk : f k = some e.val := (hf k e.val).2 ⟨e, List.mem_of_getElem? h2, h3, rfl⟩
    have hM := MapK.modified hb hs hn hi hf K.inj k e.val hj h3
    have he : es.modify j (fun e => { e with key := kv k }) = es.modify j (fun x => { x with key := kv k, val := e.val }) := by
      apply Array.ext_getElem?
      intro i
      rw [Array.getElem?_modify, Array.getElem?_modify]
      by_cases hji : j = i
      · subst hji
        simp [hj]
      · simp [hji]
    refine ⟨_, e.born, ?_, by rw [hfk]; exact hM.mono (Nat.le_succ _), fun _ => by rw [hfk]; exact hM, ⟨_, _, (heap_set hb).1, { e with key := kv k, val := e.val }, ?_, rfl, rfl⟩, MapK.mod_set hb _, by simp⟩
    · simp [Instr.mapEntry, run_underlying ht, MapKept.run_getObj_map hb, hc, hf', hj, h3, hfk, K.stays, MapKept.run_setObj_map _ hb, Result.andThen, he]
    · rw [List.mem_iff_getElem?]
      exact ⟨j, by simp [hj]⟩
/-- .. and its store -/
theorem MapK.store [DecidableEq κ] (h : MapK kv w b f n) (K : KeyK P kt kv) {s : Nat} {k : κ} (hb : BornAt kv w b s k) (v : Value) :
    ∃ w', (Instr.entryStore t (.map (some b)) (goInt (s : Int)) v).run P w = .ok () w' ∧ MapK kv w' b (kput f k v) n ∧ Mod (fun r => r = b) w w' ∧ w'.heap.size = w.heap.size := by
  obtain ⟨es, c, hbk, hs, hn, hi, hf⟩ := h
  obtain ⟨es', c', hb', x, hx, hxs, hxk⟩ := hb
  rw [hbk] at hb'
  simp only [Option.some.injEq, Obj.map.injEq] at hb'
  obtain ⟨rfl, rfl⟩ := hb'
  obtain ⟨i, hi'⟩ := List.mem_iff_getElem?.1 hx
  have hfi : ∃ j e, es.findIdx? (fun e => (e.born : Int) == (s : Int)) = some j ∧ es[j]? = some e ∧ e.born = s := by
    cases hq : es.findIdx? (fun e => (e.born : Int) == (s : Int)) with
    | none =>
      rw [Array.findIdx?_eq_none_iff] at hq
      have := hq x (by simpa using hx)
      simp [hxs] at this
    | some j =>
      rw [Array.findIdx?_eq_some_iff_getElem] at hq
      obtain ⟨hjl, h1, -⟩ := hq
      exact ⟨j, es[j], rfl, Array.getElem?_eq_getElem hjl, by simp at h1; omega⟩
  obtain ⟨j, e, hj1, hj, hes⟩ := hfi
  have hij : j = i := by
    have hnd := hs.2.1
    have hil : i < es.toList.length := (List.getElem?_eq_some_iff.1 hi').1
    have hjl : j < es.toList.length := by simpa using (Array.getElem?_eq_some_iff.1 hj).1
    have ei : es.toList[i] = x := (List.getElem?_eq_some_iff.1 hi').2
    have ej : es.toList[j] = e := by simpa using (Array.getElem?_eq_some_iff.1 hj).2
    have hp := List.pairwise_iff_getElem.1 hnd
    rcases Nat.lt_trichotomy j i with hlt | heq | hlt
    · exact (hp j i (by simpa using hjl) (by simpa using hil) hlt (by simp only [List.getElem_map, ei, ej, hes, hxs])).elim
    · exact heq
    · exact (hp i j (by simpa using hil) (by simpa using hjl) hlt (by simp only [List.getElem_map, ei, ej, hes, hxs])).elim
  subst hij
  have hex : e = x := by
    have h1 : es.toList[j]? = some e := by simpa using hj
    rw [h1] at hi'
    exact Option.some.inj hi'
  subst hex
  have hM := MapK.modified hbk hs hn hi hf K.inj k v hj hxk
  have he : es.modify j (fun e => { e with val := v }) = es.modify j (fun x => { x with key := kv k, val := v }) := by
    apply Array.ext_getElem?
    intro q
    rw [Array.getElem?_modify, Array.getElem?_modify]
    by_cases hjq : j = q
    · subst hjq
      simp [hj, hxk]
    · simp [hjq]
  refine ⟨_, ?_, hM, MapK.mod_set hbk _, by simp⟩
  simp [Instr.entryStore, MapKept.run_getObj_map hbk, goInt, asInt, asIntOf, hj1, MapKept.run_setObj_map _ hbk, Result.andThen, he]
end

section
variable {P : Program} {w : World} {b n : Nat} {f : κ → Option Value} {t kt et : TypeId} {ops : Array Oper} {rest : List Oper} {o : Oper} {a : Act} {Q : Exit → Act → World → Prop}
theorem wpList_lookK (w : World) (hg : o.guard = none) (m x : Operand) (t : TypeId) (hop : o.op = Op.lookup t m x false) (kt et : TypeId) (ht : P.underlying t = some (.map kt et)) (K : KeyK P kt kv) (z : Value)
    (hz : (zeroValue et).run P w = .ok z w) (b n : Nat) (f : κ → Option Value) (hm : a.eval m = .map (some b)) (h : MapK kv w b f n) (k : κ) (hx : a.eval x = kv k) (val : Value) (hv : (f k).getD z = val)
    (hK : wpList P ops Q rest (a.put o.dst val) w) : wpList P ops Q (o :: rest) a w := by
  refine wpList_plain hg fun K' hK' => ?_
  unfold Oper.wp
  simp [execOp, hop, hm, hx, h.look ht K hz k, Result.andThen]
  rw [hv]
  exact hK' _ _ hK
theorem wpList_lookKok (w : World) (hg : o.guard = none) (m x : Operand) (t : TypeId) (hop : o.op = Op.lookup t m x true) (kt et : TypeId) (ht : P.underlying t = some (.map kt et)) (K : KeyK P kt kv) (z : Value)
    (hz : (zeroValue et).run P w = .ok z w) (b n : Nat) (f : κ → Option Value) (hm : a.eval m = .map (some b)) (h : MapK kv w b f n) (k : κ) (hx : a.eval x = kv k) (val : Value) (ok : Bool) (hv : (f k).getD z = val ∧ (f k).isSome = ok)
    (hK : wpList P ops Q rest (a.put o.dst (.tuple #[val, .bool ok])) w) : wpList P ops Q (o :: rest) a w := by
  refine wpList_plain hg fun K' hK' => ?_
  unfold Oper.wp
  simp [execOp, hop, hm, hx, h.look_ok ht K hz k, Result.andThen]
  rw [hv.1, hv.2]
  exact hK' _ _ hK
theorem wpList_updK [DecidableEq κ] (w : World) (hg : o.guard = none) (m x v : Operand) (t : TypeId) (hop : o.op = Op.mapUpdate t m x v) (kt et : TypeId) (ht : P.underlying t = some (.map kt et)) (K : KeyK P kt kv)
    (b n : Nat) (f : κ → Option Value) (hm : a.eval m = .map (some b)) (h : MapK kv w b f n) (k : κ) (hx : a.eval x = kv k) (val : Value) (hv : a.eval v = val)
    (hK : ∀ w', MapK kv w' b (kput f k val) (n + 1) → ((f k).isSome → MapK kv w' b (kput f k val) n) → Mod (fun r => r = b) w w' → w'.heap.size = w.heap.size → wpList P ops Q rest (a.put o.dst undef) w') : wpList P ops Q (o :: rest) a w := by
  refine wpList_plain hg fun K' hK' => ?_
  obtain ⟨w', hrun, r1, r2, r3, r4⟩ := h.update ht K k val
  unfold Oper.wp
  simp [execOp, hop, hm, hx, hv, hrun, Result.andThen]
  exact hK' _ _ (hK w' r1 r2 r3 r4)
theorem wpList_entryK [DecidableEq κ] (w : World) (hg : o.guard = none) (m x : Operand) (t : TypeId) (hop : o.op = Op.mapEntry t m x) (kt et : TypeId) (ht : P.underlying t = some (.map kt et)) (K : KeyK P kt kv) (z : Value)
    (hz : ∀ w, (zeroValue et).run P w = .ok z w) (b n : Nat) (f : κ → Option Value) (hm : a.eval m = .map (some b)) (h : MapK kv w b f n) (k : κ) (hx : a.eval x = kv k) (val : Value) (hv : (f k).getD z = val)
    (hK : ∀ (w' : World) (s : Nat), MapK kv w' b (kput f k val) (n + 1) → ((f k).isSome → MapK kv w' b (kput f k val) n) → BornAt kv w' b s k → Mod (fun r => r = b) w w' → w'.heap.size = w.heap.size →
      wpList P ops Q rest (a.put o.dst (.tuple #[val, .int .i64 (s : Int)])) w') : wpList P ops Q (o :: rest) a w := by
  refine wpList_plain hg fun K' hK' => ?_
  obtain ⟨w', s, hrun, r1, r2, r3, r4, r5⟩ := h.entry ht K hz k
  unfold Oper.wp
  simp [execOp, hop, hm, hx, hrun, Result.andThen]
  subst hv
  exact hK' _ _ (hK w' s r1 r2 r3 r4 r5)
theorem wpList_storeK [DecidableEq κ] (w : World) (hg : o.guard = none) (m st x : Operand) (t : TypeId) (hop : o.op = Op.entryStore t m st x) (kt : TypeId) (K : KeyK P kt kv)
    (b n : Nat) (f : κ → Option Value) (hm : a.eval m = .map (some b)) (h : MapK kv w b f n) (k : κ) (s : Nat) (hs : a.eval st = .int .i64 (s : Int)) (hb : BornAt kv w b s k) (val : Value) (hx : a.eval x = val)
    (hK : ∀ (w' : World), MapK kv w' b (kput f k val) n → Mod (fun r => r = b) w w' → w'.heap.size = w.heap.size → wpList P ops Q rest (a.put o.dst undef) w') : wpList P ops Q (o :: rest) a w := by
  refine wpList_plain hg fun K' hK' => ?_
  obtain ⟨w', hrun, r1, r2, r3⟩ := h.store (t := t) K hb val
  unfold Oper.wp
  have hs' : a.eval st = goInt (s : Int) := hs
  simp [execOp, hop, hm, hs', hx, hrun, Result.andThen]
  exact hK' _ _ (hK w' r1 r2 r3)
end
/-- how often each was met -/
def cntK [DecidableEq κ] (M : List κ) : κ → Option Value := fun y => if M.count y = 0 then none else some (.int .i64 (M.count y : Int))
theorem cntK_getD [DecidableEq κ] (M : List κ) (k : κ) : (cntK M k).getD (.int .i64 0) = .int .i64 (M.count k : Int) := by
  unfold cntK
  by_cases h : M.count k = 0 <;> simp [h]
theorem cntK_some [DecidableEq κ] {M : List κ} {k : κ} (h : 0 < M.count k) : (cntK M k).isSome = true := by
  unfold cntK
  rw [if_neg (by omega)]
  rfl
theorem cntK_step [DecidableEq κ] (M : List κ) (k : κ) (v : Value) : kput (kput (cntK M) k v) k (.int .i64 ((M.count k : Int) + 1)) = cntK (M ++ [k]) := by
  rw [kput_twice]
  funext y
  by_cases h : y = k
  · subst h
    rw [kput_same]
    simp [cntK]
  · rw [kput_other _ _ h]
    simp [cntK, List.count_append, Ne.symm h]
end
end Go.Hg

namespace Go.Hg
open MapKept Go.Maps Go.WideElems
/-- what stands at a key is not looked at -/
def anyElem (v : Value) : Option (DataW Unit × List MemPlace) := some ((fun _ => .agg []) v, [])
theorem MapI.owns {w : World} {b n : Nat} {f : Int → Option Value} (h : MapI w b f n) {P : Program} {k : TypeId} (hk : P.underlying k = some (.int .i64)) (hn : n ≤ maxLen) (hw : ∀ x, f x ≠ none → (Lit.int .i64 x).wf = true) :
    ∃ D0 : DataW Unit, w.ownsMap P k anyElem b n D0 ∧ Maps.size D0 ≤ n ∧ ∀ ss : List Int, ss.Perm (intKeys D0) → ss.Nodup ∧ ∀ x, x ∈ ss ↔ f x ≠ none := by
  obtain ⟨es, c, hb, hs, hz, hi, hf⟩ := h
  have F : Fit P k anyElem es c := ⟨Nat.le_trans hz hn, hs, fun x hx => by
    obtain ⟨q, hq⟩ := hi x hx
    have hwq := hw q (by rw [(hf q x.val).2 ⟨x, hx, hq, rfl⟩]; simp)
    exact ⟨(.int .i64 q, .agg []), by
      unfold rd
      rw [hq, keyOf_int_mk hk hwq]
      rfl⟩⟩
  have hown : w.ownsMap P k anyElem b n (.map ((es.toList.map (rg P k anyElem)).foldr DataW.insert [])) := ⟨es, c, hb, F, hz, rfl⟩
  refine ⟨_, hown, hown.size_le, fun ss hp => ?_⟩
  let L : List Int := es.toList.map fun x => match x.key with | .int _ a => a | _ => 0
  have hL : ∀ x, x ∈ L ↔ f x ≠ none := by
    intro x
    constructor
    · intro hx
      obtain ⟨e, he, rfl⟩ := List.mem_map.1 hx
      obtain ⟨q, hq⟩ := hi e he
      rw [hq]
      rw [(hf q e.val).2 ⟨e, he, hq, rfl⟩]
      simp
    · intro hx
      cases hfx : f x with
      | none => exact absurd hfx hx
      | some v =>
        obtain ⟨e, he, hq, -⟩ := (hf x v).1 hfx
        exact List.mem_map.2 ⟨e, he, by rw [hq]⟩
  have hnd : L.Nodup := by
    have h3 := hs.2.2
    refine List.pairwise_map.2 ?_
    refine (List.pairwise_map.1 h3).imp_of_mem ?_
    intro a e ha he hne hx
    obtain ⟨q, hq⟩ := hi a ha
    obtain ⟨q', hq'⟩ := hi e he
    rw [hq, hq'] at hx
    simp only at hx
    exact hne (by rw [hq, hq', hx])
  have key : L.Perm (intKeys (.map ((es.toList.map (rg P k anyElem)).foldr DataW.insert []))) := by
    have hperm : ∀ l : List (Lit × DataW Unit), (l.foldr DataW.insert []).Perm l := by
      intro l
      induction l with
      | nil => exact List.Perm.nil
      | cons a t ih =>
        have hin : ∀ (x : Lit × DataW Unit) (m : List (Lit × DataW Unit)), (DataW.insert x m).Perm (x :: m) := by
          intro x m
          induction m with
          | nil => exact List.Perm.refl _
          | cons y r ihr =>
            unfold DataW.insert
            split
            · exact List.Perm.refl _
            · exact (ihr.cons y).trans (List.Perm.swap x y r)
        exact (hin a _).trans (ih.cons a)
    have h1 := ((hperm (es.toList.map (rg P k anyElem))).map fun p => intOf p.1).symm
    refine List.Perm.trans (List.Perm.of_eq ?_) h1
    rw [List.map_map]
    refine List.map_congr_left fun x hx => ?_
    obtain ⟨q, hq⟩ := hi x hx
    obtain ⟨y, hy⟩ := F.reads x hx
    have h2 := rd_key hy
    rw [hq, keyOf_int_mk hk (hw q (by rw [(hf q x.val).2 ⟨x, hx, hq, rfl⟩]; simp))] at h2
    simp only [Function.comp, rg_of hy, ← Option.some.inj h2, hq, intOf]
  have hpl := hp.trans key.symm
  exact ⟨hpl.nodup_iff.2 hnd, fun x => (hpl.mem_iff).trans (hL x)⟩
/-- sorted: it rises, and has the same numbers -/
theorem rset_sorted {ss : List Int} {p : Int → Prop} (hn : ss.Nodup) (hm : ∀ x, x ∈ ss ↔ p x) : RSet (ss.mergeSort fun x y => decide (x ≤ y)) p := by
  have hp := List.mergeSort_perm ss (fun x y => decide (x ≤ y))
  refine ⟨?_, fun y => hp.mem_iff.trans (hm y)⟩
  have h1 : (ss.mergeSort fun x y => decide (x ≤ y)).Pairwise fun a b => decide (a ≤ b) = true := List.pairwise_mergeSort (fun a b c h1 h2 => by simp only [decide_eq_true_eq] at *; omega) (fun a b => by simp only [Bool.or_eq_true, decide_eq_true_eq]; omega) ss
  have h2 : (ss.mergeSort fun x y => decide (x ≤ y)).Nodup := hp.nodup_iff.2 hn
  refine (h1.and h2).imp fun {a b} h => ?_
  have h3 := h.1
  have h4 := h.2
  simp only [decide_eq_true_eq] at h3
  omega
end Go.Hg

namespace Go.Hg
open MapKept Go.Maps Go.WideElems Go.WideShapes

def inI64 (x : Int) : Prop := (Lit.int .i64 x).wf = true
/-- counts -/
def Counts (f : Int → Option Value) : Prop := ∀ x v, f x = some v → inI64 x ∧ ∃ c, v = .int .i64 c ∧ inI64 c
/-- D is what f holds -/
def HoldsI (D : DataW Unit) (f : Int → Option Value) : Prop := (∀ x c, f x = some (.int .i64 c) → Maps.has D (.int .i64 x) = true ∧ ∀ zd, D.atKey (.int .i64 x) zd = .lit (.int .i64 c)) ∧ ∀ x, f x = none → inI64 x → Maps.has D (.int .i64 x) = false
section
variable {w : World} {b n : Nat} {f : Int → Option Value} {P : Program} {k e : TypeId}
theorem MapI.ownsV (h : MapI w b f n) (hk : P.underlying k = some (.int .i64)) (he : P.underlying e = some (.int .i64)) (hn : n ≤ maxLen) (hc : Counts f) :
    ∃ D : DataW Unit, w.ownsMap P k (plainElem P e) b n D ∧ HoldsI D f := by
  obtain ⟨es, c, hb, hs, hz, hi, hf⟩ := h
  have K : Keyed P k := int_keyed hk
  have hv : ∀ x ∈ es.toList, ∃ q c, x.key = .int .i64 q ∧ x.val = .int .i64 c ∧ inI64 q ∧ inI64 c := by
    intro x hx
    obtain ⟨q, hq⟩ := hi x hx
    obtain ⟨h1, c, h2, h3⟩ := hc q x.val ((hf q x.val).2 ⟨x, hx, hq, rfl⟩)
    exact ⟨q, c, hq, h2, h1, h3⟩
  have F : Fit P k (plainElem P e) es c (H := Unit) := ⟨Nat.le_trans hz hn, hs, fun x hx => by
    obtain ⟨q, d, h1, h2, h3, h4⟩ := hv x hx
    refine ⟨(.int .i64 q, .lit (.int .i64 d)), ?_⟩
    unfold rd
    rw [h1, keyOf_int_mk hk h3, h2]
    have h5 : (Lit.int .i64 d).wf = true := h4
    simp [plainElem, he, h5]⟩
  refine ⟨_, ⟨es, c, hb, F, hz, rfl⟩, ?_, ?_⟩
  · intro x d hx
    obtain ⟨en, hen, h1, h2⟩ := (hf x _).1 hx
    obtain ⟨h3, d', h4, h5⟩ := hc x _ hx
    have hkey : keyOf P k (.int .i64 x) = some (.int .i64 x) := keyOf_int_mk hk h3
    have hat := atKey_sorted (es.toList.map (rg P k (plainElem P e (H := Unit)))) (fit_rising K F) (.int .i64 x) (K.key hkey)
    obtain ⟨y, hy⟩ := F.reads en hen
    have hy1 := rd_key hy
    rw [h1, hkey] at hy1
    obtain ⟨z, hz1, hz2⟩ := rd_val hy
    obtain ⟨d2, h6, rfl, -⟩ := plainElem_int_inv he hz1
    rw [h2] at h6
    cases h6
    have h7 : ∀ zd, (DataW.map ((es.toList.map (rg P k (plainElem P e))).foldr DataW.insert [])).atKey (.int .i64 x) zd = .lit (.int .i64 d) := fun zd => by
      rw [hat.2 (rg P k (plainElem P e) en) (List.mem_map.2 ⟨en, hen, rfl⟩) (by rw [rg_of hy]; exact (Option.some.inj hy1).symm), rg_of hy, hz2]
    exact ⟨has_true_of_atKey h7, h7⟩
  · intro x hx h3
    have hkey : keyOf P k (.int .i64 x) = some (.int .i64 x) := keyOf_int_mk hk h3
    have hat := atKey_sorted (es.toList.map (rg P k (plainElem P e (H := Unit)))) (fit_rising K F) (.int .i64 x) (K.key hkey)
    refine has_false_of_atKey (hat.1 (fun p hp e1 => ?_))
    obtain ⟨en, hen, rfl⟩ := List.mem_map.1 hp
    obtain ⟨y, hy⟩ := F.reads en hen
    have m1 := rd_key hy
    rw [rg_of hy] at e1
    rw [e1] at m1
    have h4 := K.inj m1 hkey
    rw [(hf x en.val).2 ⟨en, hen, h4, rfl⟩] at hx
    cases hx
/-- what D holds, as a function -/
def viewI (D : DataW Unit) (x : Int) : Option Value := if Maps.has D (.int .i64 x) = true then (match D.atKey (.int .i64 x) .nil with | .lit (.int _ c) => some (.int .i64 c) | _ => none) else none
theorem ownsMap_toI {D : DataW Unit} (h : w.ownsMap P k (plainElem P e) b n D) (hk : P.underlying k = some (.int .i64)) (he : P.underlying e = some (.int .i64)) {g : Int → Option Value}
    (hg : ∀ x v, g x = some v → inI64 x ∧ ∃ c, v = .int .i64 c) (hD : ∀ x, inI64 x → viewI D x = g x) : MapI w b g n := by
  obtain ⟨es, c, hb, F, hz, rfl⟩ := h
  have K : Keyed P k := int_keyed hk
  have hv : ∀ x ∈ es.toList, ∃ q c, x.key = .int .i64 q ∧ x.val = .int .i64 c ∧ inI64 q ∧ rd P k (plainElem P e) x = some (.int .i64 q, (.lit (.int .i64 c) : DataW Unit)) := by
    intro x hx
    obtain ⟨y, hy⟩ := F.reads x hx
    obtain ⟨q, h1, h2, h3⟩ := keyOf_int_inv hk (rd_key hy)
    obtain ⟨z, hz1, hz2⟩ := rd_val hy
    obtain ⟨d, h4, rfl, -⟩ := plainElem_int_inv he hz1
    refine ⟨q, d, h1, h4, h3, ?_⟩
    rw [hy]
    exact congrArg some (Prod.ext h2 hz2)
  have hin : ∀ x ∈ es.toList, ∀ q c, x.key = .int .i64 q → x.val = .int .i64 c → viewI (DataW.map ((es.toList.map (rg P k (plainElem P e))).foldr DataW.insert [])) q = some (.int .i64 c) := by
    intro x hx q d h1 h2
    obtain ⟨q', d', g1, g2, g3, g4⟩ := hv x hx
    rw [h1] at g1
    cases g1
    rw [h2] at g2
    cases g2
    have hat := atKey_sorted (es.toList.map (rg P k (plainElem P e (H := Unit)))) (fit_rising K F) (.int .i64 q) (K.key (keyOf_int_mk hk g3))
    have h7 : ∀ zd, (DataW.map ((es.toList.map (rg P k (plainElem P e))).foldr DataW.insert [])).atKey (.int .i64 q) zd = .lit (.int .i64 d) := fun zd => by
      rw [hat.2 (rg P k (plainElem P e) x) (List.mem_map.2 ⟨x, hx, rfl⟩) (by rw [rg_of g4]), rg_of g4]
    unfold viewI
    rw [if_pos (has_true_of_atKey h7), h7]
  refine ⟨es, c, hb, F.stamped, hz, fun x hx => ?_, fun q v => ⟨fun hq => ?_, ?_⟩⟩
  · obtain ⟨q, d, h1, -⟩ := hv x hx
    exact ⟨q, h1⟩
  · obtain ⟨h1, d, rfl⟩ := hg q v hq
    by_cases hx : ∃ x ∈ es.toList, x.key = .int .i64 q
    · obtain ⟨x, hx, h2⟩ := hx
      obtain ⟨q', d', g1, g2, g3, g4⟩ := hv x hx
      rw [h2] at g1
      cases g1
      have h3 := hin x hx q d' h2 g2
      rw [hD q h1, hq] at h3
      cases h3
      exact ⟨x, hx, h2, g2⟩
    · exfalso
      have hkey : keyOf P k (.int .i64 q) = some (.int .i64 q) := keyOf_int_mk hk h1
      have hat := atKey_sorted (es.toList.map (rg P k (plainElem P e (H := Unit)))) (fit_rising K F) (.int .i64 q) (K.key hkey)
      have h4 := has_false_of_atKey (hat.1 (fun p hp e1 => by
        obtain ⟨en, hen, rfl⟩ := List.mem_map.1 hp
        obtain ⟨y, hy⟩ := F.reads en hen
        have m1 := rd_key hy
        rw [rg_of hy] at e1
        rw [e1] at m1
        exact hx ⟨en, hen, K.inj m1 hkey⟩))
      have h5 := hD q h1
      unfold viewI at h5
      rw [h4, hq] at h5
      simp at h5
  · rintro ⟨x, hx, h1, rfl⟩
    obtain ⟨q', d', g1, g2, g3, g4⟩ := hv x hx
    rw [h1] at g1
    cases g1
    rw [← hD q g3, g2]
    exact hin x hx q d' h1 g2
end
end Go.Hg

namespace Go.Hg

/-- what breaks a rule that has a form -/
def BrkR (nodes : List PNode) (edges : List PEdge) (r : PRule) (l : List Int) : Prop :=
  if r.kind = 1 then l = (nodes.filter (doubR nodes r)).map (·.id)
  else if r.kind = 2 then l = (nodes.filter (lacksR r)).map (·.id)
  else if r.kind = 3 then l = (edges.filter (wrongR nodes r)).map (·.id)
  else RSet l fun x => r.n < (outR edges r x : Int)
def BrokenR (nodes : List PNode) (edges : List PEdge) (r : PRule) (l : List Int) : Prop := (formR r = false → l = []) ∧ (formR r = true → BrkR nodes edges r l)
theorem BrokenR.uniq {nodes : List PNode} {edges : List PEdge} {r : PRule} {l l' : List Int} (h : BrokenR nodes edges r l) (h' : BrokenR nodes edges r l') : l = l' := by
  cases hf : formR r with
  | false => rw [h.1 hf, h'.1 hf]
  | true =>
    have h1 := h.2 hf
    have h2 := h'.2 hf
    unfold BrkR at h1 h2
    by_cases k1 : r.kind = 1
    · rw [if_pos k1] at h1 h2; rw [h1, h2]
    · rw [if_neg k1] at h1 h2
      by_cases k2 : r.kind = 2
      · rw [if_pos k2] at h1 h2; rw [h1, h2]
      · rw [if_neg k2] at h1 h2
        by_cases k3 : r.kind = 3
        · rw [if_pos k3] at h1 h2; rw [h1, h2]
        · rw [if_neg k3] at h1 h2
          exact h1.uniq h2 fun _ => Iff.rfl
theorem formR_most {r : PRule} (h : formR r = true) (k1 : r.kind ≠ 1) (k2 : r.kind ≠ 2) (k3 : r.kind ≠ 3) : 0 ≤ r.n := by
  have k4 : r.kind = 4 := by rcases formR_kind h with h | h | h | h <;> first | exact h | contradiction
  unfold formR at h
  rw [Bool.and_eq_true, if_neg (by rintro (h | h) <;> contradiction), if_neg k3, if_pos k4] at h
  simp only [Bool.and_eq_true, decide_eq_true_eq] at h
  exact h.2.2.2.2.1
theorem outR_pos {edges : List PEdge} {r : PRule} {x : Int} (h : 0 < outR edges r x) : ∃ e ∈ edges, e.typ = r.typ ∧ e.from_ = x := by
  unfold outR at h
  obtain ⟨e, he⟩ := List.exists_mem_of_length_pos h
  have h1 := List.mem_filter.1 he
  simp only [Bool.and_eq_true, decide_eq_true_eq] at h1
  exact ⟨e, h1.1, h1.2⟩
/-- kept just where nothing breaks it -/
theorem BrokenR.nil_iff {nodes : List PNode} {edges : List PEdge} {r : PRule} {l : List Int} (h : BrokenR nodes edges r l) (hf : formR r = true) : keepR nodes edges r = decide (l = []) := by
  have h1 := h.2 hf
  unfold keepR holdR
  rw [hf, Bool.true_and]
  unfold BrkR at h1
  by_cases k1 : r.kind = 1
  · rw [if_pos k1] at h1 ⊢
    rw [uniqR_iff, h1, Bool.eq_iff_iff]
    simp [List.filter_eq_nil_iff]
  · rw [if_neg k1] at h1 ⊢
    by_cases k2 : r.kind = 2
    · rw [if_pos k2] at h1 ⊢
      rw [h1, Bool.eq_iff_iff]
      simp [List.filter_eq_nil_iff]
    · rw [if_neg k2] at h1 ⊢
      by_cases k3 : r.kind = 3
      · rw [if_pos k3] at h1 ⊢
        rw [h1, Bool.eq_iff_iff]
        simp [List.filter_eq_nil_iff]
      · rw [if_neg k3] at h1 ⊢
        have hn := formR_most hf k1 k2 k3
        rw [Bool.eq_iff_iff, decide_eq_true_eq]
        unfold mostR
        rw [List.all_eq_true]
        constructor
        · intro hall
          rw [List.eq_nil_iff_forall_not_mem]
          intro x hx
          have h2 := (h1.2 x).1 hx
          obtain ⟨e, he, ht, rfl⟩ := outR_pos (edges := edges) (r := r) (x := x) (by omega)
          have h3 := hall e he
          simp [ht] at h3
          omega
        · rintro rfl e he
          by_cases ht : e.typ = r.typ
          · have h3 : ¬ r.n < (outR edges r e.from_ : Int) := fun hc => absurd ((h1.2 e.from_).2 hc) (by simp)
            simp [ht]
            omega
          · simp [ht]

/-- without what breaks it -/
def withoutR (nodes : List PNode) (edges : List PEdge) (r : PRule) (l : List Int) : List PNode × List PEdge :=
  if r.kind = 3 then (nodes, edges.filter fun e => !decide (e.id ∈ l))
  else (nodes.filter fun x => !decide (x.id ∈ l), edges.filter fun e => !decide (e.from_ ∈ l) && !decide (e.to_ ∈ l))
theorem count_sub {α : Type} [DecidableEq α] {l l' : List α} (h : l.Sublist l') (v : α) : l.count v ≤ l'.count v := h.count_le v
theorem outR_sub {l l' : List PEdge} (h : l.Sublist l') (r : PRule) (x : Int) : outR l r x ≤ outR l' r x := (h.filter _).length_le
theorem doubR_sub {l l' : List PNode} (h : l.Sublist l') (r : PRule) {x : PNode} (hd : doubR l r x = true) : doubR l' r x = true := by
  unfold doubR at hd ⊢
  cases hv : valR r x with
  | none => rw [hv] at hd; cases hd
  | some v =>
    rw [hv] at hd
    simp only [decide_eq_true_eq] at hd ⊢
    have := count_sub (h.filterMap (valR r)) v
    omega
theorem BrokenR.without {nodes : List PNode} {edges : List PEdge} {r : PRule} {l : List Int} (h : BrokenR nodes edges r l) (hf : formR r = true) : BrokenR (withoutR nodes edges r l).1 (withoutR nodes edges r l).2 r [] := by
  refine ⟨fun _ => rfl, fun _ => ?_⟩
  have h1 := h.2 hf
  unfold BrkR at h1 ⊢
  unfold withoutR
  by_cases k1 : r.kind = 1
  · rw [if_pos k1] at h1 ⊢
    rw [if_neg (by omega)]
    symm
    rw [List.map_eq_nil_iff, List.filter_eq_nil_iff]
    intro x hx hd
    obtain ⟨hx1, hx2⟩ := List.mem_filter.1 hx
    have h2 := doubR_sub (l' := nodes) List.filter_sublist r hd
    simp only [Bool.not_eq_true', decide_eq_false_iff_not] at hx2
    exact hx2 (by rw [h1]; exact List.mem_map.2 ⟨x, List.mem_filter.2 ⟨hx1, h2⟩, rfl⟩)
  · rw [if_neg k1] at h1 ⊢
    by_cases k2 : r.kind = 2
    · rw [if_pos k2] at h1 ⊢
      rw [if_neg (by omega)]
      symm
      rw [List.map_eq_nil_iff, List.filter_eq_nil_iff]
      intro x hx hd
      obtain ⟨hx1, hx2⟩ := List.mem_filter.1 hx
      simp only [Bool.not_eq_true', decide_eq_false_iff_not] at hx2
      exact hx2 (by rw [h1]; exact List.mem_map.2 ⟨x, List.mem_filter.2 ⟨hx1, hd⟩, rfl⟩)
    · rw [if_neg k2] at h1 ⊢
      by_cases k3 : r.kind = 3
      · rw [if_pos k3] at h1 ⊢
        rw [if_pos k3]
        symm
        rw [List.map_eq_nil_iff, List.filter_eq_nil_iff]
        intro x hx hd
        obtain ⟨hx1, hx2⟩ := List.mem_filter.1 hx
        simp only [Bool.not_eq_true', decide_eq_false_iff_not] at hx2
        exact hx2 (by rw [h1]; exact List.mem_map.2 ⟨x, List.mem_filter.2 ⟨hx1, hd⟩, rfl⟩)
      · rw [if_neg k3] at h1 ⊢
        rw [if_neg k3]
        have hn := formR_most hf k1 k2 k3
        refine RSet.nil fun y hy => ?_
        obtain ⟨e, he, -, rfl⟩ := outR_pos (x := y) (r := r) (edges := edges.filter fun e => !decide (e.from_ ∈ l) && !decide (e.to_ ∈ l)) (by simp only at hy; omega)
        have h2 := outR_sub (l' := edges) (List.filter_sublist (p := fun e => !decide (e.from_ ∈ l) && !decide (e.to_ ∈ l))) r e.from_
        have h3 : e.from_ ∈ l := (h1.2 e.from_).2 (by simp only at hy; omega)
        obtain ⟨-, he2⟩ := List.mem_filter.1 he
        simp [h3] at he2
/-- the broken ones are there -/
theorem BrokenR.there {nodes : List PNode} {edges : List PEdge} {r : PRule} {l : List Int} (h : BrokenR nodes edges r l) (hf : formR r = true) (hends : ∀ e ∈ edges, ∃ x ∈ nodes, x.id = e.from_) (x : Int) (hx : x ∈ l) :
    if r.kind = 3 then ∃ e ∈ edges, e.id = x else ∃ n ∈ nodes, n.id = x := by
  have h1 := h.2 hf
  unfold BrkR at h1
  by_cases k1 : r.kind = 1
  · rw [if_pos k1] at h1
    rw [if_neg (by omega)]
    rw [h1] at hx
    obtain ⟨n, hn, rfl⟩ := List.mem_map.1 hx
    exact ⟨n, (List.mem_filter.1 hn).1, rfl⟩
  · rw [if_neg k1] at h1
    by_cases k2 : r.kind = 2
    · rw [if_pos k2] at h1
      rw [if_neg (by omega)]
      rw [h1] at hx
      obtain ⟨n, hn, rfl⟩ := List.mem_map.1 hx
      exact ⟨n, (List.mem_filter.1 hn).1, rfl⟩
    · rw [if_neg k2] at h1
      by_cases k3 : r.kind = 3
      · rw [if_pos k3] at h1 ⊢
        rw [h1] at hx
        obtain ⟨n, hn, rfl⟩ := List.mem_map.1 hx
        exact ⟨n, (List.mem_filter.1 hn).1, rfl⟩
      · rw [if_neg k3] at h1 ⊢
        have hn := formR_most hf k1 k2 k3
        have h2 := (h1.2 x).1 hx
        obtain ⟨e, he, -, rfl⟩ := outR_pos (edges := edges) (r := r) (x := x) (by omega)
        exact hends e he
theorem BrokenR.nodup {nodes : List PNode} {edges : List PEdge} {r : PRule} {l : List Int} (h : BrokenR nodes edges r l) (hn : (nodes.map (·.id)).Pairwise (· < ·)) (he : (edges.map (·.id)).Pairwise (· < ·)) : l.Pairwise (· < ·) := by
  cases hf : formR r with
  | false => rw [h.1 hf]; exact .nil
  | true =>
    have h1 := h.2 hf
    unfold BrkR at h1
    by_cases k1 : r.kind = 1
    · rw [if_pos k1] at h1; rw [h1]; exact hn.sublist (map_sub _ _ _)
    · rw [if_neg k1] at h1
      by_cases k2 : r.kind = 2
      · rw [if_pos k2] at h1; rw [h1]; exact hn.sublist (map_sub _ _ _)
      · rw [if_neg k2] at h1
        by_cases k3 : r.kind = 3
        · rw [if_pos k3] at h1; rw [h1]; exact he.sublist (map_sub _ _ _)
        · rw [if_neg k3] at h1; exact h1.1
end Go.Hg

namespace Go.Hg
open Go.RowKit Go.Proofs MapKept Go.Maps

/-- whence the edges of the rule's type go out -/
def fromsR (r : PRule) (l : List PEdge) : List Int := (l.filter fun e => decide (e.typ = r.typ)).map (·.from_)
theorem count_froms (r : PRule) (l : List PEdge) (x : Int) : (fromsR r l).count x = outR l r x := by
  unfold fromsR outR
  rw [List.count, List.countP_map, List.countP_filter, List.countP_eq_length_filter]
  congr 1
  refine List.filter_congr fun e _ => ?_
  simp only [Function.comp]
  by_cases h1 : e.typ = r.typ <;> by_cases h2 : e.from_ = x <;> simp [h1, h2]
theorem fromsR_snoc (r : PRule) (l : List PEdge) (e : PEdge) : fromsR r (l ++ [e]) = if decide (e.typ = r.typ) = true then fromsR r l ++ [e.from_] else fromsR r l := by
  unfold fromsR
  rw [List.filter_append]
  by_cases h : e.typ = r.typ <;> simp [h]
theorem fromsR_len (r : PRule) (l : List PEdge) : (fromsR r l).length ≤ l.length := by
  unfold fromsR
  rw [List.length_map]
  exact List.length_filter_le _ _
theorem mem_fromsR {r : PRule} {l : List PEdge} {x : Int} : x ∈ fromsR r l ↔ 0 < outR l r x := by
  rw [← count_froms, List.count_pos_iff]
theorem mostR_out {edges : List PEdge} {r : PRule} : mostR edges r = true ↔ ∀ x, 0 < outR edges r x → (outR edges r x : Int) ≤ r.n := by
  unfold mostR
  rw [List.all_eq_true]
  constructor
  · intro h x hx
    obtain ⟨e, he, ht, rfl⟩ := outR_pos hx
    have := h e he
    simpa [ht] using this
  · intro h e he
    by_cases ht : e.typ = r.typ
    · have hp : 0 < outR edges r e.from_ := by
        unfold outR
        exact List.length_pos_of_mem (List.mem_filter.2 ⟨he, by simp [ht]⟩)
      simpa [ht] using h e.from_ hp
    · simp [ht]
theorem cntK_wf {M : List Int} (hM : ∀ x ∈ M, (Lit.int .i64 x).wf = true) (hl : (M.length : Int) ≤ 9223372036854775807) : Counts (cntK M) := by
  intro x v hv
  unfold cntK at hv
  by_cases h : M.count x = 0
  · rw [if_pos h] at hv; cases hv
  · rw [if_neg h] at hv
    cases hv
    have hx : x ∈ M := List.count_pos_iff.1 (by omega)
    have hc := List.count_le_length (a := x) (l := M)
    refine ⟨hM x hx, _, rfl, ?_⟩
    show (Lit.int .i64 _).wf = true
    simp only [Lit.wf, Bool.and_eq_true, decide_eq_true_eq]
    exact ⟨by show (-9223372036854775808 : Int) ≤ _; omega, by show _ ≤ (9223372036854775807 : Int); omega⟩
theorem cntK_step1 (M : List Int) (k : Int) : kput (cntK M) k (.int .i64 ((M.count k : Int) + 1)) = cntK (M ++ [k]) := by
  rw [← cntK_step M k (.bool true), kput_twice]
theorem holds_at {D : DataW Unit} {f : Int → Option Value} (h : HoldsI D f) {x c : Int} (hx : inI64 x) (hf : ∀ v, f x = some v → ∃ c, v = .int .i64 c) (hat : ∀ zd, D.atKey (.int .i64 x) zd = .lit (.int .i64 c)) : f x = some (.int .i64 c) := by
  cases hfx : f x with
  | none =>
    have h1 := h.2 x hfx hx
    rw [has_true_of_atKey hat] at h1
    cases h1
  | some v =>
    obtain ⟨c', rfl⟩ := hf v hfx
    have h1 := (h.1 x c' hfx).2 .nil
    rw [hat .nil] at h1
    cases h1
    rfl
theorem mod_grown {w w' : World} {b : Nat} (h : w.grownBy w' (some b)) : Mod (fun r => r = b) w w' := ⟨h.os, h.tape, h.output, h.size, fun i hi hne => h.block i hi (fun hc => hne (by simpa using hc))⟩
theorem grow_grown {w w' : World} (h : w.grownBy w' none) : Grow w w' := ⟨h.os, h.tape, h.output, h.size, fun i hi => h.block i hi (by simp)⟩
theorem zeroIntV (w : World) : (zeroValue 3).run Tryz.prog w = .ok (.int .i64 0) w := by kernel_rfl

set_option maxRecDepth 100000 in
set_option maxHeartbeats 1000000 in
/-- rule 'most' -/
theorem keepsMost (edges : List PEdge) (ev : Value) (eb rb fb : Nat) (r : PRule) (w : World) (S : Nat → Prop) (he : EdgesR S w ev edges) (h64 : ∀ e ∈ edges, (Lit.int .i64 e.from_).wf = true) (heb : OneBox w eb ev) (hr : RuleBox w rb r) (hf : OneBox w fb (ofV rb)) :
    Calls Tryz.prog 70 #[.pointer (some ⟨eb, 0, none⟩), .pointer (some ⟨fb, 0, none⟩), .pointer (some ⟨rb, 0, none⟩)] w fun e w' => e = .returned (.bool (mostR edges r)) ∧ Grow w w' := by
  have HR := Lib.hid hr; have HF := Lib.hid hf; have H64 := Lib.hid h64
  obtain ⟨hel, d0⟩ := heb.cell
  obtain ⟨aa, ca, rfl, hal, hac, hA⟩ := SlR.open he
  have hac' := hac
  unfold maxLen at hac
  have HA := Lib.hid hA
  have HG := Lib.hid (show ∀ o1, Grow w (w.alloc o1) from fun o1 => (Grow.rfl' w).allocd o1)
  have HM0 := Lib.hid (show MapK (fun k : Int => .int .i64 k) (w.alloc (.map #[] 0)) w.heap.size (cntK ([] : List Int)) 0 from MapK.made w)
  have entersOf := entersOf
  clear he heb hr hf hA h64
  have hmm := @run_makeMap Tryz.prog
  go_enter Tryz.func70, Tryz.ntmps70
  go_wp2
  clear hmm
  go_loopg [12] edges.length (fun g i wr => ∃ k : Nat, k ≤ edges.length ∧ g = edges.length - k ∧ i = .int .i64 k ∧ MapK (fun k : Int => .int .i64 k) wr w.heap.size (cntK (fromsR r (edges.take k))) k ∧ Grow w wr)
  case atStart => exact ⟨0, by omega, by omega, rfl, HM0.out, HG.out _⟩
  case round =>
    obtain ⟨k, hk, rfl, rfl, hm, hgr⟩ := hrel
    have HM := Lib.hid hm; have HGR := Lib.hid hgr
    have hml := hm.lt
    clear hm
    by_cases hkl : k < edges.length
    · obtain ⟨ba, oa, ra, rfl, hSa, hba, hRa, hca⟩ := HA.out k edges[k] (List.getElem?_eq_getElem hkl)
      obtain ⟨pva, hba', a0, a1, a2, a3, a4, hpa⟩ := hRa.at hba hgr hca
      clear hca hRa hSa hba
      have HT := Lib.hid (show edges.take (k + 1) = edges.take k ++ [edges[k]] from List.take_succ_eq_append_getElem hkl)
      generalize edges[k] = x at *
      obtain ⟨_, _, rfl⟩ := hpa.isSlice
      clear hpa
      obtain ⟨hfl, d1⟩ := (HF.out.grow hgr).cell
      have HW := Lib.hid (show ∀ o1, Grow wr (wr.alloc o1) from fun o1 => (Grow.rfl' wr).allocd o1)
      have HG2 := Lib.hid (show ∀ o1, Grow w (wr.alloc o1) from fun o1 => HGR.out.allocd o1)
      obtain ⟨bt, hbt⟩ : ∃ b, decide (x.typ = r.typ) = b := ⟨_, rfl⟩
      have HBT := Lib.hid hbt
      have HFS := Lib.hid (fromsR_snoc r (edges.take k) x)
      clear hbt hgr
      cases bt
      · go_wp2_with fail
        refine (keepsOf (HR.out.grow (HG2.out _)) HBT.out).mono ?_
        rintro e w3 ⟨rfl, rfl⟩
        go_wp2
        go_roundg (edges.length - (k + 1))
        case measure => omega
        case rel =>
          refine ⟨k + 1, by omega, rfl, by go_num, ?_, HG2.out _⟩
          rw [HT.out, HFS.out, HBT.out, if_neg (by simp)]
          exact (HM.out.grow (HW.out _)).mono (by omega)
      · have HCV := Lib.hid (cntK_getD (fromsR r (edges.take k)) x.from_)
        have HST := Lib.hid (cntK_step1 (fromsR r (edges.take k)) x.from_)
        have hcl : ((fromsR r (edges.take k)).count x.from_ : Int) ≤ k := by
          have h1 := List.count_le_length (a := x.from_) (l := fromsR r (edges.take k))
          have h2 := fromsR_len r (edges.take k)
          rw [List.length_take] at h2
          omega
        have hwr : IntKind.i64.wrap (((fromsR r (edges.take k)).count x.from_ : Int) + 1) = ((fromsR r (edges.take k)).count x.from_ : Int) + 1 := by rw [IntKind.wrap_i64]; omega
        have HCL := Lib.hid hcl
        generalize (fromsR r (edges.take k)).count x.from_ = c at *
        go_wp2_with fail
        refine (keepsOf (HR.out.grow (HG2.out _)) HBT.out).mono ?_
        rintro e w3 ⟨rfl, rfl⟩
        go_wp2_with (first
          | (at_lookup; go_must (refine wpList_lookK _ rfl (.tmp 20) (.tmp 22) 101 rfl 2 3 Tryz.underlying101 (keyK_int Tryz.underlying2) (.int .i64 0) (zeroIntV _) _ _ _ rfl (HM.out.grow (HW.out _)) x.from_ rfl _ HCV.out ?_))
          | (at_mapUpdate; go_must (refine wpList_updK _ rfl (.tmp 20) (.tmp 22) (.tmp 24) 101 rfl 2 3 Tryz.underlying101 (keyK_int Tryz.underlying2) _ _ _ rfl (HM.out.grow (HW.out _)) x.from_ rfl (.int .i64 ((c : Int) + 1)) (by rfl) ?_; intro w4 g1 g2 g3 g4)))
        rw [HST.out] at g1
        go_roundg (edges.length - (k + 1))
        case measure => omega
        case rel =>
          refine ⟨k + 1, by omega, rfl, by go_num, ?_, (HG2.out _).modd g3 (fun q hq => by rw [hq]; exact Nat.le_refl _)⟩
          rw [HT.out, HFS.out, HBT.out, if_pos rfl]
          exact g1
    · have hkk : edges.take k = edges := List.take_of_length_le (by omega)
      rw [hkk] at HM
      clear hkk
      have hfl := fromsR_len r edges
      have hCN : Counts (cntK (fromsR r edges)) := cntK_wf (fun x hx => by
        obtain ⟨e, he, rfl⟩ := List.mem_map.1 hx
        exact H64.out e (List.mem_filter.1 he).1) (by omega)
      obtain ⟨D, hown, hH⟩ := MapI.ownsV (MapK.toI HM.out) (e := 3) Tryz.underlying2 Tryz.underlying3 (by unfold maxLen; omega) hCN
      have HH := Lib.hid hH; have HCN := Lib.hid hCN
      have HD0 := Lib.hid (show ∀ x : Int, 0 < outR edges r x → Maps.has D (.int .i64 x) = true from fun x hx => by
        rw [← count_froms] at hx
        refine (HH.out.1 x (List.count x (fromsR r edges)) ?_).1
        unfold cntK
        rw [if_neg (by omega)])
      clear hH hCN hfl
      go_wp2_with (first
        | (at_range; refine wpList_range_own _ rfl _ 101 rfl 2 3 (int_keyed Tryz.underlying2) Tryz.underlying101 _ _ _ D rfl hown ?_; intro w0 hrg0 hg0 hs0)
        | go_in)
      go_frame
      obtain ⟨wq, rfl⟩ : ∃ wq : World, wq = wr := ⟨_, rfl⟩
      have HQ := Lib.hid hgr
      have hgq := hgr.step (grow_grown hg0)
      go_loopg [8] (Maps.size D) (fun g vn wr => ∃ (left : Lit → Bool), wr.ranges Tryz.prog 2 (plainElem Tryz.prog 3) w.heap.size wq.heap.size k D left g ∧ Grow w wr ∧ wq.heap.size < wr.heap.size ∧ ∀ x : Int, 0 < outR edges r x → left (.int .i64 x) = false → (outR edges r x : Int) ≤ r.n)
      case atStart => exact ⟨_, hrg0, hgq, by omega, fun x hx hl => by rw [HD0.out x hx] at hl; cases hl⟩
      case round =>
        obtain ⟨left, hrg, hgw, hql, hleft⟩ := hrel
        have HLEFT := Lib.hid hleft; have HGW := Lib.hid hgw
        have hbl := hrg.owns.lt
        obtain ⟨hrl, c1, c2, c3, c4, c5, c6, c7, c0⟩ := (HR.out.grow hgw).cells
        clear hleft hgw c1 c2 c3 c4 c5 c7 c0
        go_wp2_with (first
          | (at_next; refine wpList_next_ranges_ii _ rfl _ rfl 2 3 .i64 .i64 (int_keyed Tryz.underlying2) Tryz.underlying2 Tryz.underlying3 _ _ _ _ _ _ rfl hrg ?_ ?_)
          | go_in)
        · intro _ hl0
          have HX := Lib.hid (show mostR edges r = true from mostR_out.2 fun x hx => HLEFT.out x hx (hl0 _))
          go_wp2
          go_ret
          exact ⟨by rw [HX.out]; rfl, HGW.out⟩
        · intro x c w1 cnt1 hwx hwc hlx hat hrg1 hlt hg1 hs1 hen
          have hfx := holds_at HH.out hwx (fun v hv => by obtain ⟨-, c, h, -⟩ := HCN.out x v hv; exact ⟨c, h⟩) hat
          have hcx : (outR edges r x : Int) = c ∧ 0 < outR edges r x := by
            unfold cntK at hfx
            by_cases h : (fromsR r edges).count x = 0
            · rw [if_pos h] at hfx; cases hfx
            · rw [if_neg h] at hfx
              rw [count_froms] at hfx h
              simp only [Option.some.injEq, Value.int.injEq, true_and] at hfx
              exact ⟨hfx, by omega⟩
          have HCX := Lib.hid hcx
          have HW1 := Lib.hid (HGW.out.modd (mod_grown hg1) (fun q hq => by rw [hq]; omega))
          have c61 : w1.cell? ⟨rb, 6, none⟩ = some (.int .i64 r.n) := (hg1.cell c6 (by have h1 := HR.out.cells.1; have h2 := HQ.out.size; simp; omega))
          clear hcx hfx hat
          by_cases hgt : r.n < c
          · have HX := Lib.hid (show mostR edges r = false by
              cases hm : mostR edges r with
              | false => rfl
              | true => have := mostR_out.1 hm x HCX.out.2; have := HCX.out.1; omega)
            go_wp2
            go_ret
            exact ⟨by rw [HX.out]; rfl, HW1.out⟩
          · go_wp2
            go_roundg cnt1
            case measure => exact hlt
            case rel =>
              refine ⟨_, hrg1, HW1.out, by omega, fun y hy hl => ?_⟩
              by_cases hyx : y = x
              · subst hyx
                have := HCX.out.1
                omega
              · refine HLEFT.out y hy ?_
                simpa [Lit.sameKey, hyx] using hl
end Go.Hg

namespace Go.Hg
open MapKept
section
variable {κ : Type} {kv : κ → Value} {P : Program} {w : World} {b n : Nat} {f : κ → Option Value} {t kt et : TypeId} {ops : Array Oper} {o : Oper} {a : Act} {KK : Act → World → Prop} {Q : Exit → Act → World → Prop} {E : Prop}
theorem step_lookK (hg : o.guard = none) (m x : Operand) (t : TypeId) (hop : o.op = Op.lookup t m x false) (kt et : TypeId) (ht : P.underlying t = some (.map kt et)) (K : KeyK P kt kv) (z : Value) (hz : (zeroValue et).run P w = .ok z w) (hm : a.eval m = .map (some b)) (h : MapK kv w b f n) (k : κ) (hx : a.eval x = kv k) (val : Value) (hv : (f k).getD z = val)
    (hK : KK (a.put o.dst val) w) : if Region.wanted o (yielded ops a.tmps) = true then Oper.wp P o a w KK Q else E := by
  have hw : Region.wanted o (yielded ops a.tmps) = true := by simp [Region.wanted, hg]
  rw [if_pos hw]
  unfold Oper.wp
  simp [execOp, hop, hm, hx, h.look ht K hz k, Result.andThen, hv]
  exact hK
theorem step_entryK [DecidableEq κ] (hg : o.guard = none) (m x : Operand) (t : TypeId) (hop : o.op = Op.mapEntry t m x) (kt et : TypeId) (ht : P.underlying t = some (.map kt et)) (K : KeyK P kt kv) (z : Value) (hz : ∀ w, (zeroValue et).run P w = .ok z w) (hm : a.eval m = .map (some b)) (h : MapK kv w b f n) (k : κ) (hx : a.eval x = kv k) (val : Value) (hv : (f k).getD z = val)
    (hK : ∀ (w' : World) (s : Nat), MapK kv w' b (kput f k val) (n + 1) → BornAt kv w' b s k → Mod (fun r => r = b) w w' → w'.heap.size = w.heap.size → KK (a.put o.dst (.tuple #[val, .int .i64 (s : Int)])) w') : if Region.wanted o (yielded ops a.tmps) = true then Oper.wp P o a w KK Q else E := by
  have hw : Region.wanted o (yielded ops a.tmps) = true := by simp [Region.wanted, hg]
  rw [if_pos hw]
  obtain ⟨w', s, hrun, r1, -, r3, r4, r5⟩ := h.entry ht K hz k
  subst hv
  unfold Oper.wp
  simp [execOp, hop, hm, hx, hrun, Result.andThen]
  exact hK w' s r1 r3 r4 r5
theorem step_storeK [DecidableEq κ] (hg : o.guard = none) (m st x : Operand) (t : TypeId) (hop : o.op = Op.entryStore t m st x) (kt : TypeId) (K : KeyK P kt kv) (hm : a.eval m = .map (some b)) (h : MapK kv w b f n) (k : κ) (s : Nat) (hs : a.eval st = .int .i64 (s : Int)) (hb : BornAt kv w b s k) (val : Value) (hx : a.eval x = val)
    (hK : ∀ (w' : World), MapK kv w' b (kput f k val) n → Mod (fun r => r = b) w w' → w'.heap.size = w.heap.size → KK (a.put o.dst undef) w') : if Region.wanted o (yielded ops a.tmps) = true then Oper.wp P o a w KK Q else E := by
  have hw : Region.wanted o (yielded ops a.tmps) = true := by simp [Region.wanted, hg]
  rw [if_pos hw]
  obtain ⟨w', hrun, r1, r2, r3⟩ := h.store (t := t) K hb val
  have hs' : a.eval st = goInt (s : Int) := hs
  unfold Oper.wp
  simp [execOp, hop, hm, hs', hx, hrun, Result.andThen]
  exact hK w' r1 r2 r3
end
end Go.Hg

namespace Go.Hg
open MapKept

/-- a value of a plain type: an integer's of 64 bits, or a text's -/
def PlainT (P : Program) (t : TypeId) (x : Value) : Prop := (∃ n, x = .int .i64 n ∧ P.underlying t = some (.int .i64)) ∨ ∃ s, x = .string s ∧ P.underlying t = some .string
def plainEq : Value → Value → Bool
  | .int .i64 a, .int .i64 b => a == b
  | .string a, .string b => a == b
  | _, _ => false
section
variable {P : Program} {t : TypeId}
theorem run_plainEq {x y : Value} (hx : PlainT P t x) (hy : PlainT P t y) (d : Nat) (w : World) : (Op.equalIn (d + 1) t x y).run P w = .ok (plainEq x y) w := by
  rcases hx with ⟨a, rfl, hx⟩ | ⟨a, rfl, hx⟩ <;> rcases hy with ⟨b, rfl, hy⟩ | ⟨b, rfl, hy⟩
  · simp [Op.equalIn, run_underlying hx, plainEq, Result.andThen]
  · rw [hx] at hy; cases hy
  · rw [hx] at hy; cases hy
  · simp [Op.equalIn, run_underlying hx, plainEq, Result.andThen]
theorem plainEq_iff {x y : Value} (hx : PlainT P t x) (hy : PlainT P t y) : plainEq x y = true ↔ x = y := by
  rcases hx with ⟨a, rfl, hx⟩ | ⟨a, rfl, hx⟩ <;> rcases hy with ⟨b, rfl, hy⟩ | ⟨b, rfl, hy⟩
  · simp [plainEq]
  · rw [hx] at hy; cases hy
  · rw [hx] at hy; cases hy
  · simp only [plainEq, Value.string.injEq]
    exact bytes_beq a b
theorem run_partP {x : Value} (hx : PlainT P t x) {cs : Array Value} {o : Nat} (ho : cs[o]? = some x) (w : World) : (part t cs o).run P w = .ok x w := by
  rcases hx with ⟨a, rfl, hx⟩ | ⟨a, rfl, hx⟩ <;> simp [part, isAgg, run_underlying hx, ho, Result.andThen]
theorem run_checkP {x : Value} (hx : PlainT P t x) (d : Nat) (e : Bool) (w : World) : (Instr.checkKey e (d + 1) t x).run P w = .ok () w := by
  rcases hx with ⟨a, rfl, hx⟩ | ⟨a, rfl, hx⟩
  · exact MapKept.run_checkKey hx (by simp [IsKey]) e d
  · exact MapKept.run_checkKey hx (by simp [IsKey]) e d
variable {f0 f1 f2 : Field} {x0 x1 x2 y0 y1 y2 : Value}
theorem run_equal3 (hu : P.underlying t = some (.struct #[f0, f1, f2])) (hs : P.stoodInHeld t = false) (n0 : f0.name ≠ "_") (n1 : f1.name ≠ "_") (n2 : f2.name ≠ "_") (o0 : f0.offset = 0) (o1 : f1.offset = 1) (o2 : f2.offset = 2)
    (hx0 : PlainT P f0.type x0) (hx1 : PlainT P f1.type x1) (hx2 : PlainT P f2.type x2) (hy0 : PlainT P f0.type y0) (hy1 : PlainT P f1.type y1) (hy2 : PlainT P f2.type y2) (w : World) :
    (Op.equal t (.agg #[x0, x1, x2]) (.agg #[y0, y1, y2])).run P w = .ok (plainEq x0 y0 && (plainEq x1 y1 && plainEq x2 y2)) w := by
  have p0 := run_partP (P := P) hx0 (cs := #[x0, x1, x2]) (o := 0) rfl
  have p1 := run_partP (P := P) hx1 (cs := #[x0, x1, x2]) (o := 1) rfl
  have p2 := run_partP (P := P) hx2 (cs := #[x0, x1, x2]) (o := 2) rfl
  have q0 := run_partP (P := P) hy0 (cs := #[y0, y1, y2]) (o := 0) rfl
  have q1 := run_partP (P := P) hy1 (cs := #[y0, y1, y2]) (o := 1) rfl
  have q2 := run_partP (P := P) hy2 (cs := #[y0, y1, y2]) (o := 2) rfl
  have e0 := fun w => run_plainEq hx0 hy0 9998 w
  have e1 := fun w => run_plainEq hx1 hy1 9998 w
  have e2 := fun w => run_plainEq hx2 hy2 9998 w
  unfold Op.equal Op.maxDepth Op.equalIn
  simp only [Sem.run_bind, run_underlying hu, Result.andThen_ok]
  have hp : ∀ w, (program : Sem Program).run P w = .ok P w := fun w => rfl
  cases h0 : plainEq x0 y0 <;> cases h1 : plainEq x1 y1 <;> cases h2 : plainEq x2 y2 <;>
    simp [hp, hs, n0, n1, n2, o0, o1, o2, p0, p1, p2, q0, q1, q2, e0, e1, e2, h0, h1, h2, Result.andThen, Sem.run_bind]
theorem run_check3 (hu : P.underlying t = some (.struct #[f0, f1, f2])) (n0 : f0.name ≠ "_") (n1 : f1.name ≠ "_") (n2 : f2.name ≠ "_") (o0 : f0.offset = 0) (o1 : f1.offset = 1) (o2 : f2.offset = 2)
    (hx0 : PlainT P f0.type x0) (hx1 : PlainT P f1.type x1) (hx2 : PlainT P f2.type x2) (e : Bool) (w : World) : (Instr.checkKey e 10000 t (.agg #[x0, x1, x2])).run P w = .ok () w := by
  have p0 := run_partP (P := P) hx0 (cs := #[x0, x1, x2]) (o := 0) rfl
  have p1 := run_partP (P := P) hx1 (cs := #[x0, x1, x2]) (o := 1) rfl
  have p2 := run_partP (P := P) hx2 (cs := #[x0, x1, x2]) (o := 2) rfl
  have e0 := fun w => run_checkP hx0 9998 e w
  have e1 := fun w => run_checkP hx1 9998 e w
  have e2 := fun w => run_checkP hx2 9998 e w
  unfold Instr.checkKey
  simp only [Sem.run_bind, run_underlying hu, Result.andThen_ok]
  simp [n0, n1, n2, o0, o1, o2, p0, p1, p2, e0, e1, e2, Result.andThen, Sem.run_bind]
theorem findAsking3 {κ : Type} {c0 c1 c2 : κ → Value} (hu : P.underlying t = some (.struct #[f0, f1, f2])) (hs : P.stoodInHeld t = false) (n0 : f0.name ≠ "_") (n1 : f1.name ≠ "_") (n2 : f2.name ≠ "_") (o0 : f0.offset = 0) (o1 : f1.offset = 1) (o2 : f2.offset = 2)
    (h0 : ∀ k, PlainT P f0.type (c0 k)) (h1 : ∀ k, PlainT P f1.type (c1 k)) (h2 : ∀ k, PlainT P f2.type (c2 k)) (w : World) (k : κ) : ∀ (es : List MapEntry) (i : Nat), (∀ x ∈ es, ∃ q, x.key = .agg #[c0 q, c1 q, c2 q]) →
    ((Instr.findAsking t (.agg #[c0 k, c1 k, c2 k]) es i).run P w = .ok none w ∧ ∀ x ∈ es, x.key ≠ .agg #[c0 k, c1 k, c2 k]) ∨
    ∃ j e, (Instr.findAsking t (.agg #[c0 k, c1 k, c2 k]) es i).run P w = .ok (some (i + j, e.val)) w ∧ es[j]? = some e ∧ e.key = .agg #[c0 k, c1 k, c2 k]
  | [], i, _ => .inl ⟨by simp [Instr.findAsking], by simp⟩
  | e :: es, i, hall => by
    obtain ⟨q, hq⟩ := hall e (.head _)
    have hr := run_equal3 hu hs n0 n1 n2 o0 o1 o2 (h0 k) (h1 k) (h2 k) (h0 q) (h1 q) (h2 q) w
    cases hb : (plainEq (c0 k) (c0 q) && (plainEq (c1 k) (c1 q) && plainEq (c2 k) (c2 q)))
    · have hne : e.key ≠ .agg #[c0 k, c1 k, c2 k] := by
        rw [hq]
        intro he
        simp only [Value.agg.injEq] at he
        have e0 : c0 q = c0 k := by have := congrArg (fun a : Array Value => a[0]?) he; simpa using this
        have e1 : c1 q = c1 k := by have := congrArg (fun a : Array Value => a[1]?) he; simpa using this
        have e2 : c2 q = c2 k := by have := congrArg (fun a : Array Value => a[2]?) he; simpa using this
        rw [(plainEq_iff (h0 k) (h0 q)).2 e0.symm, (plainEq_iff (h1 k) (h1 q)).2 e1.symm, (plainEq_iff (h2 k) (h2 q)).2 e2.symm] at hb
        cases hb
      rw [hb] at hr
      rcases findAsking3 hu hs n0 n1 n2 o0 o1 o2 h0 h1 h2 w k es (i + 1) (fun x hx => hall x (.tail _ hx)) with ⟨g1, g2⟩ | ⟨j, e', g1, g2, g3⟩
      · refine .inl ⟨by simp [Instr.findAsking, hq, hr, g1, Result.andThen], fun x hx => ?_⟩
        rcases List.mem_cons.1 hx with rfl | hx
        · exact hne
        · exact g2 x hx
      · exact .inr ⟨j + 1, e', by simp [Instr.findAsking, hq, hr, g1, Result.andThen, Nat.add_assoc, Nat.add_comm 1 j], by simpa using g2, g3⟩
    · rw [hb] at hr
      rw [Bool.and_eq_true, Bool.and_eq_true] at hb
      have e0 := (plainEq_iff (h0 k) (h0 q)).1 hb.1
      have e1 := (plainEq_iff (h1 k) (h1 q)).1 hb.2.1
      have e2 := (plainEq_iff (h2 k) (h2 q)).1 hb.2.2
      exact .inr ⟨0, e, by simp [Instr.findAsking, hq, hr, Result.andThen], rfl, by rw [hq, e0, e1, e2]⟩
theorem keyK_struct3 {κ : Type} {c0 c1 c2 : κ → Value} (hu : P.underlying t = some (.struct #[f0, f1, f2])) (hs : P.stoodInHeld t = false) (n0 : f0.name ≠ "_") (n1 : f1.name ≠ "_") (n2 : f2.name ≠ "_") (o0 : f0.offset = 0) (o1 : f1.offset = 1) (o2 : f2.offset = 2)
    (h0 : ∀ k, PlainT P f0.type (c0 k)) (h1 : ∀ k, PlainT P f1.type (c1 k)) (h2 : ∀ k, PlainT P f2.type (c2 k)) (inj : ∀ {a b}, c0 a = c0 b → c1 a = c1 b → c2 a = c2 b → a = b) : KeyK P t (fun k : κ => .agg #[c0 k, c1 k, c2 k]) where
  inj he := by
    simp only [Value.agg.injEq] at he
    refine inj ?_ ?_ ?_
    · have := congrArg (fun a : Array Value => a[0]?) he; simpa using this
    · have := congrArg (fun a : Array Value => a[1]?) he; simpa using this
    · have := congrArg (fun a : Array Value => a[2]?) he; simpa using this
  check w e k := run_check3 hu n0 n1 n2 o0 o1 o2 (h0 k) (h1 k) (h2 k) e w
  find w k es hes := by
    have hn : es = [] ∨ Instr.findNow (.struct #[f0, f1, f2]) (.agg #[c0 k, c1 k, c2 k]) es 0 = none := by
      cases es with
      | nil => exact .inl rfl
      | cons e t => exact .inr (by simp [Instr.findNow, Instr.sameNow])
    rcases hn with rfl | hn
    · exact .inl ⟨by simp [Instr.findKey, run_underlying hu, Instr.findNow, Result.andThen], by simp⟩
    · have hf : (Instr.findKey t (.agg #[c0 k, c1 k, c2 k]) es).run P w = (Instr.findAsking t (.agg #[c0 k, c1 k, c2 k]) es 0).run P w := by
        simp [Instr.findKey, run_underlying hu, hn, Result.andThen]
      rw [hf]
      rcases findAsking3 hu hs n0 n1 n2 o0 o1 o2 h0 h1 h2 w k es 0 hes with h | ⟨j, e, g1, g2, g3⟩
      · exact .inl h
      · exact .inr ⟨j, e, by simpa using g1, g2, g3⟩
  stays w k := by
    have hb : ∀ (m : Nat) (f : Field) (x : Value), PlainT P f.type x → Instr.sameBits m x x = true := by
      intro m f x hx
      rcases hx with ⟨a, rfl, -⟩ | ⟨a, rfl, -⟩
      · simp [Instr.sameBits]
      · simp only [Instr.sameBits]
        exact (bytes_beq a a).2 rfl
    have h : Instr.sameBits 10000 (.agg #[c0 k, c1 k, c2 k]) (.agg #[c0 k, c1 k, c2 k]) = true := by
      simp [Instr.sameBits, hb 9999 f0 _ (h0 k), hb 9999 f1 _ (h1 k), hb 9999 f2 _ (h2 k)]
    simp [Instr.keyThatStays, h]
end
end Go.Hg

namespace Go.Hg
open Go.RowKit Go.Proofs MapKept Go.Maps

theorem keyV : KeyK Tryz.prog 42 PVal.args := by
  refine keyK_struct3 (c0 := fun v : PVal => .int .i64 v.kind) (c1 := fun v => .int .i64 v.n) (c2 := fun v => .string v.s) Tryz.underlying42 (by kernel_rfl) (by decide) (by decide) (by decide) rfl rfl rfl (fun v => .inl ⟨_, rfl, Tryz.underlying3⟩) (fun v => .inl ⟨_, rfl, Tryz.underlying2⟩) (fun v => .inr ⟨_, rfl, Tryz.underlying9⟩) ?_
  intro a b h0 h1 h2
  cases a; cases b
  simp only [Value.int.injEq, Value.string.injEq, true_and] at h0 h1 h2
  rw [h0, h1, h2]

set_option maxRecDepth 100000 in
set_option maxHeartbeats 4000000 in
theorem ruleUnique (nodes : List PNode) (nv : Value) (r : PRule) (w : World) (S : Nat → Prop) (hn : NodesR S w nv nodes) :
    Calls Tryz.prog 62 #[nv, r.args] w fun e w' => e = .returned (.bool (uniqR nodes r)) ∧ Grow w w' := by
  obtain ⟨aa, ca, rfl, hal, hac, hA⟩ := SlR.open hn
  unfold maxLen at hac
  have HA := Lib.hid hA
  have HG := Lib.hid (show ∀ o1 o2, Grow w ((w.alloc o1).alloc o2) from fun o1 o2 => ((Grow.rfl' w).allocd o1).allocd o2)
  have HM0 := Lib.hid (show ∀ o1, MapK PVal.args ((w.alloc o1).alloc (.map #[] 0)) (w.heap.size + 1) (cntK ([] : List PVal)) 0 from fun o1 => by
    have h := MapK.made (kv := PVal.args) (w.alloc o1)
    rw [World.size_alloc] at h
    exact h)
  have HR0 := Lib.hid (show ∀ o2, RuleBox ((w.alloc (.cells #[.int .i64 r.id, .int .i64 r.kind, .string r.typ, .string r.name, .string r.from_, .string r.to_, .int .i64 r.n, .int .i64 r.state] 24 (0, 0))).alloc o2) w.heap.size r from fun o2 => by
    unfold RuleBox
    rw [((Grow.rfl' (w.alloc _)).allocd o2).heapEq (by simp)]
    exact heap_alloc_new w _)
  clear hn hA
  have hmm := @run_makeMap Tryz.prog
  go_enter Tryz.func62, Tryz.ntmps62
  go_wp2
  clear hmm
  go_loopg [13] nodes.length (fun g i wr => ∃ k : Nat, k ≤ nodes.length ∧ g = nodes.length - k ∧ i = .int .i64 k ∧ MapK PVal.args wr (w.heap.size + 1) (cntK ((nodes.take k).filterMap (valR r))) k ∧ ((nodes.take k).filterMap (valR r)).Nodup ∧ RuleBox wr w.heap.size r ∧ Grow w wr)
  case atStart => exact ⟨0, by omega, by omega, rfl, HM0.out _, by simp, HR0.out _, HG.out _ _⟩
  case round =>
    obtain ⟨k, hk, rfl, rfl, hm, hno, hrb, hgr⟩ := hrel
    have HM := Lib.hid hm; have HGR := Lib.hid hgr; have HNO := Lib.hid hno; have HRB0 := Lib.hid hrb
    have hml := hm.lt
    obtain ⟨hrl, c1, c2, c3, c4, c5, c6, c7, c0⟩ := hrb.cells
    clear hm hno hrb c1 c4 c5 c6 c7 c0
    by_cases hkl : k < nodes.length
    · obtain ⟨ba, oa, ra, rfl, hSa, hba, hRa, hca⟩ := HA.out k nodes[k] (List.getElem?_eq_getElem hkl)
      obtain ⟨pva, hba', a0, a1, a2, hpa⟩ := hRa.at hba hgr hca
      clear hca hRa hSa hba
      have HT := Lib.hid (show nodes.take (k + 1) = nodes.take k ++ [nodes[k]] from List.take_succ_eq_append_getElem hkl)
      generalize nodes[k] = x at *
      have HPA := Lib.hid hpa
      obtain ⟨_, _, rfl⟩ := hpa.isSlice
      have HW := Lib.hid (show ∀ o1, Grow wr (wr.alloc o1) from fun o1 => (Grow.rfl' wr).allocd o1)
      have HNB := Lib.hid (show ∀ o1 w', Grow (wr.alloc o1) w' → w'.heap[wr.heap.size]? = some o1 from fun o1 w' hg => by rw [hg.heapEq (by simp)]; exact heap_alloc_new wr _)
      obtain ⟨gv, hgv⟩ : ∃ gv, getV x.props r.name = gv := ⟨_, rfl⟩
      obtain ⟨bo, hbo⟩ : ∃ bo, (getP x.props r.name).isSome = bo := ⟨_, rfl⟩
      obtain ⟨bt, hbt⟩ : ∃ b, decide (x.typ = r.typ) = b := ⟨_, rfl⟩
      have HV := Lib.hid (show valR r x = if (bo && bt) = true then some gv else none by
        unfold valR
        rw [← hgv, ← hbo, ← hbt]
        unfold getV
        by_cases h : x.typ = r.typ
        · cases hp : getP x.props r.name <;> simp [h]
        · simp [h])
      have HGV := Lib.hid hgv; have HBO := Lib.hid hbo
      clear hpa hgr hgv hbo
      go_wp2_with fail
      refine (valGet S _ x.props r.name _ (HPA.out.grow (HW.out _))).mono ?_
      rintro e w2 ⟨rfl, hw2⟩
      rw [HGV.out, HBO.out]
      have HG2 := Lib.hid (HGR.out.step ((HW.out _).step hw2))
      have HWR2 := Lib.hid ((HW.out _).step hw2)
      have hnb := HNB.out _ w2 hw2
      have hnl := blk_lt hnb
      have n1 : w2.cell? ⟨wr.heap.size, 1, none⟩ = some (.string x.typ) := by rw [blk_cell hnb]; rfl
      have hrb2 := HRB0.out.grow HWR2.out
      obtain ⟨hrl2, c1, c2', c3', c4, c5, c6, c7, c0⟩ := hrb2.cells
      have hml2 := (HM.out.grow HWR2.out).lt
      have hsz := HGR.out.size
      clear hnb hw2 hrb2 c1 c3' c4 c5 c6 c7 c0 c2 c3 a0 a1 a2 hrl hml hba'
      have HM3 := Lib.hid (show MapK PVal.args (w2.alloc (.cells #[.int .i64 gv.kind, .int .i64 gv.n, .string gv.s] 42 (0, 0))).drew (w.heap.size + 1) (cntK ((nodes.take k).filterMap (valR r))) k from (HM.out.grow HWR2.out).grow (((Grow.rfl' w2).allocd _).drewd))
      have HG3 := Lib.hid (show Grow w (w2.alloc (.cells #[.int .i64 gv.kind, .int .i64 gv.n, .string gv.s] 42 (0, 0))) from HG2.out.allocd _)
      have HSTAY := Lib.hid (show ∀ o1, Grow w (w2.alloc o1) ∧ RuleBox (w2.alloc o1) w.heap.size r ∧ MapK PVal.args (w2.alloc o1) (w.heap.size + 1) (cntK ((nodes.take k).filterMap (valR r))) k from fun o1 => ⟨HG2.out.allocd o1, (HRB0.out.grow HWR2.out).grow ((Grow.rfl' w2).allocd o1), (HM.out.grow HWR2.out).grow ((Grow.rfl' w2).allocd o1)⟩)
      cases bo
      · have HV' := Lib.hid (show valR r x = none by rw [HV.out]; rfl)
        go_wp2
        go_roundg (nodes.length - (k + 1))
        case measure => omega
        case rel =>
          refine ⟨k + 1, by omega, rfl, by go_num, ?_, ?_, (HSTAY.out _).2.1, (HSTAY.out _).1⟩
          · rw [HT.out, List.filterMap_append, List.filterMap_cons_none HV'.out]
            simpa using (HSTAY.out _).2.2.mono (by omega)
          · rw [HT.out, List.filterMap_append, List.filterMap_cons_none HV'.out]
            simpa using HNO.out
      · cases bt
        · have HV' := Lib.hid (show valR r x = none by rw [HV.out]; rfl)
          go_wp2
          go_roundg (nodes.length - (k + 1))
          case measure => omega
          case rel =>
            refine ⟨k + 1, by omega, rfl, by go_num, ?_, ?_, (HSTAY.out _).2.1, (HSTAY.out _).1⟩
            · rw [HT.out, List.filterMap_append, List.filterMap_cons_none HV'.out]
              simpa using (HSTAY.out _).2.2.mono (by omega)
            · rw [HT.out, List.filterMap_append, List.filterMap_cons_none HV'.out]
              simpa using HNO.out
        · have HVS := Lib.hid (show valR r x = some gv by rw [HV.out]; rfl)
          clear HV
          have HV := HVS
          go_wp2_with fail
          have hnew : ∀ w' : World, (w'.heap[w2.heap.size]? = some (.cells #[.int .i64 gv.kind, .int .i64 gv.n, .string gv.s] 42 (0, 0))) → w'.cell? ⟨w2.heap.size, 0, none⟩ = some (.int .i64 gv.kind) ∧ w'.cell? ⟨w2.heap.size, 1, none⟩ = some (.int .i64 gv.n) ∧ w'.cell? ⟨w2.heap.size, 2, none⟩ = some (.string gv.s) := fun w' h => ⟨by rw [blk_cell h]; rfl, by rw [blk_cell h]; rfl, by rw [blk_cell h]; rfl⟩
          have hbx : (w2.alloc (.cells #[.int .i64 gv.kind, .int .i64 gv.n, .string gv.s] 42 (0, 0))).drew.heap[w2.heap.size]? = some (.cells #[.int .i64 gv.kind, .int .i64 gv.n, .string gv.s] 42 (0, 0)) := heap_alloc_new w2 _
          have KEEP0 := Lib.hid (hnew _ hbx)
          have KEEP5 := Lib.hid (show ∀ w5 : World, Mod (fun q => q = w.heap.size + 1) (w2.alloc (.cells #[.int .i64 gv.kind, .int .i64 gv.n, .string gv.s] 42 (0, 0))).drew w5 → _ from fun w5 h => hnew w5 ((h.block _ (blk_lt hbx) (by show ¬ w2.heap.size = w.heap.size + 1; omega)).trans hbx))
          have HRB := Lib.hid (show ∀ w5 : World, Mod (fun q => q = w.heap.size + 1) (w2.alloc (.cells #[.int .i64 gv.kind, .int .i64 gv.n, .string gv.s] 42 (0, 0))).drew w5 → RuleBox w5 w.heap.size r from fun w5 h => (h.block _ (by have := (HSTAY.out (.cells #[.int .i64 gv.kind, .int .i64 gv.n, .string gv.s] 42 (0, 0))).2.1.cells.1; exact this) (by show ¬ w.heap.size = w.heap.size + 1; omega)).trans (HSTAY.out _).2.1)
          clear hnew hbx
          have HWR := Lib.hid (show IntKind.i64.wrap ((((nodes.take k).filterMap (valR r)).count gv : Int) + 1) = (((nodes.take k).filterMap (valR r)).count gv : Int) + 1 by
            have h1 := List.count_le_length (a := gv) (l := (nodes.take k).filterMap (valR r))
            have h2 := List.length_filterMap_le (valR r) (nodes.take k)
            rw [List.length_take] at h2
            rw [IntKind.wrap_i64] <;> omega)
          refine wp_region_noPanic ?_
          refine wp_region_held_drew (S := fun w' => w'.cell? ⟨w2.heap.size, 0, none⟩ = some (.int .i64 gv.kind) ∧ w'.cell? ⟨w2.heap.size, 1, none⟩ = some (.int .i64 gv.n) ∧ w'.cell? ⟨w2.heap.size, 2, none⟩ = some (.string gv.s)) (by kernel_rfl) ?_ (fun hHeld => ?_)
          · exact KEEP0.out
          refine' wpAnyH_take (i := 0) (oi := ?o1) (v := _) (by simp only [List.getElem?_toArray, List.getElem?_cons_zero]; rfl) (by kernel_rfl) (by kernel_rfl) (by kernel_rfl) (fun _ _ _ h => h) (Or.inl ⟨by rfl, ?y1⟩) (by assumption) ?r1
          case y1 =>
            intro wS hSw
            try dsimp only at hSw
            go_simp
            all_goals with_reducible rfl
          simp only [Act.put, List.setIfInBounds_toArray, List.set_cons_zero, List.set_cons_succ]
          refine' wpAnyH_take (i := 1) (oi := ?o2) (v := _) (by simp only [List.getElem?_toArray, List.getElem?_cons_succ, List.getElem?_cons_zero]; rfl) (by kernel_rfl) (by kernel_rfl) (by kernel_rfl) (fun _ _ _ h => h) (Or.inl ⟨by rfl, ?y2⟩) (by assumption) ?r2
          case y2 =>
            intro wS hSw
            try dsimp only at hSw
            go_simp
            all_goals with_reducible rfl
          simp only [Act.put, List.setIfInBounds_toArray, List.set_cons_zero, List.set_cons_succ]
          refine wpAnyH_ready (rs := [2, 4]) (by kernel_rfl) (by simp) ?_
          refine' AllReadyH.cons (o := ?o3) (by simp only [List.getElem?_toArray, List.getElem?_cons_succ, List.getElem?_cons_zero]; rfl) (fun K hK => ?s3) ?m3
          rotate_left
          · refine' AllReadyH.cons (o := ?o4) (by simp only [List.getElem?_toArray, List.getElem?_cons_succ, List.getElem?_cons_zero]; rfl) (fun K hK => ?s4) ?m4
            case m4 => exact AllReadyH.nil
            refine step_entryK rfl (.tmp 33) (.tmp 34) 165 rfl 42 3 Tryz.underlying165 keyV (.int .i64 0) zeroIntV (by rfl) HM3.out gv (by rfl) _ (cntK_getD _ gv) ?_
            intro w5 s5 q1 q2 q3 q4
            refine hK.out _ _ ?_ (fun hHeld => ?_)
            · exact KEEP5.out w5 q3
            clear hK K
            try simp only [Act.put, List.setIfInBounds_toArray, List.set_cons_zero, List.set_cons_succ]
            refine' wpAnyH_take (i := 5) (oi := ?o5) (v := _) (by simp only [List.getElem?_toArray, List.getElem?_cons_succ, List.getElem?_cons_zero]; rfl) (by kernel_rfl) (by kernel_rfl) (by kernel_rfl) (fun _ _ _ h => h) (Or.inl ⟨by rfl, ?y5⟩) (by assumption) ?r5
            case y5 =>
              intro wS hSw
              try dsimp only at hSw
              go_simp
              all_goals with_reducible rfl
            simp only [Act.put, List.setIfInBounds_toArray, List.set_cons_zero, List.set_cons_succ]
            refine wpAnyH_ready (rs := [2]) (by kernel_rfl) (by simp) ?_
            refine' AllReadyH.cons (o := ?o6) (by simp only [List.getElem?_toArray, List.getElem?_cons_succ, List.getElem?_cons_zero]; rfl) (fun K hK => ?s6) ?m6
            case m6 => exact AllReadyH.nil
            refine step_lookK rfl (.tmp 33) (.tmp 34) 165 rfl 42 3 Tryz.underlying165 keyV (.int .i64 0) (zeroIntV _) (by rfl) q1 gv (by rfl) (.int .i64 (((nodes.take k).filterMap (valR r)).count gv : Int)) (by rw [kput_same]; rfl) ?_
            refine hK.out _ _ ?_ (fun hHeld => ?_)
            · exact KEEP5.out w5 q3
            clear hK K
            try simp only [Act.put, List.setIfInBounds_toArray, List.set_cons_zero, List.set_cons_succ]
            refine' wpAnyH_take (i := 3) (oi := ?o7) (v := _) (by simp only [List.getElem?_toArray, List.getElem?_cons_succ, List.getElem?_cons_zero]; rfl) (by kernel_rfl) (by kernel_rfl) (by kernel_rfl) (fun _ _ _ h => h) (Or.inl ⟨by rfl, ?y7⟩) (by assumption) ?r7
            case y7 =>
              intro wS hSw
              try dsimp only at hSw
              go_simp
              all_goals with_reducible rfl
            simp only [Act.put, List.setIfInBounds_toArray, List.set_cons_zero, List.set_cons_succ]
            refine wpAnyH_ready (rs := [6]) (by kernel_rfl) (by simp) ?_
            refine' AllReadyH.cons (o := ?o8) (by simp only [List.getElem?_toArray, List.getElem?_cons_succ, List.getElem?_cons_zero]; rfl) (fun K hK => ?s8) ?m8
            case m8 => exact AllReadyH.nil
            refine step_storeK rfl (.tmp 33) (.tmp 38) (.tmp 36) 165 rfl 42 keyV (by rfl) q1 gv s5 (by rfl) q2 (.int .i64 ((((nodes.take k).filterMap (valR r)).count gv : Int) + 1)) (by simp [Act.eval, HWR.out]) ?_
            intro w6 p1 p3 p4
            rw [kput_twice, ← kput_twice _ _ (.int .i64 0), cntK_step] at p1
            refine hK.out _ _ ?_ (fun hHeld => ?_)
            · exact KEEP5.out w6 (q3.step p3)
            clear hK K
            try simp only [Act.put]
            refine wpAnyH_done (by kernel_rfl) ?_ _
            refine NoPanic.normal ?_
            obtain ⟨y0, y1, y2⟩ := KEEP5.out w6 (q3.step p3)
            have HM6 := Lib.hid p1
            have HG6 := Lib.hid ((HG3.out.drewd).modd (q3.step p3) (fun q hq => by rw [hq]; omega))
            have HB6 := Lib.hid (HRB.out w6 (q3.step p3))
            clear q1 q2 q3 q4 p1 p3 p4
            by_cases hc : ((nodes.take k).filterMap (valR r)).count gv = 0
            · have HL := Lib.hid (show (cntK ((nodes.take k).filterMap (valR r) ++ [gv]) gv).getD (.int .i64 0) = .int .i64 1 by rw [cntK_getD, List.count_append, hc]; simp)
              have HND := Lib.hid (show ((nodes.take k).filterMap (valR r) ++ [gv]).Nodup by
                rw [List.nodup_append]
                refine ⟨HNO.out, by simp, ?_⟩
                intro a ha b hb hab
                rw [List.mem_singleton] at hb
                subst hb
                subst hab
                rw [List.count_eq_zero] at hc
                exact hc ha)
              clear hc
              go_wp2_with (at_lookup; go_must (refine wpList_lookK _ rfl (.tmp 39) (.tmp 40) 165 rfl 42 3 Tryz.underlying165 keyV (.int .i64 0) (zeroIntV _) _ _ _ rfl HM6.out gv rfl _ HL.out ?_))
              go_roundg (nodes.length - (k + 1))
              case measure => omega
              case rel =>
                refine ⟨k + 1, by omega, rfl, by go_num, ?_, ?_, HB6.out, HG6.out⟩
                · rw [HT.out, List.filterMap_append, List.filterMap_cons_some HV.out]
                  exact HM6.out
                · rw [HT.out, List.filterMap_append, List.filterMap_cons_some HV.out]
                  exact HND.out
            · have HL := Lib.hid (show (cntK ((nodes.take k).filterMap (valR r) ++ [gv]) gv).getD (.int .i64 0) = .int .i64 ((((nodes.take k).filterMap (valR r)).count gv : Int) + 1) by rw [cntK_getD, List.count_append]; simp)
              have HX := Lib.hid (show uniqR nodes r = false by
                unfold uniqR
                refine decide_eq_false fun hn => ?_
                have h1 : ((nodes.take (k + 1)).filterMap (valR r)).Nodup := hn.sublist ((List.take_sublist _ _).filterMap _)
                rw [HT.out, List.filterMap_append, List.filterMap_cons_some HV.out] at h1
                have h2 := (List.nodup_append.1 h1).2.2 gv (List.count_pos_iff.1 (by omega)) gv (by simp)
                exact h2 rfl)
              generalize ((nodes.take k).filterMap (valR r)).count gv = c at *
              go_wp2_with (at_lookup; go_must (refine wpList_lookK _ rfl (.tmp 39) (.tmp 40) 165 rfl 42 3 Tryz.underlying165 keyV (.int .i64 0) (zeroIntV _) _ _ _ rfl HM6.out gv rfl _ HL.out ?_))
              go_ret
              exact ⟨by rw [HX.out]; rfl, HG6.out⟩
          refine step_lookK rfl (.tmp 33) (.tmp 34) 165 rfl 42 3 Tryz.underlying165 keyV (.int .i64 0) (zeroIntV _) (by rfl) HM3.out gv (by rfl) _ (cntK_getD _ gv) ?_
          refine hK.out _ _ ?_ (fun hHeld => ?_)
          · exact KEEP0.out
          clear hK K
          try simp only [Act.put, List.setIfInBounds_toArray, List.set_cons_zero, List.set_cons_succ]
          refine' wpAnyH_take (i := 3) (oi := ?o9) (v := _) (by simp only [List.getElem?_toArray, List.getElem?_cons_succ, List.getElem?_cons_zero]; rfl) (by kernel_rfl) (by kernel_rfl) (by kernel_rfl) (fun _ _ _ h => h) (Or.inl ⟨by rfl, ?y9⟩) (by assumption) ?r9
          case y9 =>
            intro wS hSw
            try dsimp only at hSw
            go_simp
            all_goals with_reducible rfl
          simp only [Act.put, List.setIfInBounds_toArray, List.set_cons_zero, List.set_cons_succ]
          refine wpAnyH_ready (rs := [4]) (by kernel_rfl) (by simp) ?_
          refine' AllReadyH.cons (o := ?o10) (by simp only [List.getElem?_toArray, List.getElem?_cons_succ, List.getElem?_cons_zero]; rfl) (fun K hK => ?s10) ?m10
          case m10 => exact AllReadyH.nil
          refine step_entryK rfl (.tmp 33) (.tmp 34) 165 rfl 42 3 Tryz.underlying165 keyV (.int .i64 0) zeroIntV (by rfl) HM3.out gv (by rfl) _ (cntK_getD _ gv) ?_
          intro w5 s5 q1 q2 q3 q4
          refine hK.out _ _ ?_ (fun hHeld => ?_)
          · exact KEEP5.out w5 q3
          clear hK K
          try simp only [Act.put, List.setIfInBounds_toArray, List.set_cons_zero, List.set_cons_succ]
          refine' wpAnyH_take (i := 5) (oi := ?o11) (v := _) (by simp only [List.getElem?_toArray, List.getElem?_cons_succ, List.getElem?_cons_zero]; rfl) (by kernel_rfl) (by kernel_rfl) (by kernel_rfl) (fun _ _ _ h => h) (Or.inl ⟨by rfl, ?y11⟩) (by assumption) ?r11
          case y11 =>
            intro wS hSw
            try dsimp only at hSw
            go_simp
            all_goals with_reducible rfl
          simp only [Act.put, List.setIfInBounds_toArray, List.set_cons_zero, List.set_cons_succ]
          refine wpAnyH_ready (rs := [6]) (by kernel_rfl) (by simp) ?_
          refine' AllReadyH.cons (o := ?o12) (by simp only [List.getElem?_toArray, List.getElem?_cons_succ, List.getElem?_cons_zero]; rfl) (fun K hK => ?s12) ?m12
          case m12 => exact AllReadyH.nil
          refine step_storeK rfl (.tmp 33) (.tmp 38) (.tmp 36) 165 rfl 42 keyV (by rfl) q1 gv s5 (by rfl) q2 (.int .i64 ((((nodes.take k).filterMap (valR r)).count gv : Int) + 1)) (by simp [Act.eval, HWR.out]) ?_
          intro w6 p1 p3 p4
          rw [kput_twice, ← kput_twice _ _ (.int .i64 0), cntK_step] at p1
          refine hK.out _ _ ?_ (fun hHeld => ?_)
          · exact KEEP5.out w6 (q3.step p3)
          clear hK K
          try simp only [Act.put]
          refine wpAnyH_done (by kernel_rfl) ?_ _
          refine NoPanic.normal ?_
          obtain ⟨y0, y1, y2⟩ := KEEP5.out w6 (q3.step p3)
          have HM6 := Lib.hid p1
          have HG6 := Lib.hid ((HG3.out.drewd).modd (q3.step p3) (fun q hq => by rw [hq]; omega))
          have HB6 := Lib.hid (HRB.out w6 (q3.step p3))
          clear q1 q2 q3 q4 p1 p3 p4
          by_cases hc : ((nodes.take k).filterMap (valR r)).count gv = 0
          · have HL := Lib.hid (show (cntK ((nodes.take k).filterMap (valR r) ++ [gv]) gv).getD (.int .i64 0) = .int .i64 1 by rw [cntK_getD, List.count_append, hc]; simp)
            have HND := Lib.hid (show ((nodes.take k).filterMap (valR r) ++ [gv]).Nodup by
              rw [List.nodup_append]
              refine ⟨HNO.out, by simp, ?_⟩
              intro a ha b hb hab
              rw [List.mem_singleton] at hb
              subst hb
              subst hab
              rw [List.count_eq_zero] at hc
              exact hc ha)
            clear hc
            go_wp2_with (at_lookup; go_must (refine wpList_lookK _ rfl (.tmp 39) (.tmp 40) 165 rfl 42 3 Tryz.underlying165 keyV (.int .i64 0) (zeroIntV _) _ _ _ rfl HM6.out gv rfl _ HL.out ?_))
            go_roundg (nodes.length - (k + 1))
            case measure => omega
            case rel =>
              refine ⟨k + 1, by omega, rfl, by go_num, ?_, ?_, HB6.out, HG6.out⟩
              · rw [HT.out, List.filterMap_append, List.filterMap_cons_some HV.out]
                exact HM6.out
              · rw [HT.out, List.filterMap_append, List.filterMap_cons_some HV.out]
                exact HND.out
          · have HL := Lib.hid (show (cntK ((nodes.take k).filterMap (valR r) ++ [gv]) gv).getD (.int .i64 0) = .int .i64 ((((nodes.take k).filterMap (valR r)).count gv : Int) + 1) by rw [cntK_getD, List.count_append]; simp)
            have HX := Lib.hid (show uniqR nodes r = false by
              unfold uniqR
              refine decide_eq_false fun hn => ?_
              have h1 : ((nodes.take (k + 1)).filterMap (valR r)).Nodup := hn.sublist ((List.take_sublist _ _).filterMap _)
              rw [HT.out, List.filterMap_append, List.filterMap_cons_some HV.out] at h1
              have h2 := (List.nodup_append.1 h1).2.2 gv (List.count_pos_iff.1 (by omega)) gv (by simp)
              exact h2 rfl)
            generalize ((nodes.take k).filterMap (valR r)).count gv = c at *
            go_wp2_with (at_lookup; go_must (refine wpList_lookK _ rfl (.tmp 39) (.tmp 40) 165 rfl 42 3 Tryz.underlying165 keyV (.int .i64 0) (zeroIntV _) _ _ _ rfl HM6.out gv rfl _ HL.out ?_))
            go_ret
            exact ⟨by rw [HX.out]; rfl, HG6.out⟩
    · have hkk : nodes.take k = nodes := List.take_of_length_le (by omega)
      rw [hkk] at HNO
      have HX := Lib.hid (show uniqR nodes r = true by unfold uniqR; exact decide_eq_true HNO.out)
      clear hkk
      go_wp2
      go_ret
      exact ⟨by rw [HX.out]; rfl, HGR.out⟩
end Go.Hg
