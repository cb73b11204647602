/- A slice that is one's own: a whole row of a block, or empty without capacity; what append makes of it. No condition. -/
import Derived.Test.YtcokiflkjnekeaaGreatBase
namespace Go.Hg
open Go.RowKit

/-- v is a slice of n elements whose cells are xs: empty without capacity (ob = none), or the head of the whole row of block ob -/
def OwnS (w : World) (E : TypeId) (sz : Nat) (v : Value) (n : Nat) (xs : List Value) (ob : Option Nat) : Prop :=
  xs.length = n * sz ∧
  ((∃ oa, v = .slice oa 0 0 ∧ n = 0 ∧ ob = none ∧ (∀ a : Addr, oa = some a → a.spot = none)) ∨
   ∃ g cap cur, v = .slice (some ⟨g, 0, none⟩) n cap ∧ ob = some g ∧ w.heap[g]? = some (.cells cur E (0, 0)) ∧ n ≤ cap ∧ cap ≤ maxLen ∧ cur.size = cap * sz ∧ cur.toList.take (n * sz) = xs)

theorem OwnS.nil (w : World) (E : TypeId) (sz : Nat) : OwnS w E sz (.slice none 0 0) 0 [] none := ⟨by simp, .inl ⟨none, rfl, rfl, rfl, by simp⟩⟩
theorem OwnS.lit (w : World) (cs : Array Value) (E : TypeId) (sz n : Nat) (hm : n ≤ maxLen) (hs : cs.size = n * sz) :
    OwnS (w.alloc (.cells cs E)) E sz (.slice (some ⟨w.heap.size, 0, none⟩) n n) n cs.toList (some w.heap.size) :=
  ⟨by simpa using hs, .inr ⟨w.heap.size, n, cs, rfl, rfl, heap_alloc_new w _, Nat.le_refl _, hm, hs, List.take_of_length_le (by rw [Array.length_toList, hs]; exact Nat.le_refl _)⟩⟩
theorem OwnS.lt {w : World} {E : TypeId} {sz : Nat} {v : Value} {n : Nat} {xs : List Value} {ob : Option Nat} (h : OwnS w E sz v n xs ob) : ∀ g, ob = some g → g < w.heap.size := by
  intro g hg
  rcases h.2 with ⟨_, _, _, h, _⟩ | ⟨g', cap, cur, rfl, h, hh, _⟩
  · rw [h] at hg; cases hg
  · rw [h] at hg; cases hg; exact blk_lt hh
theorem OwnS.keep {w w' : World} {E : TypeId} {sz : Nat} {v : Value} {n : Nat} {xs : List Value} {ob : Option Nat} (h : OwnS w E sz v n xs ob)
    (hk : ∀ g, ob = some g → w'.heap[g]? = w.heap[g]?) : OwnS w' E sz v n xs ob := by
  refine ⟨h.1, ?_⟩
  rcases h.2 with h | ⟨g, cap, cur, rfl, ho, hh, r⟩
  · exact .inl h
  · exact .inr ⟨g, cap, cur, rfl, ho, (hk g ho).trans hh, r⟩
theorem OwnS.grow {w w' : World} {E : TypeId} {sz : Nat} {v : Value} {n : Nat} {xs : List Value} {ob : Option Nat} (h : OwnS w E sz v n xs ob) (g : Grow w w') : OwnS w' E sz v n xs ob :=
  h.keep fun k hk => g.heapEq (h.lt k hk)
theorem OwnS.isSlice {w : World} {E : TypeId} {sz : Nat} {v : Value} {n : Nat} {xs : List Value} {ob : Option Nat} (h : OwnS w E sz v n xs ob) : ∃ oa cap, v = .slice oa n cap ∧ n ≤ cap ∧ cap ≤ maxLen := by
  rcases h.2 with ⟨oa, rfl, rfl, _⟩ | ⟨g, cap, cur, rfl, _, _, h1, h2, _⟩
  · exact ⟨oa, 0, rfl, Nat.le_refl _, by simp [maxLen]⟩
  · exact ⟨_, cap, rfl, h1, h2⟩
/-- an element's cell -/
theorem OwnS.cell {w : World} {E : TypeId} {sz : Nat} {v : Value} {n : Nat} {xs : List Value} {ob : Option Nat} (h : OwnS w E sz v n xs ob) (h0 : 0 < n) :
    ∃ g cap, v = .slice (some ⟨g, 0, none⟩) n cap ∧ ob = some g ∧ g < w.heap.size ∧ (∀ j u, xs[j]? = some u → w.cell? ⟨g, j, none⟩ = some u) ∧ ∀ j, w.frozen? ⟨g, j, none⟩ = false := by
  rcases h.2 with ⟨oa, _, h1, _⟩ | ⟨g, cap, cur, rfl, ho, hh, h1, h2, h3, h4⟩
  · omega
  · refine ⟨g, cap, rfl, ho, blk_lt hh, fun j u hu => ?_, fun j => blk_free hh j⟩
    rw [blk_cell hh, ← Array.getElem?_toList]
    rw [← h4, List.getElem?_take] at hu
    split at hu
    · exact hu
    · cases hu
/-- a cell is stored -/
theorem OwnS.stored {w : World} {E : TypeId} {sz : Nat} {v : Value} {n : Nat} {xs : List Value} {ob : Option Nat} (h : OwnS w E sz v n xs ob) {g : Nat} (hg : ob = some g) (j : Nat) (u : Value) :
    OwnS (w.setCell ⟨g, j, none⟩ u) E sz v n (xs.set j u) ob := by
  refine ⟨by simpa using h.1, ?_⟩
  rcases h.2 with ⟨oa, _, _, h1, _⟩ | ⟨g', cap, cur, rfl, ho, hh, h1, h2, h3, h4⟩
  · rw [h1] at hg; cases hg
  · rw [ho] at hg; cases hg
    exact .inr ⟨g, cap, cur.setIfInBounds j u, rfl, ho, heap_setCell_same w g j cur E u hh, h1, h2, by simpa using h3, by rw [Array.toList_setIfInBounds, ← h4, List.take_set]⟩

/-- what is read for an append: m elements' cells -/
def Rd (w : World) (sz : Nat) (x : Value) (m : Nat) (news : List Value) : Prop :=
  news.length = m * sz ∧ ∃ oa cap, x = .slice oa m cap ∧ ((m = 0) ∨ ∃ a, oa = some a ∧ ∀ j u, news[j]? = some u → w.cell? (a.add j) = some u)

theorem Rd.lit (w : World) (cs : Array Value) (E : TypeId) (sz n : Nat) (hs : cs.size = n * sz) : Rd (w.alloc (.cells cs E)) sz (.slice (some ⟨w.heap.size, 0, none⟩) n n) n cs.toList := by
  refine ⟨by simpa using hs, _, _, rfl, .inr ⟨_, rfl, fun j u hu => ?_⟩⟩
  have hadd : (⟨w.heap.size, 0, none⟩ : Addr).add j = ⟨w.heap.size, j, none⟩ := by unfold Addr.add; split <;> simp_all
  rw [hadd, blk_cell (heap_alloc_new w _), ← Array.getElem?_toList]
  exact hu

section
variable {P : Program} (w : World)
theorem run_append_S (t ty e : TypeId) (i : TypeInfo) (z : Value) (size bytes : Nat) (ht : P.underlying t = some (.slice e)) (hi : P.info? e = some i) (hz : i.zero = some z)
    (hsize : i.size = size) (hby : i.bytes = bytes) (hzs : z.cells.size = size) (hsz : 0 < size)
    (v : Value) (n : Nat) (xs : List Value) (ob : Option Nat) (hown : OwnS w e size v n xs ob)
    (x : Value) (m : Nat) (news : List Value) (hx : Rd w size x m news) (h1 : ∀ u ∈ news, u.oneCell' = true)
    (h63 : n + m ≤ maxLen) (hbytes : (n + m) * bytes ≤ 140737488355328) :
    ∃ v' w' ob', (Builtin.append_ #[t, t] ty #[v, x]).run P w = .ok v' w' ∧ OwnS w' e size v' (n + m) (xs ++ news) ob' ∧ Mod (fun k => ob = some k) w w' ∧
      (ob' = ob ∨ ∃ g, ob' = some g ∧ w.heap.size ≤ g) ∧ (m = 0 → v' = v) := by
  subst hsize
  subst hby
  obtain ⟨hl, oa, c, rfl, hsrc⟩ := hx
  have hsmall : n + m ≤ 9223372036854775807 := by simp only [maxLen] at h63; omega
  have hlen : (xs ++ news).length = (n + m) * i.size := by rw [List.length_append, hown.1, hl, Nat.add_mul]
  rcases hsrc with rfl | ⟨a, rfl, hnews⟩
  · have hn : news = [] := List.eq_nil_of_length_eq_zero (by simpa using hl)
    subst hn
    obtain ⟨oa', cap, rfl, hc, _⟩ := hown.isSlice
    refine ⟨_, w, ob, ?_, by simpa using hown, Mod.rfl' _ _, .inl rfl, fun _ => rfl⟩
    cases oa <;> cases oa' <;>
      simp [Builtin.append_, run_underlying ht, sizeOf, typeInfo, hi, Builtin.lenOf, hc, Builtin.firstCells, loadCells, loadCellsFrom, storeCells]
  · by_cases hm : m = 0
    · subst hm
      have hn : news = [] := List.eq_nil_of_length_eq_zero (by simpa using hl)
      subst hn
      obtain ⟨oa', cap, rfl, hc, _⟩ := hown.isSlice
      refine ⟨_, w, ob, ?_, by simpa using hown, Mod.rfl' _ _, .inl rfl, fun _ => rfl⟩
      cases oa' <;>
        simp [Builtin.append_, run_underlying ht, sizeOf, typeInfo, hi, Builtin.lenOf, hc, Builtin.firstCells, loadCells, loadCellsFrom, storeCells]
    · have grown : ∀ (old : Nat), old < n + m →
          OwnS (w.drew.alloc (.cells (xs.toArray ++ news.toArray ++ Builtin.zeroCells z.cells (grownCap w (n + m) old e - (n + m))) e)) e i.size
            (.slice (some ⟨w.heap.size, 0, none⟩) (n + m) (grownCap w (n + m) old e)) (n + m) (xs ++ news) (some w.heap.size) := by
        intro old ho
        have hge := grownCap_ge w (n + m) old e
        have hcm : grownCap w (n + m) old e ≤ maxLen := grownCap_le_maxLen w (n + m) old e h63
        refine ⟨hlen, .inr ⟨w.heap.size, _, _, rfl, rfl, heap_alloc_new w.drew _, hge, hcm, ?_, ?_⟩⟩
        · simp only [Array.size_append, List.size_toArray, size_zeroCells, hzs, hown.1, hl, ← Nat.add_mul]
          congr 1
          omega
        · simp only [Array.toList_append, List.append_assoc]
          rw [← List.append_assoc, ← hlen]
          exact List.take_left
      have hmod : ∀ o, Mod (fun k => ob = some k) w (w.drew.alloc o) := fun o => ((Mod.rfl' _ w).drewd).allocd o
      rcases hown.2 with ⟨oa', rfl, rfl, rfl, hsp⟩ | ⟨g, cap, cur, rfl, rfl, hg, hnc, hcm, hcs, htake⟩
      · have hx : xs = [] := List.eq_nil_of_length_eq_zero (by simpa using hown.1)
        subst hx
        have hgr := grown 0 (by omega)
        cases oa' with
        | none =>
          have hr := run_append_nil (P := P) w t ty e i z ht hi hz a m c news hl hnews (by omega) (by omega) (by have hb := hbytes; simp only [Nat.zero_add] at hb; omega)
          simp only [Nat.zero_add, List.nil_append, Array.empty_append] at hgr ⊢
          exact ⟨_, _, _, hr, hgr, hmod _, .inr ⟨_, rfl, Nat.le_refl _⟩, fun h => absurd h hm⟩
        | some b =>
          have hr := run_append_grow (P := P) w t ty e i z ht hi hz b 0 0 [] (by simp) (by simp) a m c news hl hnews (by omega) (by omega) (growslice_fits (by omega) hbytes)
          exact ⟨_, _, _, hr, hgr, hmod _, .inr ⟨_, rfl, Nat.le_refl _⟩, fun h => absurd h hm⟩
      · by_cases hroom : n + m ≤ cap
        · have hfit : n * i.size + news.length ≤ cur.size := by rw [hl, hcs, ← Nat.add_mul]; exact Nat.mul_le_mul_right _ hroom
          have hr := run_append_room (P := P) w t ty e i ht hi g n cap cur hg a m c news hl hnews h1 hroom hfit
          refine ⟨_, _, some g, hr, ⟨hlen, .inr ⟨g, cap, _, rfl, rfl, setRow_heap w g cur _ e _ hg, hroom, hcm, ?_, ?_⟩⟩, ⟨rfl, rfl, rfl, by simp, fun k _ hk => setRow_other w g k _ (fun e => hk (by simp [e]))⟩, .inl rfl, fun h => absurd h hm⟩
          · simp only [List.size_toArray, List.length_append, List.length_take, List.length_drop, Array.length_toList]
            omega
          · rw [htake, ← hlen]
            exact List.take_left
        · have holds : ∀ j u, xs[j]? = some u → w.cell? ((⟨g, 0, none⟩ : Addr).add j) = some u := by
            intro j u hu
            have hadd : (⟨g, 0, none⟩ : Addr).add j = ⟨g, j, none⟩ := by unfold Addr.add; split <;> simp_all
            rw [hadd, blk_cell hg, ← Array.getElem?_toList]
            rw [← htake, List.getElem?_take] at hu
            split at hu
            · exact hu
            · cases hu
          have hr := run_append_grow (P := P) w t ty e i z ht hi hz ⟨g, 0, none⟩ n cap xs hown.1 holds a m c news hl hnews (by omega) (by omega) (growslice_fits (by omega) hbytes)
          exact ⟨_, _, _, hr, grown cap (by omega), hmod _, .inr ⟨_, rfl, Nat.le_refl _⟩, fun h => absurd h hm⟩

theorem wp_append_S {o : Oper} {a : Act} {K : Act → World → Prop} {Q : Exit → Act → World → Prop} (s x : Operand) (t : TypeId)
    (ho : o.op = .call { callee := .builtin .append, args := #[s, x], argTypes := #[t, t] })
    (e : TypeId) (i : TypeInfo) (z : Value) (size bytes : Nat) (ht : P.underlying t = some (.slice e)) (hi : P.info? e = some i) (hz : i.zero = some z)
    (hsize : i.size = size) (hby : i.bytes = bytes) (hzs : z.cells.size = size) (hsz : 0 < size)
    (v : Value) (n : Nat) (xs : List Value) (ob : Option Nat) (hs : a.eval s = v) (hown : OwnS w e size v n xs ob)
    (xv : Value) (hxv : a.eval x = xv) (m : Nat) (news : List Value) (hx : Rd w size xv m news) (h1 : ∀ u ∈ news, u.oneCell' = true)
    (h63 : n + m ≤ maxLen) (hbytes : (n + m) * bytes ≤ 140737488355328)
    (h : ∀ v' w' ob', OwnS w' e size v' (n + m) (xs ++ news) ob' → Mod (fun k => ob = some k) w w' → (ob' = ob ∨ ∃ g, ob' = some g ∧ w.heap.size ≤ g) → (m = 0 → v' = v) → K (a.put o.dst v') w') : o.wp P a w K Q := by
  obtain ⟨v', w', ob', hr, h2, h3, h4, h5⟩ := run_append_S (P := P) w t o.type e i z size bytes ht hi hz hsize hby hzs hsz v n xs ob hown xv m news hx h1 h63 hbytes
  unfold Oper.wp execOp
  simp only [ho, resolve, invoke, builtin, Sem.run_bind, Sem.run_pure, Result.andThen_ok, List.map_toArray, List.map_cons, List.map_nil, hs, hxv, hr]
  exact h v' w' ob' h2 h3 h4 h5

theorem wpList_append_S {ops : Array Oper} {rest : List Oper} {o : Oper} {a : Act} {Q : Exit → Act → World → Prop} (hgd : o.guard = none) (s x : Operand) (t : TypeId)
    (ho : o.op = .call { callee := .builtin .append, args := #[s, x], argTypes := #[t, t] })
    (e : TypeId) (i : TypeInfo) (z : Value) (size bytes : Nat) (ht : P.underlying t = some (.slice e)) (hi : P.info? e = some i) (hz : i.zero = some z)
    (hsize : i.size = size) (hby : i.bytes = bytes) (hzs : z.cells.size = size) (hsz : 0 < size)
    (v : Value) (n : Nat) (xs : List Value) (ob : Option Nat) (hs : a.eval s = v) (hown : OwnS w e size v n xs ob)
    (xv : Value) (hxv : a.eval x = xv) (m : Nat) (news : List Value) (hx : Rd w size xv m news) (h1 : ∀ u ∈ news, u.oneCell' = true)
    (h63 : n + m ≤ maxLen) (hbytes : (n + m) * bytes ≤ 140737488355328)
    (h : ∀ v' w' ob', OwnS w' e size v' (n + m) (xs ++ news) ob' → Mod (fun k => ob = some k) w w' → (ob' = ob ∨ ∃ g, ob' = some g ∧ w.heap.size ≤ g) → (m = 0 → v' = v) → wpList P ops Q rest (a.put o.dst v') w') : wpList P ops Q (o :: rest) a w :=
  wpList_plain hgd fun _ hK => wp_append_S w s x t ho e i z size bytes ht hi hz hsize hby hzs hsz v n xs ob hs hown xv hxv m news hx h1 h63 hbytes fun v' w' ob' h2 h3 h4 h5 => hK _ _ (h v' w' ob' h2 h3 h4 h5)
end
end Go.Hg
