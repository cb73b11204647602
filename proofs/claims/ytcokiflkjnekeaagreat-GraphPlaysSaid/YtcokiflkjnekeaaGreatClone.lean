/- slices.Clone at nodes, edges and properties. Condition: at most 2^40 elements. -/
import Derived.Test.YtcokiflkjnekeaaGreatKeepC
import Derived.Lib.SliceRun
namespace Go.Hg
open Go.RowKit Go.Proofs

theorem flatten_len {α : Type} : ∀ (rows : List (List α)) (sz : Nat), (∀ r ∈ rows, r.length = sz) → rows.flatten.length = rows.length * sz
  | [], sz, _ => by simp
  | r :: rows, sz, h => by
    rw [List.flatten_cons, List.length_append, flatten_len rows sz (fun r hr => h r (by simp [hr])), h r (by simp), List.length_cons, Nat.succ_mul]; omega
theorem SlR.rd {α : Type} {S : Nat → Prop} {w : World} {sz : Nat} {R : α → List Value → Prop} {v : Value} {l : List α} (h : SlR S w sz R v l) (hsz : 0 < sz) (hR : ∀ x r, R x r → r.length = sz) :
    ∃ rows : List (List Value), rows.length = l.length ∧ (∀ (k : Nat) x r, l[k]? = some x → rows[k]? = some r → R x r ∧ r.length = sz) ∧ Rd w sz v l.length rows.flatten := by
  obtain ⟨a, cap, rows, hv, hl, hc, hr, hR1, h⟩ := h
  have hlen : ∀ r ∈ rows, r.length = sz := fun r hr' => by
    obtain ⟨k, hk, rfl⟩ := List.mem_iff_getElem.1 hr'
    exact hR _ _ (hR1 k l[k] _ (List.getElem?_eq_getElem (by omega)) (List.getElem?_eq_getElem hk))
  have hfl : rows.flatten.length = l.length * sz := by rw [flatten_len rows sz hlen, hr]
  refine ⟨rows, hr, fun k x r a b => ⟨hR1 k x r a b, hlen r (List.mem_of_getElem? b)⟩, hfl, a, cap, hv, ?_⟩
  by_cases h0 : l.length = 0
  · exact .inl h0
  · obtain ⟨b, off, ha, hS, hb, hcell⟩ := h (by omega)
    refine .inr ⟨_, ha, fun j u hu => ?_⟩
    have hj : j < l.length * sz := by rw [← hfl]; exact (List.getElem?_eq_some_iff.1 hu).1
    have hk : j / sz < rows.length := by rw [hr]; exact (Nat.div_lt_iff_lt_mul hsz).2 hj
    have hrow : rows[j / sz]? = some rows[j / sz] := List.getElem?_eq_getElem hk
    have hrl : rows[j / sz].length = sz := hlen _ (List.getElem_mem hk)
    have hm : j % sz < sz := Nat.mod_lt _ hsz
    have hc1 : rows[j / sz][j % sz]? = some (rows[j / sz][j % sz]'(by rw [hrl]; exact hm)) := List.getElem?_eq_getElem _
    have hf := flatten_at rows sz (j / sz) (j % sz) _ _ hlen hrow hc1
    have e : j / sz * sz + j % sz = j := by rw [Nat.mul_comm]; exact Nat.div_add_mod j sz
    rw [e, hu] at hf
    have hcc := hcell _ _ (j % sz) _ hrow hc1
    rw [Nat.add_assoc, e] at hcc
    rw [hf]
    unfold Addr.add
    split
    · rename_i hz; subst hz; simpa using hcc
    · exact hcc
theorem one_flat {α : Type} {R : α → List Value → Prop} {l : List α} {rows : List (List Value)} {sz : Nat} (hl : rows.length = l.length) (h : ∀ (k : Nat) x r, l[k]? = some x → rows[k]? = some r → R x r ∧ r.length = sz)
    (h1 : ∀ x r, R x r → ∀ u ∈ r, u.oneCell' = true) : ∀ u ∈ rows.flatten, u.oneCell' = true := by
  intro u hu
  obtain ⟨r, hr, hur⟩ := List.mem_flatten.1 hu
  obtain ⟨k, hk, rfl⟩ := List.mem_iff_getElem.1 hr
  exact h1 _ _ (h k l[k] _ (List.getElem?_eq_getElem (by omega)) (List.getElem?_eq_getElem hk)).1 u hur
theorem RNode.one {S : Nat → Prop} {w : World} {x : PNode} {r : List Value} (h : RNode S w x r) : ∀ u ∈ r, u.oneCell' = true := by
  obtain ⟨pv, rfl, hp⟩ := h
  obtain ⟨_, _, rfl⟩ := hp.isSlice
  intro u hu; simp only [List.mem_cons, List.not_mem_nil, or_false] at hu; rcases hu with rfl | rfl | rfl <;> rfl
theorem REdge.one {S : Nat → Prop} {w : World} {x : PEdge} {r : List Value} (h : REdge S w x r) : ∀ u ∈ r, u.oneCell' = true := by
  obtain ⟨pv, rfl, hp⟩ := h
  obtain ⟨_, _, rfl⟩ := hp.isSlice
  intro u hu; simp only [List.mem_cons, List.not_mem_nil, or_false] at hu; rcases hu with rfl | rfl | rfl | rfl | rfl <;> rfl
theorem RProp.one {x : PProp} {r : List Value} (h : RProp x r) : ∀ u ∈ r, u.oneCell' = true := by
  unfold RProp at h; subst h
  intro u hu; simp only [PProp.cells, List.mem_cons, List.not_mem_nil, or_false] at hu; rcases hu with rfl | rfl | rfl | rfl <;> rfl

set_option maxRecDepth 100000 in
set_option maxHeartbeats 1000000 in
theorem cloneProp (S : Nat → Prop) (v : Value) (l : List PProp) (w : World) (hl : SlR S w 4 (RProp) v l) (hb : l.length ≤ 1099511627776) :
    Calls Tryz.prog 46 #[v] w fun e w' => ∃ v' ob, e = .returned v' ∧ OwnL w' 101 4 (RProp) v' l ob ∧ Grow w w' ∧ (∀ b, ob = some b → w.heap.size ≤ b) := by
  have hnl := fun (w : World) a n c => Lib.run_eql_slice_nil (P := Tryz.prog) w 57 101 a n c 0 0 Tryz.underlying57
  obtain ⟨i0, hi, hz0, hz1, hz2⟩ := info_parts infoProp
  obtain ⟨rows, h1, h2, h3⟩ := SlR.rd hl (by decide) (fun x r h => by unfold RProp at h; rw [h]; rfl)
  have hone := one_flat h1 h2 (fun x r h => h.one)
  obtain ⟨oa, cap, rfl, hle, hcm, hA⟩ := SlR.open hl
  cases oa with
  | none =>
    have h0 : l = [] := by
      cases l with
      | nil => rfl
      | cons x t => obtain ⟨_, _, _, h, _⟩ := hA 0 x rfl; cases h
    subst h0
    clear hA hl h1 h2 h3 hone hb hle hcm
    go_enter Tryz.func46, Tryz.ntmps46
    go_wp2
    go_ret
    exact ⟨_, none, rfl, OwnL.nil _ _ _ _, Grow.rfl' w, by simp⟩
  | some a =>
    have hO := OwnS.lit w #[] 101 4 0 (by simp [maxLen]) rfl
    have hg : Grow w (w.alloc (.cells #[] 101)) := (Grow.rfl' w).allocd _
    have HO := Lib.hid hO; have HG := Lib.hid hg; have H1 := Lib.hid h1; have H2 := Lib.hid h2; have H3 := Lib.hid h3; have HN := Lib.hid hone; have HB := Lib.hid hb
    clear hO hg h1 h2 h3 hone hb hA hl hle hcm
    go_enter Tryz.func46, Tryz.ntmps46
    go_wp2_with (at_builtin; go_must (refine wpList_append_S _ rfl (.tmp 5) (.tmp 6) 57 rfl 101 i0 _ 4 48 Tryz.underlying57 hi hz0 hz1 hz2 rfl (by decide) (.slice (some ⟨w.heap.size, 0, none⟩) 0 0) 0 [] (some w.heap.size) rfl HO.out (.slice (some a) l.length cap) rfl l.length rows.flatten (H3.out.grow HG.out) HN.out (by have := HB.out; unfold maxLen; omega) (by have := HB.out; omega) ?_))
    intro v' w2 ob' hown hmod hob _
    have hg2 : Grow w w2 := HG.out.modd hmod (fun b hb => by first | (simp only [Option.some.injEq] at hb; omega) | omega)
    have hfin : OwnL w2 101 4 (RProp) v' l ob' := ⟨rows, H1.out, fun k x r ha hb => ⟨(H2.out k x r ha hb).1, (H2.out k x r ha hb).2⟩, by simpa using hown⟩
    have hnew : ∀ b, ob' = some b → w.heap.size ≤ b := fun b hb => by
      rcases hob with h | ⟨g, h, hge⟩
      · rw [h] at hb; cases hb; exact Nat.le_refl _
      · rw [h] at hb; cases hb; first | omega | (simp at hge; omega)
    have HF := Lib.hid hfin; have HG2 := Lib.hid hg2; have HNEW := Lib.hid hnew
    clear hown hmod hob hg2 hfin hnew
    go_wp2_with fail
    go_ret
    exact ⟨_, ob', rfl, HF.out, HG2.out, HNEW.out⟩

set_option maxRecDepth 100000 in
set_option maxHeartbeats 1000000 in
theorem cloneNode (S : Nat → Prop) (v : Value) (l : List PNode) (w : World) (hl : SlR S w 3 (RNode S w) v l) (hb : l.length ≤ 1099511627776) :
    Calls Tryz.prog 64 #[v] w fun e w' => ∃ v' ob, e = .returned v' ∧ OwnL w' 59 3 (RNode S w') v' l ob ∧ Grow w w' ∧ (∀ b, ob = some b → w.heap.size ≤ b) := by
  have hnl := fun (w : World) a n c => Lib.run_eql_slice_nil (P := Tryz.prog) w 65 59 a n c 0 0 Tryz.underlying65
  obtain ⟨i0, hi, hz0, hz1, hz2⟩ := info_parts infoNode
  obtain ⟨rows, h1, h2, h3⟩ := SlR.rd hl (by decide) (fun x r h => by obtain ⟨pv, rfl, _⟩ := h; rfl)
  have hone := one_flat h1 h2 (fun x r h => h.one)
  obtain ⟨oa, cap, rfl, hle, hcm, hA⟩ := SlR.open hl
  cases oa with
  | none =>
    have h0 : l = [] := by
      cases l with
      | nil => rfl
      | cons x t => obtain ⟨_, _, _, h, _⟩ := hA 0 x rfl; cases h
    subst h0
    clear hA hl h1 h2 h3 hone hb hle hcm
    go_enter Tryz.func64, Tryz.ntmps64
    go_wp2
    go_ret
    exact ⟨_, none, rfl, OwnL.nil _ _ _ _, Grow.rfl' w, by simp⟩
  | some a =>
    have hO := OwnS.lit w #[] 59 3 0 (by simp [maxLen]) rfl
    have hg : Grow w (w.alloc (.cells #[] 59)) := (Grow.rfl' w).allocd _
    have HO := Lib.hid hO; have HG := Lib.hid hg; have H1 := Lib.hid h1; have H2 := Lib.hid h2; have H3 := Lib.hid h3; have HN := Lib.hid hone; have HB := Lib.hid hb
    clear hO hg h1 h2 h3 hone hb hA hl hle hcm
    go_enter Tryz.func64, Tryz.ntmps64
    go_wp2_with (at_builtin; go_must (refine wpList_append_S _ rfl (.tmp 5) (.tmp 6) 65 rfl 59 i0 _ 3 48 Tryz.underlying65 hi hz0 hz1 hz2 rfl (by decide) (.slice (some ⟨w.heap.size, 0, none⟩) 0 0) 0 [] (some w.heap.size) rfl HO.out (.slice (some a) l.length cap) rfl l.length rows.flatten (H3.out.grow HG.out) HN.out (by have := HB.out; unfold maxLen; omega) (by have := HB.out; omega) ?_))
    intro v' w2 ob' hown hmod hob _
    have hg2 : Grow w w2 := HG.out.modd hmod (fun b hb => by first | (simp only [Option.some.injEq] at hb; omega) | omega)
    have hfin : OwnL w2 59 3 (RNode S w2) v' l ob' := ⟨rows, H1.out, fun k x r ha hb => ⟨(H2.out k x r ha hb).1.mod (Mod.of_grow (F := fun _ => False) hg2) (fun _ _ => id), (H2.out k x r ha hb).2⟩, by simpa using hown⟩
    have hnew : ∀ b, ob' = some b → w.heap.size ≤ b := fun b hb => by
      rcases hob with h | ⟨g, h, hge⟩
      · rw [h] at hb; cases hb; exact Nat.le_refl _
      · rw [h] at hb; cases hb; first | omega | (simp at hge; omega)
    have HF := Lib.hid hfin; have HG2 := Lib.hid hg2; have HNEW := Lib.hid hnew
    clear hown hmod hob hg2 hfin hnew
    go_wp2_with fail
    go_ret
    exact ⟨_, ob', rfl, HF.out, HG2.out, HNEW.out⟩

set_option maxRecDepth 100000 in
set_option maxHeartbeats 1000000 in
theorem cloneEdge (S : Nat → Prop) (v : Value) (l : List PEdge) (w : World) (hl : SlR S w 5 (REdge S w) v l) (hb : l.length ≤ 1099511627776) :
    Calls Tryz.prog 65 #[v] w fun e w' => ∃ v' ob, e = .returned v' ∧ OwnL w' 79 5 (REdge S w') v' l ob ∧ Grow w w' ∧ (∀ b, ob = some b → w.heap.size ≤ b) := by
  have hnl := fun (w : World) a n c => Lib.run_eql_slice_nil (P := Tryz.prog) w 66 79 a n c 0 0 Tryz.underlying66
  obtain ⟨i0, hi, hz0, hz1, hz2⟩ := info_parts infoEdge
  obtain ⟨rows, h1, h2, h3⟩ := SlR.rd hl (by decide) (fun x r h => by obtain ⟨pv, rfl, _⟩ := h; rfl)
  have hone := one_flat h1 h2 (fun x r h => h.one)
  obtain ⟨oa, cap, rfl, hle, hcm, hA⟩ := SlR.open hl
  cases oa with
  | none =>
    have h0 : l = [] := by
      cases l with
      | nil => rfl
      | cons x t => obtain ⟨_, _, _, h, _⟩ := hA 0 x rfl; cases h
    subst h0
    clear hA hl h1 h2 h3 hone hb hle hcm
    go_enter Tryz.func65, Tryz.ntmps65
    go_wp2
    go_ret
    exact ⟨_, none, rfl, OwnL.nil _ _ _ _, Grow.rfl' w, by simp⟩
  | some a =>
    have hO := OwnS.lit w #[] 79 5 0 (by simp [maxLen]) rfl
    have hg : Grow w (w.alloc (.cells #[] 79)) := (Grow.rfl' w).allocd _
    have HO := Lib.hid hO; have HG := Lib.hid hg; have H1 := Lib.hid h1; have H2 := Lib.hid h2; have H3 := Lib.hid h3; have HN := Lib.hid hone; have HB := Lib.hid hb
    clear hO hg h1 h2 h3 hone hb hA hl hle hcm
    go_enter Tryz.func65, Tryz.ntmps65
    go_wp2_with (at_builtin; go_must (refine wpList_append_S _ rfl (.tmp 5) (.tmp 6) 66 rfl 79 i0 _ 5 64 Tryz.underlying66 hi hz0 hz1 hz2 rfl (by decide) (.slice (some ⟨w.heap.size, 0, none⟩) 0 0) 0 [] (some w.heap.size) rfl HO.out (.slice (some a) l.length cap) rfl l.length rows.flatten (H3.out.grow HG.out) HN.out (by have := HB.out; unfold maxLen; omega) (by have := HB.out; omega) ?_))
    intro v' w2 ob' hown hmod hob _
    have hg2 : Grow w w2 := HG.out.modd hmod (fun b hb => by first | (simp only [Option.some.injEq] at hb; omega) | omega)
    have hfin : OwnL w2 79 5 (REdge S w2) v' l ob' := ⟨rows, H1.out, fun k x r ha hb => ⟨(H2.out k x r ha hb).1.mod (Mod.of_grow (F := fun _ => False) hg2) (fun _ _ => id), (H2.out k x r ha hb).2⟩, by simpa using hown⟩
    have hnew : ∀ b, ob' = some b → w.heap.size ≤ b := fun b hb => by
      rcases hob with h | ⟨g, h, hge⟩
      · rw [h] at hb; cases hb; exact Nat.le_refl _
      · rw [h] at hb; cases hb; first | omega | (simp at hge; omega)
    have HF := Lib.hid hfin; have HG2 := Lib.hid hg2; have HNEW := Lib.hid hnew
    clear hown hmod hob hg2 hfin hnew
    go_wp2_with fail
    go_ret
    exact ⟨_, ob', rfl, HF.out, HG2.out, HNEW.out⟩

end Go.Hg
