/- rule.Keeps; rule.First: the least Id of the rules that are enabled and not kept; check.first, Whole; check.doubles' closure: a node's value, and whether it counts; A row of numbers of one's own, made since a block: the law of append; check.doubles: the nodes whose value another one has; check.Broken: without a form, Unique, Exists. Conditions: those that each theorem names. -/
import Derived.Test.YtanijffgogpmdaaGreatChkG
import Derived.Test.YtanijffgogpmdaaGreatChkB
import Derived.Test.YtanijffgogpmdaaGreatChkE
namespace Go.Hg
open Go.RowKit Go.Proofs MapKept

theorem boxes3k (w : World) (o1 o2 o3 : Obj) (w' : World) (hg : Grow (((w.alloc o1).alloc o2).alloc o3) w') : w'.heap[w.heap.size]? = some o1 ∧ w'.heap[w.heap.size + 1]? = some o2 ∧ w'.heap[w.heap.size + 2]? = some o3 := by
  have h1 : (w.alloc o1).heap[w.heap.size]? = some o1 := heap_alloc_new w o1
  have h2 : ((w.alloc o1).alloc o2).heap[w.heap.size + 1]? = some o2 := by simpa using heap_alloc_new (w.alloc o1) o2
  have h3 : (((w.alloc o1).alloc o2).alloc o3).heap[w.heap.size + 2]? = some o3 := by simpa using heap_alloc_new ((w.alloc o1).alloc o2) o3
  have g1 : Grow (w.alloc o1) w' := (((Grow.rfl' (w.alloc o1)).allocd o2).allocd o3).step hg
  have g2 : Grow ((w.alloc o1).alloc o2) w' := ((Grow.rfl' ((w.alloc o1).alloc o2)).allocd o3).step hg
  exact ⟨(g1.heapEq (blk_lt h1)).trans h1, (g2.heapEq (blk_lt h2)).trans h2, (hg.heapEq (blk_lt h3)).trans h3⟩
theorem run_look_hit1 {P : Program} (W : World) (r : Nat) (hr : W.heap.size = r) {mty kt et : TypeId} (hm : P.underlying mty = some (.map kt et)) (hk : P.underlying kt = some (.int .i64)) (es : Array MapEntry) (c : Nat) (k : Int) (i : Nat) (v : Value) (hf : Instr.findNow (.int .i64) (.int .i64 k) es.toList 0 = some (some (i, v))) :
    (Instr.lookup mty (.map (some r)) (.int .i64 k) false).run P (W.alloc (.map es c)) = .ok v (W.alloc (.map es c)) := by
  subst hr
  have hb : (W.alloc (.map es c)).heap[W.heap.size]? = some (.map es c) := heap_alloc_new W _
  have hc : (Instr.checkKey es.isEmpty 10000 kt (.int .i64 k)).run P (W.alloc (.map es c)) = .ok () (W.alloc (.map es c)) := MapKept.run_checkKey (k := .int .i64 k) hk (by simp [MapKept.IsKey]) es.isEmpty 9999
  have hf' := MapKept.run_findKey (P := P) (w := W.alloc (.map es c)) hk hf
  simp [Instr.lookup, run_underlying hm, MapKept.run_getObj_map hb, Result.andThen]
  rw [hc]
  simp [hf']

set_option maxRecDepth 100000 in
set_option maxHeartbeats 1000000 in
/-- rule 'unique' -/
theorem keepsUniq (nodes : List PNode) (nv : Value) (nb rb : Nat) (r : PRule) (w : World) (S : Nat → Prop) (hn : NodesR S w nv nodes) (hnb : OneBox w nb nv) (hr : RuleBox w rb r) :
    Calls Tryz.prog 61 #[.pointer (some ⟨nb, 0, none⟩), .pointer (some ⟨rb, 0, none⟩)] w fun e w' => e = .returned (.bool (uniqR nodes r)) ∧ Grow w w' := by
  have HN := Lib.hid hn
  obtain ⟨hnl, d0⟩ := hnb.cell
  obtain ⟨hrl, c1, c2, c3, c4, c5, c6, c7, c0⟩ := hr.cells
  obtain ⟨_, _, rfl, _⟩ := SlR.open hn
  clear hn hr hnb
  go_enter Tryz.func61, Tryz.ntmps61
  go_wp2_with fail
  refine (ruleUnique nodes _ r _ S HN.out).mono ?_
  rintro e w2 ⟨rfl, hw2⟩
  obtain ⟨b, hb⟩ : ∃ b, uniqR nodes r = b := ⟨_, rfl⟩
  have HX := Lib.hid hb
  rw [hb]
  clear hb
  go_wp2
  go_ret
  exact ⟨by rw [HX.out]; rfl, hw2⟩
theorem entK2 : ∀ args w, (callFunc 61 args).run Tryz.prog w = .ok (.enter 61 args) w := fun args w => enterF Tryz.func61 (by kernel_rfl) rfl args w
theorem entK3 : ∀ args w, (callFunc 63 args).run Tryz.prog w = .ok (.enter 63 args) w := fun args w => enterF Tryz.func63 (by kernel_rfl) rfl args w
theorem entK4 : ∀ args w, (callFunc 66 args).run Tryz.prog w = .ok (.enter 66 args) w := fun args w => enterF Tryz.func66 (by kernel_rfl) rfl args w
theorem entK5 : ∀ args w, (callFunc 70 args).run Tryz.prog w = .ok (.enter 70 args) w := fun args w => enterF Tryz.func70 (by kernel_rfl) rfl args w

set_option maxRecDepth 100000 in
set_option maxHeartbeats 4000000 in
theorem ruleKeeps0 (nodes : List PNode) (edges : List PEdge) (nv ev : Value) (r : PRule) (w : World) (S : Nat → Prop) (hn : NodesR S w nv nodes) (he : EdgesR S w ev edges) (h64 : ∀ e ∈ edges, (Lit.int .i64 e.from_).wf = true) (hf : formR r = false) :
    Calls Tryz.prog 19 #[nv, ev, r.args] w fun e w' => e = .returned (.bool (keepR nodes edges r)) ∧ Grow w w' := by
  have HN := Lib.hid hn; have HE := Lib.hid he; have H64 := Lib.hid h64; have HF := Lib.hid hf
  obtain ⟨_, _, rfl, _⟩ := SlR.open hn
  obtain ⟨_, _, rfl, _⟩ := SlR.open he
  have HG := Lib.hid (show ∀ o1 o2 o3, Grow w (((w.alloc o1).alloc o2).alloc o3) from fun o1 o2 o3 => (((Grow.rfl' w).allocd o1).allocd o2).allocd o3)
  have HB := Lib.hid (boxes3k w)
  have hmm := @run_makeMap Tryz.prog
  clear hn he h64 hf
  go_enter Tryz.func19, Tryz.ntmps19
  go_wp2_with fail
  refine (ruleForm r _).mono ?_
  rintro e w2 ⟨rfl, hw2⟩
  rw [HF.out]
  obtain ⟨b1, b2, b3⟩ := HB.out _ _ _ w2 hw2
  have HG2 := Lib.hid ((HG.out _ _ _).step hw2)
  have HRB := Lib.hid (show RuleBox w2 (w.heap.size + 1 + 1) r from b3)
  have HNB := Lib.hid (show OneBox w2 w.heap.size _ from ⟨_, b1⟩)
  have HEB := Lib.hid (show OneBox w2 (w.heap.size + 1) _ from ⟨_, b2⟩)
  clear b1 b2 b3 hw2
  generalize w.heap.size + 1 + 1 = rb at *
  go_wp2
  go_ret
  exact ⟨by unfold keepR; rw [HF.out]; rfl, HG2.out⟩

set_option maxRecDepth 100000 in
set_option maxHeartbeats 4000000 in
theorem ruleKeeps1 (nodes : List PNode) (edges : List PEdge) (nv ev : Value) (r : PRule) (w : World) (S : Nat → Prop) (hn : NodesR S w nv nodes) (he : EdgesR S w ev edges) (h64 : ∀ e ∈ edges, (Lit.int .i64 e.from_).wf = true) (hf : formR r = true) (hk : r.kind = 1) :
    Calls Tryz.prog 19 #[nv, ev, r.args] w fun e w' => e = .returned (.bool (keepR nodes edges r)) ∧ Grow w w' := by
  have HN := Lib.hid hn; have HE := Lib.hid he; have H64 := Lib.hid h64; have HF := Lib.hid hf
  obtain ⟨_, _, rfl, _⟩ := SlR.open hn
  obtain ⟨_, _, rfl, _⟩ := SlR.open he
  have HG := Lib.hid (show ∀ o1 o2 o3, Grow w (((w.alloc o1).alloc o2).alloc o3) from fun o1 o2 o3 => (((Grow.rfl' w).allocd o1).allocd o2).allocd o3)
  have HB := Lib.hid (boxes3k w)
  have hmm := @run_makeMap Tryz.prog
  have HK := Lib.hid hk
  clear hn he h64 hf hk
  go_enter Tryz.func19, Tryz.ntmps19
  go_wp2_with fail
  refine (ruleForm r _).mono ?_
  rintro e w2 ⟨rfl, hw2⟩
  rw [HF.out]
  obtain ⟨b1, b2, b3⟩ := HB.out _ _ _ w2 hw2
  have HG2 := Lib.hid ((HG.out _ _ _).step hw2)
  have HRB := Lib.hid (show RuleBox w2 (w.heap.size + 1 + 1) r from b3)
  have HNB := Lib.hid (show OneBox w2 w.heap.size _ from ⟨_, b1⟩)
  have HEB := Lib.hid (show OneBox w2 (w.heap.size + 1) _ from ⟨_, b2⟩)
  clear b1 b2 b3 hw2
  generalize w.heap.size + 1 + 1 = rb at *
  have hsz : (w2.alloc (.cells #[ofV (rb)] 109)).heap.size = w2.heap.size + 1 := by simp
  have hT : Tryz.prog.underlying 117 = some (.map 3 30) := Tryz.underlying117
  have hI : Tryz.prog.underlying 3 = some (.int .i64) := Tryz.underlying3
  have i1 := run_ins _ _ hsz hT hI #[] 0 1 (.func (.func 61) #[] #[.pointer (some ⟨w.heap.size, 0, none⟩), .pointer (some ⟨rb, 0, none⟩)]) rfl
  have i2 := run_ins _ _ hsz hT hI #[{ key := .int .i64 1, val := (.func (.func 61) #[] #[.pointer (some ⟨w.heap.size, 0, none⟩), .pointer (some ⟨rb, 0, none⟩)]), born := 0 }] 1 2 (.func (.func 63) #[] #[.pointer (some ⟨w.heap.size, 0, none⟩), .pointer (some ⟨rb, 0, none⟩), .pointer (some ⟨w2.heap.size, 0, none⟩)]) rfl
  have i3 := run_ins _ _ hsz hT hI #[{ key := .int .i64 1, val := (.func (.func 61) #[] #[.pointer (some ⟨w.heap.size, 0, none⟩), .pointer (some ⟨rb, 0, none⟩)]), born := 0 }, { key := .int .i64 2, val := (.func (.func 63) #[] #[.pointer (some ⟨w.heap.size, 0, none⟩), .pointer (some ⟨rb, 0, none⟩), .pointer (some ⟨w2.heap.size, 0, none⟩)]), born := 1 }] 2 3 (.func (.func 66) #[] #[.pointer (some ⟨w.heap.size + 1, 0, none⟩), .pointer (some ⟨w.heap.size, 0, none⟩), .pointer (some ⟨w2.heap.size, 0, none⟩), .pointer (some ⟨rb, 0, none⟩)]) rfl
  have i4 := run_ins _ _ hsz hT hI #[{ key := .int .i64 1, val := (.func (.func 61) #[] #[.pointer (some ⟨w.heap.size, 0, none⟩), .pointer (some ⟨rb, 0, none⟩)]), born := 0 }, { key := .int .i64 2, val := (.func (.func 63) #[] #[.pointer (some ⟨w.heap.size, 0, none⟩), .pointer (some ⟨rb, 0, none⟩), .pointer (some ⟨w2.heap.size, 0, none⟩)]), born := 1 }, { key := .int .i64 3, val := (.func (.func 66) #[] #[.pointer (some ⟨w.heap.size + 1, 0, none⟩), .pointer (some ⟨w.heap.size, 0, none⟩), .pointer (some ⟨w2.heap.size, 0, none⟩), .pointer (some ⟨rb, 0, none⟩)]), born := 2 }] 3 4 (.func (.func 70) #[] #[.pointer (some ⟨w.heap.size + 1, 0, none⟩), .pointer (some ⟨w2.heap.size, 0, none⟩), .pointer (some ⟨rb, 0, none⟩)]) rfl
  simp only [List.push_toArray, List.cons_append, List.nil_append, Nat.reduceAdd] at i1 i2 i3 i4
  have lk := run_look_hit1 _ _ hsz hT hI #[{ key := .int .i64 1, val := (.func (.func 61) #[] #[.pointer (some ⟨w.heap.size, 0, none⟩), .pointer (some ⟨rb, 0, none⟩)]), born := 0 }, { key := .int .i64 2, val := (.func (.func 63) #[] #[.pointer (some ⟨w.heap.size, 0, none⟩), .pointer (some ⟨rb, 0, none⟩), .pointer (some ⟨w2.heap.size, 0, none⟩)]), born := 1 }, { key := .int .i64 3, val := (.func (.func 66) #[] #[.pointer (some ⟨w.heap.size + 1, 0, none⟩), .pointer (some ⟨w.heap.size, 0, none⟩), .pointer (some ⟨w2.heap.size, 0, none⟩), .pointer (some ⟨rb, 0, none⟩)]), born := 2 }, { key := .int .i64 4, val := (.func (.func 70) #[] #[.pointer (some ⟨w.heap.size + 1, 0, none⟩), .pointer (some ⟨w2.heap.size, 0, none⟩), .pointer (some ⟨rb, 0, none⟩)]), born := 3 }] 4 1 0 (.func (.func 61) #[] #[.pointer (some ⟨w.heap.size, 0, none⟩), .pointer (some ⟨rb, 0, none⟩)]) rfl
  have HG3 := Lib.hid (show ∀ o1 o2, Grow w2 ((w2.alloc o1).alloc o2) from fun o1 o2 => ((Grow.rfl' w2).allocd o1).allocd o2)
  have HG4 := Lib.hid (show ∀ o1 o2, Grow w ((w2.alloc o1).alloc o2) from fun o1 o2 => HG2.out.step (HG3.out o1 o2))
  have HFB := Lib.hid (show ∀ o2, OneBox ((w2.alloc (.cells #[ofV (rb)] 109)).alloc o2) w2.heap.size (ofV (rb)) from fun o2 => ⟨_, by
    rw [((Grow.rfl' (w2.alloc (.cells #[ofV (rb)] 109))).allocd o2).heapEq (by simp)]
    exact heap_alloc_new w2 _⟩)
  obtain ⟨hrl, -, c2, c3, c4, c5, c6, c7, c0⟩ := HRB.out.cells
  have c1 : w2.cell? ⟨rb, 1, none⟩ = some (.int .i64 1) := by rw [HRB.out.cells.2.1, HK.out]
  have entK2 := entK2
  clear hsz c2 c3 c4 c5 c6 c7 c0
  go_wp2_with fail
  refine (keepsUniq nodes _ _ _ r _ S (HN.out.grow (HG4.out _ _)) (HNB.out.grow (HG3.out _ _)) (HRB.out.grow (HG3.out _ _))).mono ?_
  rintro e w3 ⟨rfl, hw3⟩
  obtain ⟨b, hb⟩ : ∃ b, (uniqR nodes r) = b := ⟨_, rfl⟩
  have HX := Lib.hid (show keepR nodes edges r = b by unfold keepR holdR; rw [HF.out, HK.out]; simpa using hb)
  rw [hb]
  clear hb
  go_wp2
  go_ret
  exact ⟨by rw [HX.out]; rfl, (HG4.out _ _).step hw3⟩

set_option maxRecDepth 100000 in
set_option maxHeartbeats 4000000 in
theorem ruleKeeps2 (nodes : List PNode) (edges : List PEdge) (nv ev : Value) (r : PRule) (w : World) (S : Nat → Prop) (hn : NodesR S w nv nodes) (he : EdgesR S w ev edges) (h64 : ∀ e ∈ edges, (Lit.int .i64 e.from_).wf = true) (hf : formR r = true) (hk : r.kind = 2) :
    Calls Tryz.prog 19 #[nv, ev, r.args] w fun e w' => e = .returned (.bool (keepR nodes edges r)) ∧ Grow w w' := by
  have HN := Lib.hid hn; have HE := Lib.hid he; have H64 := Lib.hid h64; have HF := Lib.hid hf
  obtain ⟨_, _, rfl, _⟩ := SlR.open hn
  obtain ⟨_, _, rfl, _⟩ := SlR.open he
  have HG := Lib.hid (show ∀ o1 o2 o3, Grow w (((w.alloc o1).alloc o2).alloc o3) from fun o1 o2 o3 => (((Grow.rfl' w).allocd o1).allocd o2).allocd o3)
  have HB := Lib.hid (boxes3k w)
  have hmm := @run_makeMap Tryz.prog
  have HK := Lib.hid hk
  clear hn he h64 hf hk
  go_enter Tryz.func19, Tryz.ntmps19
  go_wp2_with fail
  refine (ruleForm r _).mono ?_
  rintro e w2 ⟨rfl, hw2⟩
  rw [HF.out]
  obtain ⟨b1, b2, b3⟩ := HB.out _ _ _ w2 hw2
  have HG2 := Lib.hid ((HG.out _ _ _).step hw2)
  have HRB := Lib.hid (show RuleBox w2 (w.heap.size + 1 + 1) r from b3)
  have HNB := Lib.hid (show OneBox w2 w.heap.size _ from ⟨_, b1⟩)
  have HEB := Lib.hid (show OneBox w2 (w.heap.size + 1) _ from ⟨_, b2⟩)
  clear b1 b2 b3 hw2
  generalize w.heap.size + 1 + 1 = rb at *
  have hsz : (w2.alloc (.cells #[ofV (rb)] 109)).heap.size = w2.heap.size + 1 := by simp
  have hT : Tryz.prog.underlying 117 = some (.map 3 30) := Tryz.underlying117
  have hI : Tryz.prog.underlying 3 = some (.int .i64) := Tryz.underlying3
  have i1 := run_ins _ _ hsz hT hI #[] 0 1 (.func (.func 61) #[] #[.pointer (some ⟨w.heap.size, 0, none⟩), .pointer (some ⟨rb, 0, none⟩)]) rfl
  have i2 := run_ins _ _ hsz hT hI #[{ key := .int .i64 1, val := (.func (.func 61) #[] #[.pointer (some ⟨w.heap.size, 0, none⟩), .pointer (some ⟨rb, 0, none⟩)]), born := 0 }] 1 2 (.func (.func 63) #[] #[.pointer (some ⟨w.heap.size, 0, none⟩), .pointer (some ⟨rb, 0, none⟩), .pointer (some ⟨w2.heap.size, 0, none⟩)]) rfl
  have i3 := run_ins _ _ hsz hT hI #[{ key := .int .i64 1, val := (.func (.func 61) #[] #[.pointer (some ⟨w.heap.size, 0, none⟩), .pointer (some ⟨rb, 0, none⟩)]), born := 0 }, { key := .int .i64 2, val := (.func (.func 63) #[] #[.pointer (some ⟨w.heap.size, 0, none⟩), .pointer (some ⟨rb, 0, none⟩), .pointer (some ⟨w2.heap.size, 0, none⟩)]), born := 1 }] 2 3 (.func (.func 66) #[] #[.pointer (some ⟨w.heap.size + 1, 0, none⟩), .pointer (some ⟨w.heap.size, 0, none⟩), .pointer (some ⟨w2.heap.size, 0, none⟩), .pointer (some ⟨rb, 0, none⟩)]) rfl
  have i4 := run_ins _ _ hsz hT hI #[{ key := .int .i64 1, val := (.func (.func 61) #[] #[.pointer (some ⟨w.heap.size, 0, none⟩), .pointer (some ⟨rb, 0, none⟩)]), born := 0 }, { key := .int .i64 2, val := (.func (.func 63) #[] #[.pointer (some ⟨w.heap.size, 0, none⟩), .pointer (some ⟨rb, 0, none⟩), .pointer (some ⟨w2.heap.size, 0, none⟩)]), born := 1 }, { key := .int .i64 3, val := (.func (.func 66) #[] #[.pointer (some ⟨w.heap.size + 1, 0, none⟩), .pointer (some ⟨w.heap.size, 0, none⟩), .pointer (some ⟨w2.heap.size, 0, none⟩), .pointer (some ⟨rb, 0, none⟩)]), born := 2 }] 3 4 (.func (.func 70) #[] #[.pointer (some ⟨w.heap.size + 1, 0, none⟩), .pointer (some ⟨w2.heap.size, 0, none⟩), .pointer (some ⟨rb, 0, none⟩)]) rfl
  simp only [List.push_toArray, List.cons_append, List.nil_append, Nat.reduceAdd] at i1 i2 i3 i4
  have lk := run_look_hit1 _ _ hsz hT hI #[{ key := .int .i64 1, val := (.func (.func 61) #[] #[.pointer (some ⟨w.heap.size, 0, none⟩), .pointer (some ⟨rb, 0, none⟩)]), born := 0 }, { key := .int .i64 2, val := (.func (.func 63) #[] #[.pointer (some ⟨w.heap.size, 0, none⟩), .pointer (some ⟨rb, 0, none⟩), .pointer (some ⟨w2.heap.size, 0, none⟩)]), born := 1 }, { key := .int .i64 3, val := (.func (.func 66) #[] #[.pointer (some ⟨w.heap.size + 1, 0, none⟩), .pointer (some ⟨w.heap.size, 0, none⟩), .pointer (some ⟨w2.heap.size, 0, none⟩), .pointer (some ⟨rb, 0, none⟩)]), born := 2 }, { key := .int .i64 4, val := (.func (.func 70) #[] #[.pointer (some ⟨w.heap.size + 1, 0, none⟩), .pointer (some ⟨w2.heap.size, 0, none⟩), .pointer (some ⟨rb, 0, none⟩)]), born := 3 }] 4 2 1 (.func (.func 63) #[] #[.pointer (some ⟨w.heap.size, 0, none⟩), .pointer (some ⟨rb, 0, none⟩), .pointer (some ⟨w2.heap.size, 0, none⟩)]) rfl
  have HG3 := Lib.hid (show ∀ o1 o2, Grow w2 ((w2.alloc o1).alloc o2) from fun o1 o2 => ((Grow.rfl' w2).allocd o1).allocd o2)
  have HG4 := Lib.hid (show ∀ o1 o2, Grow w ((w2.alloc o1).alloc o2) from fun o1 o2 => HG2.out.step (HG3.out o1 o2))
  have HFB := Lib.hid (show ∀ o2, OneBox ((w2.alloc (.cells #[ofV (rb)] 109)).alloc o2) w2.heap.size (ofV (rb)) from fun o2 => ⟨_, by
    rw [((Grow.rfl' (w2.alloc (.cells #[ofV (rb)] 109))).allocd o2).heapEq (by simp)]
    exact heap_alloc_new w2 _⟩)
  obtain ⟨hrl, -, c2, c3, c4, c5, c6, c7, c0⟩ := HRB.out.cells
  have c1 : w2.cell? ⟨rb, 1, none⟩ = some (.int .i64 2) := by rw [HRB.out.cells.2.1, HK.out]
  have entK3 := entK3
  clear hsz c2 c3 c4 c5 c6 c7 c0
  go_wp2_with fail
  refine (keepsExists nodes _ _ _ _ r _ S (HN.out.grow (HG4.out _ _)) (HNB.out.grow (HG3.out _ _)) (HRB.out.grow (HG3.out _ _)) (HFB.out _)).mono ?_
  rintro e w3 ⟨rfl, hw3⟩
  obtain ⟨b, hb⟩ : ∃ b, (!nodes.any (lacksR r)) = b := ⟨_, rfl⟩
  have HX := Lib.hid (show keepR nodes edges r = b by unfold keepR holdR; rw [HF.out, HK.out]; simpa using hb)
  rw [hb]
  clear hb
  go_wp2
  go_ret
  exact ⟨by rw [HX.out]; rfl, (HG4.out _ _).step hw3⟩

set_option maxRecDepth 100000 in
set_option maxHeartbeats 4000000 in
theorem ruleKeeps3 (nodes : List PNode) (edges : List PEdge) (nv ev : Value) (r : PRule) (w : World) (S : Nat → Prop) (hn : NodesR S w nv nodes) (he : EdgesR S w ev edges) (h64 : ∀ e ∈ edges, (Lit.int .i64 e.from_).wf = true) (hf : formR r = true) (hk : r.kind = 3) :
    Calls Tryz.prog 19 #[nv, ev, r.args] w fun e w' => e = .returned (.bool (keepR nodes edges r)) ∧ Grow w w' := by
  have HN := Lib.hid hn; have HE := Lib.hid he; have H64 := Lib.hid h64; have HF := Lib.hid hf
  obtain ⟨_, _, rfl, _⟩ := SlR.open hn
  obtain ⟨_, _, rfl, _⟩ := SlR.open he
  have HG := Lib.hid (show ∀ o1 o2 o3, Grow w (((w.alloc o1).alloc o2).alloc o3) from fun o1 o2 o3 => (((Grow.rfl' w).allocd o1).allocd o2).allocd o3)
  have HB := Lib.hid (boxes3k w)
  have hmm := @run_makeMap Tryz.prog
  have HK := Lib.hid hk
  clear hn he h64 hf hk
  go_enter Tryz.func19, Tryz.ntmps19
  go_wp2_with fail
  refine (ruleForm r _).mono ?_
  rintro e w2 ⟨rfl, hw2⟩
  rw [HF.out]
  obtain ⟨b1, b2, b3⟩ := HB.out _ _ _ w2 hw2
  have HG2 := Lib.hid ((HG.out _ _ _).step hw2)
  have HRB := Lib.hid (show RuleBox w2 (w.heap.size + 1 + 1) r from b3)
  have HNB := Lib.hid (show OneBox w2 w.heap.size _ from ⟨_, b1⟩)
  have HEB := Lib.hid (show OneBox w2 (w.heap.size + 1) _ from ⟨_, b2⟩)
  clear b1 b2 b3 hw2
  generalize w.heap.size + 1 + 1 = rb at *
  have hsz : (w2.alloc (.cells #[ofV (rb)] 109)).heap.size = w2.heap.size + 1 := by simp
  have hT : Tryz.prog.underlying 117 = some (.map 3 30) := Tryz.underlying117
  have hI : Tryz.prog.underlying 3 = some (.int .i64) := Tryz.underlying3
  have i1 := run_ins _ _ hsz hT hI #[] 0 1 (.func (.func 61) #[] #[.pointer (some ⟨w.heap.size, 0, none⟩), .pointer (some ⟨rb, 0, none⟩)]) rfl
  have i2 := run_ins _ _ hsz hT hI #[{ key := .int .i64 1, val := (.func (.func 61) #[] #[.pointer (some ⟨w.heap.size, 0, none⟩), .pointer (some ⟨rb, 0, none⟩)]), born := 0 }] 1 2 (.func (.func 63) #[] #[.pointer (some ⟨w.heap.size, 0, none⟩), .pointer (some ⟨rb, 0, none⟩), .pointer (some ⟨w2.heap.size, 0, none⟩)]) rfl
  have i3 := run_ins _ _ hsz hT hI #[{ key := .int .i64 1, val := (.func (.func 61) #[] #[.pointer (some ⟨w.heap.size, 0, none⟩), .pointer (some ⟨rb, 0, none⟩)]), born := 0 }, { key := .int .i64 2, val := (.func (.func 63) #[] #[.pointer (some ⟨w.heap.size, 0, none⟩), .pointer (some ⟨rb, 0, none⟩), .pointer (some ⟨w2.heap.size, 0, none⟩)]), born := 1 }] 2 3 (.func (.func 66) #[] #[.pointer (some ⟨w.heap.size + 1, 0, none⟩), .pointer (some ⟨w.heap.size, 0, none⟩), .pointer (some ⟨w2.heap.size, 0, none⟩), .pointer (some ⟨rb, 0, none⟩)]) rfl
  have i4 := run_ins _ _ hsz hT hI #[{ key := .int .i64 1, val := (.func (.func 61) #[] #[.pointer (some ⟨w.heap.size, 0, none⟩), .pointer (some ⟨rb, 0, none⟩)]), born := 0 }, { key := .int .i64 2, val := (.func (.func 63) #[] #[.pointer (some ⟨w.heap.size, 0, none⟩), .pointer (some ⟨rb, 0, none⟩), .pointer (some ⟨w2.heap.size, 0, none⟩)]), born := 1 }, { key := .int .i64 3, val := (.func (.func 66) #[] #[.pointer (some ⟨w.heap.size + 1, 0, none⟩), .pointer (some ⟨w.heap.size, 0, none⟩), .pointer (some ⟨w2.heap.size, 0, none⟩), .pointer (some ⟨rb, 0, none⟩)]), born := 2 }] 3 4 (.func (.func 70) #[] #[.pointer (some ⟨w.heap.size + 1, 0, none⟩), .pointer (some ⟨w2.heap.size, 0, none⟩), .pointer (some ⟨rb, 0, none⟩)]) rfl
  simp only [List.push_toArray, List.cons_append, List.nil_append, Nat.reduceAdd] at i1 i2 i3 i4
  have lk := run_look_hit1 _ _ hsz hT hI #[{ key := .int .i64 1, val := (.func (.func 61) #[] #[.pointer (some ⟨w.heap.size, 0, none⟩), .pointer (some ⟨rb, 0, none⟩)]), born := 0 }, { key := .int .i64 2, val := (.func (.func 63) #[] #[.pointer (some ⟨w.heap.size, 0, none⟩), .pointer (some ⟨rb, 0, none⟩), .pointer (some ⟨w2.heap.size, 0, none⟩)]), born := 1 }, { key := .int .i64 3, val := (.func (.func 66) #[] #[.pointer (some ⟨w.heap.size + 1, 0, none⟩), .pointer (some ⟨w.heap.size, 0, none⟩), .pointer (some ⟨w2.heap.size, 0, none⟩), .pointer (some ⟨rb, 0, none⟩)]), born := 2 }, { key := .int .i64 4, val := (.func (.func 70) #[] #[.pointer (some ⟨w.heap.size + 1, 0, none⟩), .pointer (some ⟨w2.heap.size, 0, none⟩), .pointer (some ⟨rb, 0, none⟩)]), born := 3 }] 4 3 2 (.func (.func 66) #[] #[.pointer (some ⟨w.heap.size + 1, 0, none⟩), .pointer (some ⟨w.heap.size, 0, none⟩), .pointer (some ⟨w2.heap.size, 0, none⟩), .pointer (some ⟨rb, 0, none⟩)]) rfl
  have HG3 := Lib.hid (show ∀ o1 o2, Grow w2 ((w2.alloc o1).alloc o2) from fun o1 o2 => ((Grow.rfl' w2).allocd o1).allocd o2)
  have HG4 := Lib.hid (show ∀ o1 o2, Grow w ((w2.alloc o1).alloc o2) from fun o1 o2 => HG2.out.step (HG3.out o1 o2))
  have HFB := Lib.hid (show ∀ o2, OneBox ((w2.alloc (.cells #[ofV (rb)] 109)).alloc o2) w2.heap.size (ofV (rb)) from fun o2 => ⟨_, by
    rw [((Grow.rfl' (w2.alloc (.cells #[ofV (rb)] 109))).allocd o2).heapEq (by simp)]
    exact heap_alloc_new w2 _⟩)
  obtain ⟨hrl, -, c2, c3, c4, c5, c6, c7, c0⟩ := HRB.out.cells
  have c1 : w2.cell? ⟨rb, 1, none⟩ = some (.int .i64 3) := by rw [HRB.out.cells.2.1, HK.out]
  have entK4 := entK4
  clear hsz c2 c3 c4 c5 c6 c7 c0
  go_wp2_with fail
  refine (keepsEnds nodes edges _ _ _ _ _ _ r _ S (HN.out.grow (HG4.out _ _)) (HE.out.grow (HG4.out _ _)) (HNB.out.grow (HG3.out _ _)) (HEB.out.grow (HG3.out _ _)) (HRB.out.grow (HG3.out _ _)) (HFB.out _)).mono ?_
  rintro e w3 ⟨rfl, hw3⟩
  obtain ⟨b, hb⟩ : ∃ b, (!edges.any (wrongR nodes r)) = b := ⟨_, rfl⟩
  have HX := Lib.hid (show keepR nodes edges r = b by unfold keepR holdR; rw [HF.out, HK.out]; simpa using hb)
  rw [hb]
  clear hb
  go_wp2
  go_ret
  exact ⟨by rw [HX.out]; rfl, (HG4.out _ _).step hw3⟩

set_option maxRecDepth 100000 in
set_option maxHeartbeats 4000000 in
theorem ruleKeeps4 (nodes : List PNode) (edges : List PEdge) (nv ev : Value) (r : PRule) (w : World) (S : Nat → Prop) (hn : NodesR S w nv nodes) (he : EdgesR S w ev edges) (h64 : ∀ e ∈ edges, (Lit.int .i64 e.from_).wf = true) (hf : formR r = true) (hk : r.kind = 4) :
    Calls Tryz.prog 19 #[nv, ev, r.args] w fun e w' => e = .returned (.bool (keepR nodes edges r)) ∧ Grow w w' := by
  have HN := Lib.hid hn; have HE := Lib.hid he; have H64 := Lib.hid h64; have HF := Lib.hid hf
  obtain ⟨_, _, rfl, _⟩ := SlR.open hn
  obtain ⟨_, _, rfl, _⟩ := SlR.open he
  have HG := Lib.hid (show ∀ o1 o2 o3, Grow w (((w.alloc o1).alloc o2).alloc o3) from fun o1 o2 o3 => (((Grow.rfl' w).allocd o1).allocd o2).allocd o3)
  have HB := Lib.hid (boxes3k w)
  have hmm := @run_makeMap Tryz.prog
  have HK := Lib.hid hk
  clear hn he h64 hf hk
  go_enter Tryz.func19, Tryz.ntmps19
  go_wp2_with fail
  refine (ruleForm r _).mono ?_
  rintro e w2 ⟨rfl, hw2⟩
  rw [HF.out]
  obtain ⟨b1, b2, b3⟩ := HB.out _ _ _ w2 hw2
  have HG2 := Lib.hid ((HG.out _ _ _).step hw2)
  have HRB := Lib.hid (show RuleBox w2 (w.heap.size + 1 + 1) r from b3)
  have HNB := Lib.hid (show OneBox w2 w.heap.size _ from ⟨_, b1⟩)
  have HEB := Lib.hid (show OneBox w2 (w.heap.size + 1) _ from ⟨_, b2⟩)
  clear b1 b2 b3 hw2
  generalize w.heap.size + 1 + 1 = rb at *
  have hsz : (w2.alloc (.cells #[ofV (rb)] 109)).heap.size = w2.heap.size + 1 := by simp
  have hT : Tryz.prog.underlying 117 = some (.map 3 30) := Tryz.underlying117
  have hI : Tryz.prog.underlying 3 = some (.int .i64) := Tryz.underlying3
  have i1 := run_ins _ _ hsz hT hI #[] 0 1 (.func (.func 61) #[] #[.pointer (some ⟨w.heap.size, 0, none⟩), .pointer (some ⟨rb, 0, none⟩)]) rfl
  have i2 := run_ins _ _ hsz hT hI #[{ key := .int .i64 1, val := (.func (.func 61) #[] #[.pointer (some ⟨w.heap.size, 0, none⟩), .pointer (some ⟨rb, 0, none⟩)]), born := 0 }] 1 2 (.func (.func 63) #[] #[.pointer (some ⟨w.heap.size, 0, none⟩), .pointer (some ⟨rb, 0, none⟩), .pointer (some ⟨w2.heap.size, 0, none⟩)]) rfl
  have i3 := run_ins _ _ hsz hT hI #[{ key := .int .i64 1, val := (.func (.func 61) #[] #[.pointer (some ⟨w.heap.size, 0, none⟩), .pointer (some ⟨rb, 0, none⟩)]), born := 0 }, { key := .int .i64 2, val := (.func (.func 63) #[] #[.pointer (some ⟨w.heap.size, 0, none⟩), .pointer (some ⟨rb, 0, none⟩), .pointer (some ⟨w2.heap.size, 0, none⟩)]), born := 1 }] 2 3 (.func (.func 66) #[] #[.pointer (some ⟨w.heap.size + 1, 0, none⟩), .pointer (some ⟨w.heap.size, 0, none⟩), .pointer (some ⟨w2.heap.size, 0, none⟩), .pointer (some ⟨rb, 0, none⟩)]) rfl
  have i4 := run_ins _ _ hsz hT hI #[{ key := .int .i64 1, val := (.func (.func 61) #[] #[.pointer (some ⟨w.heap.size, 0, none⟩), .pointer (some ⟨rb, 0, none⟩)]), born := 0 }, { key := .int .i64 2, val := (.func (.func 63) #[] #[.pointer (some ⟨w.heap.size, 0, none⟩), .pointer (some ⟨rb, 0, none⟩), .pointer (some ⟨w2.heap.size, 0, none⟩)]), born := 1 }, { key := .int .i64 3, val := (.func (.func 66) #[] #[.pointer (some ⟨w.heap.size + 1, 0, none⟩), .pointer (some ⟨w.heap.size, 0, none⟩), .pointer (some ⟨w2.heap.size, 0, none⟩), .pointer (some ⟨rb, 0, none⟩)]), born := 2 }] 3 4 (.func (.func 70) #[] #[.pointer (some ⟨w.heap.size + 1, 0, none⟩), .pointer (some ⟨w2.heap.size, 0, none⟩), .pointer (some ⟨rb, 0, none⟩)]) rfl
  simp only [List.push_toArray, List.cons_append, List.nil_append, Nat.reduceAdd] at i1 i2 i3 i4
  have lk := run_look_hit1 _ _ hsz hT hI #[{ key := .int .i64 1, val := (.func (.func 61) #[] #[.pointer (some ⟨w.heap.size, 0, none⟩), .pointer (some ⟨rb, 0, none⟩)]), born := 0 }, { key := .int .i64 2, val := (.func (.func 63) #[] #[.pointer (some ⟨w.heap.size, 0, none⟩), .pointer (some ⟨rb, 0, none⟩), .pointer (some ⟨w2.heap.size, 0, none⟩)]), born := 1 }, { key := .int .i64 3, val := (.func (.func 66) #[] #[.pointer (some ⟨w.heap.size + 1, 0, none⟩), .pointer (some ⟨w.heap.size, 0, none⟩), .pointer (some ⟨w2.heap.size, 0, none⟩), .pointer (some ⟨rb, 0, none⟩)]), born := 2 }, { key := .int .i64 4, val := (.func (.func 70) #[] #[.pointer (some ⟨w.heap.size + 1, 0, none⟩), .pointer (some ⟨w2.heap.size, 0, none⟩), .pointer (some ⟨rb, 0, none⟩)]), born := 3 }] 4 4 3 (.func (.func 70) #[] #[.pointer (some ⟨w.heap.size + 1, 0, none⟩), .pointer (some ⟨w2.heap.size, 0, none⟩), .pointer (some ⟨rb, 0, none⟩)]) rfl
  have HG3 := Lib.hid (show ∀ o1 o2, Grow w2 ((w2.alloc o1).alloc o2) from fun o1 o2 => ((Grow.rfl' w2).allocd o1).allocd o2)
  have HG4 := Lib.hid (show ∀ o1 o2, Grow w ((w2.alloc o1).alloc o2) from fun o1 o2 => HG2.out.step (HG3.out o1 o2))
  have HFB := Lib.hid (show ∀ o2, OneBox ((w2.alloc (.cells #[ofV (rb)] 109)).alloc o2) w2.heap.size (ofV (rb)) from fun o2 => ⟨_, by
    rw [((Grow.rfl' (w2.alloc (.cells #[ofV (rb)] 109))).allocd o2).heapEq (by simp)]
    exact heap_alloc_new w2 _⟩)
  obtain ⟨hrl, -, c2, c3, c4, c5, c6, c7, c0⟩ := HRB.out.cells
  have c1 : w2.cell? ⟨rb, 1, none⟩ = some (.int .i64 4) := by rw [HRB.out.cells.2.1, HK.out]
  have entK5 := entK5
  clear hsz c2 c3 c4 c5 c6 c7 c0
  go_wp2_with fail
  refine (keepsMost edges _ _ _ _ r _ S (HE.out.grow (HG4.out _ _)) H64.out (HEB.out.grow (HG3.out _ _)) (HRB.out.grow (HG3.out _ _)) (HFB.out _)).mono ?_
  rintro e w3 ⟨rfl, hw3⟩
  obtain ⟨b, hb⟩ : ∃ b, (mostR edges r) = b := ⟨_, rfl⟩
  have HX := Lib.hid (show keepR nodes edges r = b by unfold keepR holdR; rw [HF.out, HK.out]; simpa using hb)
  rw [hb]
  clear hb
  go_wp2
  go_ret
  exact ⟨by rw [HX.out]; rfl, (HG4.out _ _).step hw3⟩

theorem ruleKeeps (nodes : List PNode) (edges : List PEdge) (nv ev : Value) (r : PRule) (w : World) (S : Nat → Prop) (hn : NodesR S w nv nodes) (he : EdgesR S w ev edges) (h64 : ∀ e ∈ edges, (Lit.int .i64 e.from_).wf = true) :
    Calls Tryz.prog 19 #[nv, ev, r.args] w fun e w' => e = .returned (.bool (keepR nodes edges r)) ∧ Grow w w' := by
  cases hf : formR r with
  | false => exact ruleKeeps0 nodes edges nv ev r w S hn he h64 hf
  | true =>
    rcases formR_kind hf with hk | hk | hk | hk
    · exact ruleKeeps1 nodes edges nv ev r w S hn he h64 hf hk
    · exact ruleKeeps2 nodes edges nv ev r w S hn he h64 hf hk
    · exact ruleKeeps3 nodes edges nv ev r w S hn he h64 hf hk
    · exact ruleKeeps4 nodes edges nv ev r w S hn he h64 hf hk
end Go.Hg

namespace Go.Hg
open Go.RowKit Go.Proofs

def badR (nodes : List PNode) (edges : List PEdge) (r : PRule) : Bool := decide (r.state = 2) && !keepR nodes edges r
def firstS (nodes : List PNode) (edges : List PEdge) (acc : Option Int) (r : PRule) : Option Int :=
  if badR nodes edges r = true then (match acc with | none => some r.id | some m => if r.id < m then some r.id else some m) else acc
def firstR (nodes : List PNode) (edges : List PEdge) (l : List PRule) : Option Int := l.foldl (firstS nodes edges) none
theorem firstR_snoc (nodes : List PNode) (edges : List PEdge) (l : List PRule) (r : PRule) : firstR nodes edges (l ++ [r]) = firstS nodes edges (firstR nodes edges l) r := by
  unfold firstR
  rw [List.foldl_append]
  rfl

set_option maxRecDepth 100000 in
set_option maxHeartbeats 2000000 in
theorem ruleFirst (nodes : List PNode) (edges : List PEdge) (l : List PRule) (nv ev lv : Value) (w : World) (S : Nat → Prop) (hn : NodesR S w nv nodes) (he : EdgesR S w ev edges) (hl : SlR S w 8 RRule lv l) (h64 : ∀ e ∈ edges, (Lit.int .i64 e.from_).wf = true) :
    Calls Tryz.prog 122 #[nv, ev, lv] w fun e w' => e = .returned (.tuple #[.int .i64 ((firstR nodes edges l).getD 0), .bool (firstR nodes edges l).isSome]) ∧ Grow w w' := by
  have HN := Lib.hid hn; have HE := Lib.hid he; have H64 := Lib.hid h64
  obtain ⟨_, _, rfl, _⟩ := SlR.open hn
  obtain ⟨_, _, rfl, _⟩ := SlR.open he
  obtain ⟨aa, ca, rfl, hal, hac, hA⟩ := SlR.open hl
  unfold maxLen at hac
  have HA := Lib.hid hA
  clear hn he hl h64 hA
  go_enter Tryz.func122, Tryz.ntmps122
  go_wp2
  go_loopg [8, 9, 14] l.length (fun g v8 v9 i wr => ∃ (k : Nat) (acc : Option Int), k ≤ l.length ∧ g = l.length - k ∧ i = .int .i64 k ∧ v8 = .int .i64 (acc.getD 0) ∧ v9 = .bool acc.isSome ∧ firstR nodes edges (l.take k) = acc ∧ Grow w wr)
  case atStart => exact ⟨0, none, by omega, by omega, rfl, rfl, rfl, rfl, Grow.rfl' w⟩
  case round =>
    obtain ⟨k, acc, hk, rfl, rfl, rfl, rfl, hacc, hgr⟩ := hrel
    have HACC := Lib.hid hacc; have HGR := Lib.hid hgr
    clear hacc
    by_cases hkl : k < l.length
    · obtain ⟨ba, oa, ra, rfl, hSa, hba, hRa, hca⟩ := HA.out k l[k] (List.getElem?_eq_getElem hkl)
      have HT := Lib.hid (show l.take (k + 1) = l.take k ++ [l[k]] from List.take_succ_eq_append_getElem hkl)
      generalize l[k] = x at *
      unfold RRule at hRa
      subst hRa
      have hba' : ba < wr.heap.size := Nat.lt_of_lt_of_le hba hgr.size
      have ec : ∀ o, wr.cell? ⟨ba, o, none⟩ = w.cell? ⟨ba, o, none⟩ := fun o => hgr.cell (p := ⟨ba, o, none⟩) hba
      have a0 : wr.cell? ⟨ba, oa + k * 8, none⟩ = some (.int .i64 x.id) := (ec _).trans (hca 0 _ rfl)
      have a1 := (ec _).trans (hca 1 _ rfl)
      have a2 := (ec _).trans (hca 2 _ rfl)
      have a3 := (ec _).trans (hca 3 _ rfl)
      have a4 := (ec _).trans (hca 4 _ rfl)
      have a5 := (ec _).trans (hca 5 _ rfl)
      have a6 := (ec _).trans (hca 6 _ rfl)
      have a7 := (ec _).trans (hca 7 _ rfl)
      clear hca ec hSa hba hgr
      have HW := Lib.hid (show ∀ o1, Grow w (wr.alloc o1) from fun o1 => HGR.out.allocd o1)
      have HNB := Lib.hid (show ∀ o1 w', Grow (wr.alloc o1) w' → w'.heap[wr.heap.size]? = some o1 from fun o1 w' hg => by rw [hg.heapEq (by simp)]; exact heap_alloc_new wr _)
      obtain ⟨kp, hkp⟩ : ∃ b, keepR nodes edges x = b := ⟨_, rfl⟩
      have HKP := Lib.hid hkp
      clear hkp
      by_cases hst : x.state = 2
      · have hs : (x.state == 2) = true := by simpa using hst
        have HB := Lib.hid (show badR nodes edges x = !kp by unfold badR; rw [HKP.out, hst]; rfl)
        clear hst
        go_wp2_with fail
        refine (ruleKeeps nodes edges _ _ x _ S (HN.out.grow (HW.out _)) (HE.out.grow (HW.out _)) H64.out).mono ?_
        rintro e w2 ⟨rfl, hw2⟩
        rw [HKP.out]
        have HG2 := Lib.hid ((HW.out _).step hw2)
        have hnb := HNB.out _ w2 hw2
        have hnl := blk_lt hnb
        have n0 : w2.cell? ⟨wr.heap.size, 0, none⟩ = some (.int .i64 x.id) := by rw [blk_cell hnb]; rfl
        clear hnb hw2 a0 a1 a2 a3 a4 a5 a6 a7
        cases kp
        · cases acc with
          | none =>
            simp only [Option.isSome, Option.getD]
            go_wp2
            go_roundg (l.length - (k + 1))
            case measure => omega
            case rel => exact ⟨k + 1, some x.id, by omega, rfl, by go_num, rfl, rfl, by rw [HT.out, firstR_snoc, HACC.out]; unfold firstS; rw [HB.out]; rfl, HG2.out⟩
          | some m =>
            simp only [Option.isSome, Option.getD]
            by_cases hlt : x.id < m
            · go_wp2
              go_roundg (l.length - (k + 1))
              case measure => omega
              case rel => exact ⟨k + 1, some x.id, by omega, rfl, by go_num, rfl, rfl, by rw [HT.out, firstR_snoc, HACC.out]; unfold firstS; rw [HB.out]; simp [hlt], HG2.out⟩
            · go_wp2
              go_roundg (l.length - (k + 1))
              case measure => omega
              case rel => exact ⟨k + 1, some m, by omega, rfl, by go_num, rfl, rfl, (by rw [HT.out, firstR_snoc, HACC.out]; unfold firstS; rw [HB.out]; simp; omega), HG2.out⟩
        · have HF := Lib.hid (show firstR nodes edges (l.take (k + 1)) = acc by rw [HT.out, firstR_snoc, HACC.out]; unfold firstS; rw [HB.out]; simp)
          go_wp2
          go_roundg (l.length - (k + 1))
          case measure => omega
          case rel => exact ⟨k + 1, acc, by omega, rfl, by go_num, rfl, rfl, HF.out, HG2.out⟩
      · have hs : (x.state == 2) = false := by simpa using hst
        have HF := Lib.hid (show firstR nodes edges (l.take (k + 1)) = acc by rw [HT.out, firstR_snoc, HACC.out]; unfold firstS badR; simp [hst])
        clear hst
        go_wp2
        go_roundg (l.length - (k + 1))
        case measure => omega
        case rel => exact ⟨k + 1, acc, by omega, rfl, by go_num, rfl, rfl, HF.out, HW.out _⟩
    · have hkk : l.take k = l := List.take_of_length_le (by omega)
      rw [hkk] at HACC
      clear hkk
      go_wp2
      go_ret2
      exact ⟨by rw [HACC.out]; rfl, HGR.out⟩
end Go.Hg

namespace Go.Hg
open Go.RowKit Go.Proofs

/-- a graph's value: nodes N, edges E -/
def GAt (gv : Value) (N : List PNode) (E : List PEdge) (w : World) : Prop := ∀ w', Grow w w' →
  (Calls Tryz.prog 20 #[gv] w' fun e w2 => ∃ v, e = .returned v ∧ NodesR (fun b => w'.heap.size ≤ b) w2 v N ∧ Grow w' w2) ∧
  (Calls Tryz.prog 21 #[gv] w' fun e w2 => ∃ v, e = .returned v ∧ EdgesR (fun b => w'.heap.size ≤ b) w2 v E ∧ Grow w' w2)
theorem GAt.grow {gv : Value} {N : List PNode} {E : List PEdge} {w w1 : World} (h : GAt gv N E w) (g : Grow w w1) : GAt gv N E w1 := fun w' g' => h w' (g.step g')
theorem gAt_of {S : Nat → Prop} {B : Nat} {G : PGraph} {w : World} (h : GraphRd 120 S w B G) (hi : GInv G) : GAt (.pointer (some ⟨B, 0, none⟩)) G.nodes G.edges w := fun w' g =>
  ⟨(graphNodes S B G w' (h.grow g) (by have := hi.items; omega) (fun x hx => by have := (hi.nodesB x hx).2.2; omega)).mono fun e w2 ⟨v, ob, he, ho, hob, hg⟩ =>
    ⟨v, he, SlR.sub (ho.toSl (S := fun b => w'.heap.size ≤ b) hob) (fun _ h => h) (fun x r _ hR => hR.sub (fun b hb => hb.1)), hg⟩,
   (graphEdges S B G w' (h.grow g) (by have := hi.items; omega) (fun x hx => by have := (hi.edgesB x hx).2.2; omega)).mono fun e w2 ⟨v, ob, he, ho, hob, hg⟩ =>
    ⟨v, he, SlR.sub (ho.toSl (S := fun b => w'.heap.size ≤ b) hob) (fun _ h => h) (fun x r _ hR => hR.sub (fun b hb => hb.1)), hg⟩⟩
theorem gAt_nil (w : World) : GAt (.pointer none) [] [] w := fun w' g => by
  refine ⟨(graphNodesNil w').mono ?_, (graphEdgesNil w').mono ?_⟩
  · rintro e w2 ⟨rfl, rfl⟩
    exact ⟨_, rfl, ⟨none, 0, [], rfl, Nat.le_refl _, by simp [maxLen], rfl, by simp, by simp⟩, Grow.rfl' _⟩
  · rintro e w2 ⟨rfl, rfl⟩
    exact ⟨_, rfl, ⟨none, 0, [], rfl, Nat.le_refl _, by simp [maxLen], rfl, by simp, by simp⟩, Grow.rfl' _⟩
theorem nodesT {S : Nat → Prop} {w : World} {v : Value} {l : List PNode} (h : NodesR S w v l) : NodesR (fun _ => True) w v l := SlR.sub h (fun _ _ => trivial) (fun _ _ _ hR => hR.sub (fun _ _ => trivial))
theorem edgesT {S : Nat → Prop} {w : World} {v : Value} {l : List PEdge} (h : EdgesR S w v l) : EdgesR (fun _ => True) w v l := SlR.sub h (fun _ _ => trivial) (fun _ _ _ hR => hR.sub (fun _ _ => trivial))
theorem rulesGrow {S : Nat → Prop} {w w' : World} {v : Value} {l : List PRule} (h : SlR S w 8 RRule v l) (g : Grow w w') : SlR S w' 8 RRule v l :=
  SlR.keep h (fun _ _ hb => g.heapEq hb) g.size (fun _ _ _ hR => hR)

def errR (o : Option Int) : Int := if o.isSome then 210 else 0
set_option maxRecDepth 100000 in
set_option maxHeartbeats 1000000 in
theorem checkFirst (gv : Value) (N : List PNode) (E : List PEdge) (l : List PRule) (lv : Value) (w : World) (S : Nat → Prop) (hg : GAt gv N E w) (hl : SlR S w 8 RRule lv l) (h64 : ∀ e ∈ E, (Lit.int .i64 e.from_).wf = true) :
    Calls Tryz.prog 76 #[gv, lv] w fun e w' => e = .returned (.tuple #[.int .i64 ((firstR N E l).getD 0), .int .i64 (errR (firstR N E l))]) ∧ Grow w w' := by
  have HG := Lib.hid hg; have HL := Lib.hid (SlR.sub hl (S' := fun _ => True) (R' := RRule) (fun _ _ => trivial) (fun _ _ _ h => h)); have H64 := Lib.hid h64
  obtain ⟨_, _, rfl, _⟩ := SlR.open hl
  clear hg hl h64
  go_enter Tryz.func76, Tryz.ntmps76
  go_wp2_with fail
  refine (HG.out _ (Grow.rfl' _)).1.mono ?_
  rintro e w2 ⟨v2, rfl, hn, g2⟩
  have HN := Lib.hid hn; have HG2 := Lib.hid g2
  clear hn g2
  go_wp2_with fail
  refine (HG.out _ HG2.out).2.mono ?_
  rintro e w3 ⟨v3, rfl, he, g3⟩
  have HE := Lib.hid he; have HG3 := Lib.hid g3
  clear he g3
  go_wp2_with fail
  refine (ruleFirst N E l _ _ _ _ _ (nodesT (HN.out.grow HG3.out)) (edgesT HE.out) (rulesGrow HL.out (HG2.out.step HG3.out)) H64.out).mono ?_
  rintro e w4 ⟨rfl, g4⟩
  have HG4 := Lib.hid ((HG2.out.step HG3.out).step g4)
  clear g4
  obtain ⟨o, ho⟩ : ∃ o, firstR N E l = o := ⟨_, rfl⟩
  have HO := Lib.hid ho
  rw [ho]
  clear ho
  cases o with
  | none =>
    simp only [Option.isSome, Option.getD]
    go_wp2
    go_ret2
    exact ⟨by rw [HO.out]; rfl, HG4.out⟩
  | some m =>
    simp only [Option.isSome, Option.getD]
    go_wp2
    go_ret2
    exact ⟨by rw [HO.out]; rfl, HG4.out⟩
set_option maxRecDepth 100000 in
set_option maxHeartbeats 1000000 in
theorem checkWhole (gv : Value) (N : List PNode) (E : List PEdge) (l : List PRule) (nv ev rv iv nx : Value) (w : World) (S : Nat → Prop) (hg : GAt gv N E w) (hl : SlR S w 8 RRule rv l) (h64 : ∀ e ∈ E, (Lit.int .i64 e.from_).wf = true) (hv : (∃ a n c, nv = .slice a n c) ∧ (∃ a n c, ev = .slice a n c) ∧ (∃ a n c, iv = .slice a n c) ∧ ∃ n, nx = .int .i64 n) :
    Calls Tryz.prog 25 #[.agg #[nv, ev, rv, iv, nx], gv] w fun e w' => e = .returned (.tuple #[.int .i64 ((firstR N E l).getD 0), .int .i64 (errR (firstR N E l))]) ∧ Grow w w' := by
  have HG := Lib.hid hg; have HL := Lib.hid hl; have H64 := Lib.hid h64
  obtain ⟨⟨_, _, _, rfl⟩, ⟨_, _, _, rfl⟩, ⟨_, _, _, rfl⟩, ⟨_, rfl⟩⟩ := hv
  obtain ⟨_, _, rfl, _⟩ := SlR.open hl
  have HW := Lib.hid (show ∀ o1, Grow w (w.alloc o1) from fun o1 => (Grow.rfl' w).allocd o1)
  clear hg hl h64
  go_enter Tryz.func25, Tryz.ntmps25
  go_wp2_with fail
  refine (checkFirst gv N E l _ _ S (HG.out.grow (HW.out _)) (rulesGrow HL.out (HW.out _)) H64.out).mono ?_
  rintro e w2 ⟨rfl, g2⟩
  have HG2 := Lib.hid ((HW.out _).step g2)
  clear g2
  go_wp2
  go_ret2
  exact ⟨rfl, HG2.out⟩
end Go.Hg

namespace Go.Hg
open Go.RowKit Go.Proofs

theorem far3 (w : World) (B : Nat) (a b c : Value) (q : Nat × Nat) (h : q.1 ≠ B) : (((w.setCell ⟨B, 0, none⟩ a).setCell ⟨B, 1, none⟩ b).setCell ⟨B, 2, none⟩ c).cell? ⟨q.1, q.2, none⟩ = w.cell? ⟨q.1, q.2, none⟩ := by
  rw [World.cell?_setCell_far _ _ _ _ (Ne.symm h), World.cell?_setCell_far _ _ _ _ (Ne.symm h), World.cell?_setCell_far _ _ _ _ (Ne.symm h)]

set_option maxRecDepth 100000 in
set_option maxHeartbeats 2000000 in
theorem doublesVal (x : PNode) (pv : Value) (rb : Nat) (r : PRule) (w : World) (S : Nat → Prop) (hp : PropsR S w pv x.props) (hr : RuleBox w rb r) :
    Calls Tryz.prog 102 #[.agg #[.int .i64 x.id, .string x.typ, pv], .pointer (some ⟨rb, 0, none⟩)] w fun e w' => e = .returned (.tuple #[(getV x.props r.name).args, .bool ((getP x.props r.name).isSome && decide (x.typ = r.typ))]) ∧ Grow w w' := by
  have HP := Lib.hid hp; have HR := Lib.hid hr
  obtain ⟨_, _, rfl⟩ := hp.isSlice
  have HG := Lib.hid (show ∀ o1 o2, Grow w ((w.alloc o1).alloc o2) from fun o1 o2 => ((Grow.rfl' w).allocd o1).allocd o2)
  have HNB := Lib.hid (show ∀ o1 o2 w', Grow ((w.alloc o1).alloc o2) w' → w'.heap[w.heap.size]? = some o1 ∧ w'.heap[w.heap.size + 1]? = some o2 from fun o1 o2 w' hg => by
    have h1 : (w.alloc o1).heap[w.heap.size]? = some o1 := heap_alloc_new w o1
    have h2 : ((w.alloc o1).alloc o2).heap[w.heap.size + 1]? = some o2 := by simpa using heap_alloc_new (w.alloc o1) o2
    exact ⟨((((Grow.rfl' (w.alloc o1)).allocd o2).step hg).heapEq (blk_lt h1)).trans h1, (hg.heapEq (blk_lt h2)).trans h2⟩)
  obtain ⟨hrl, c1, c2, c3, c4, c5, c6, c7, c0⟩ := hr.cells
  obtain ⟨gv, hgv⟩ : ∃ gv, getV x.props r.name = gv := ⟨_, rfl⟩
  obtain ⟨bo, hbo⟩ : ∃ b, (getP x.props r.name).isSome = b := ⟨_, rfl⟩
  have HGV := Lib.hid hgv; have HBO := Lib.hid hbo
  clear hp hr c1 c2 c4 c5 c6 c7 c0 hgv hbo
  go_enter Tryz.func102, Tryz.ntmps102
  go_wp2_with fail
  refine (valGet S _ x.props r.name _ (HP.out.grow (HG.out _ _))).mono ?_
  rintro e w2 ⟨rfl, hw2⟩
  rw [HGV.out, HBO.out]
  have HG2 := Lib.hid ((HG.out _ _).step hw2)
  obtain ⟨hn, hz⟩ := HNB.out _ _ w2 hw2
  have HNN := Lib.hid hn; have HZ := Lib.hid hz
  have hrb := HR.out.grow HG2.out
  have HRB := Lib.hid hrb
  clear hn hz hw2 hrb c3 hrl
  go_wp2_with fail
  have hlt0 := blk_lt HNN.out; have hlt1 := blk_lt HZ.out; have hlt2 := blk_lt HRB.out
  have HK := Lib.hid (show ∀ o1, Grow w2 (w2.alloc o1).drew from fun o1 => ((Grow.rfl' w2).allocd o1).drewd)
  have HBX := Lib.hid (show ∀ o1, (w2.alloc o1).drew.heap[w2.heap.size]? = some o1 from fun o1 => heap_alloc_new w2 _)
  have KEEP0 := Lib.hid (show (fun w' => w'.cell? ⟨w2.heap.size, 0, none⟩ = some (.int .i64 gv.kind) ∧ w'.cell? ⟨w2.heap.size, 1, none⟩ = some (.int .i64 gv.n) ∧ w'.cell? ⟨w2.heap.size, 2, none⟩ = some (.string gv.s) ∧ w'.cell? ⟨w.heap.size, 1, none⟩ = some (.string x.typ) ∧ w'.cell? ⟨rb, 2, none⟩ = some (.string r.typ)) (w2.alloc (.cells #[.int .i64 gv.kind, .int .i64 gv.n, .string gv.s] 42 (0, 0))).drew from
    ⟨by rw [blk_cell (HBX.out _)]; rfl, by rw [blk_cell (HBX.out _)]; rfl, by rw [blk_cell (HBX.out _)]; rfl, by rw [blk_cell (((HK.out _).heapEq hlt0).trans HNN.out)]; rfl, (HRB.out.grow (HK.out _)).cells.2.2.1⟩)
  have zb := ((HK.out (.cells #[.int .i64 gv.kind, .int .i64 gv.n, .string gv.s] 42 (0, 0))).heapEq hlt1).trans HZ.out
  have zl := blk_lt zb
  have zf0 := blk_free zb 0; have zf1 := blk_free zb 1; have zf2 := blk_free zb 2
  have z0 : (w2.alloc (.cells #[.int .i64 gv.kind, .int .i64 gv.n, .string gv.s] 42 (0, 0))).drew.cell? ⟨w.heap.size + 1, 0, none⟩ = some (.int .i64 0) := by rw [blk_cell zb]; rfl
  have z1 : (w2.alloc (.cells #[.int .i64 gv.kind, .int .i64 gv.n, .string gv.s] 42 (0, 0))).drew.cell? ⟨w.heap.size + 1, 1, none⟩ = some (.int .i64 0) := by rw [blk_cell zb]; rfl
  have z2 : (w2.alloc (.cells #[.int .i64 gv.kind, .int .i64 gv.n, .string gv.s] 42 (0, 0))).drew.cell? ⟨w.heap.size + 1, 2, none⟩ = some (.string ByteArray.empty) := by rw [blk_cell zb]; rfl
  have hne : w2.heap.size ≠ w.heap.size + 1 := by omega
  have hrl := HR.out.cells.1
  have HGD := Lib.hid (show Grow w (w2.alloc (.cells #[.int .i64 gv.kind, .int .i64 gv.n, .string gv.s] 42 (0, 0))).drew from HG2.out.step (HK.out _))
  clear zb
  cases bo
  · skip
    refine wp_region_noPanic ?_
    refine wp_region_held_drew (S := fun w' => w'.cell? ⟨w2.heap.size, 0, none⟩ = some (.int .i64 gv.kind) ∧ w'.cell? ⟨w2.heap.size, 1, none⟩ = some (.int .i64 gv.n) ∧ w'.cell? ⟨w2.heap.size, 2, none⟩ = some (.string gv.s) ∧ w'.cell? ⟨w.heap.size, 1, none⟩ = some (.string x.typ) ∧ w'.cell? ⟨rb, 2, none⟩ = some (.string r.typ)) (by kernel_rfl) ?_ (fun hHeld => ?_)
    · exact KEEP0.out
    generalize hwD : (w2.alloc (.cells #[.int .i64 gv.kind, .int .i64 gv.n, .string gv.s] 42 (0, 0))).drew = wD at *
    refine' wpAnyH_take (i := 0) (oi := ?o1) (v := _) (by simp only [List.getElem?_toArray, List.getElem?_cons_zero]; rfl) (by kernel_rfl) (by kernel_rfl) (by kernel_rfl) (fun _ _ _ h => h) (Or.inl ⟨by rfl, ?y1⟩) (by assumption) ?r1
    case y1 =>
      intro wS hSw
      try dsimp only at hSw
      go_simp
      all_goals with_reducible rfl
    simp only [Act.put, List.setIfInBounds_toArray, List.set_cons_zero, List.set_cons_succ]
    refine' wpAnyH_take (i := 1) (oi := ?o2) (v := _) (by simp only [List.getElem?_toArray, List.getElem?_cons_succ, List.getElem?_cons_zero]; rfl) (by kernel_rfl) (by kernel_rfl) (by kernel_rfl) (fun _ _ _ h => h) (Or.inl ⟨by rfl, ?y2⟩) (by assumption) ?r2
    case y2 =>
      intro wS hSw
      try dsimp only at hSw
      go_simp
      all_goals with_reducible rfl
    simp only [Act.put, List.setIfInBounds_toArray, List.set_cons_zero, List.set_cons_succ]
    refine' wpAnyH_take (i := 2) (oi := ?o3) (v := _) (by simp only [List.getElem?_toArray, List.getElem?_cons_succ, List.getElem?_cons_zero]; rfl) (by kernel_rfl) (by kernel_rfl) (by kernel_rfl) (fun _ _ _ h => h) (Or.inl ⟨by rfl, ?y3⟩) (by assumption) ?r3
    case y3 =>
      intro wS hSw
      try dsimp only at hSw
      go_simp
      all_goals with_reducible rfl
    simp only [Act.put, List.setIfInBounds_toArray, List.set_cons_zero, List.set_cons_succ]
    refine' wpAnyH_take (i := 3) (oi := ?o4) (v := undef) (by simp only [List.getElem?_toArray, List.getElem?_cons_succ, List.getElem?_cons_zero]; rfl) (by kernel_rfl) (by kernel_rfl) (by kernel_rfl) (fun _ _ _ h => h) (Or.inr ⟨by rfl, rfl⟩) (by assumption) ?r4
    simp only [Act.put, List.setIfInBounds_toArray, List.set_cons_zero, List.set_cons_succ]
    refine' wpAnyH_take (i := 4) (oi := ?o5) (v := undef) (by simp only [List.getElem?_toArray, List.getElem?_cons_succ, List.getElem?_cons_zero]; rfl) (by kernel_rfl) (by kernel_rfl) (by kernel_rfl) (fun _ _ _ h => h) (Or.inr ⟨by rfl, rfl⟩) (by assumption) ?r5
    simp only [Act.put, List.setIfInBounds_toArray, List.set_cons_zero, List.set_cons_succ]
    refine' wpAnyH_take (i := 5) (oi := ?o6) (v := undef) (by simp only [List.getElem?_toArray, List.getElem?_cons_succ, List.getElem?_cons_zero]; rfl) (by kernel_rfl) (by kernel_rfl) (by kernel_rfl) (fun _ _ _ h => h) (Or.inr ⟨by rfl, rfl⟩) (by assumption) ?r6
    simp only [Act.put, List.setIfInBounds_toArray, List.set_cons_zero, List.set_cons_succ]
    refine' wpAnyH_take (i := 6) (oi := ?o7) (v := undef) (by simp only [List.getElem?_toArray, List.getElem?_cons_succ, List.getElem?_cons_zero]; rfl) (by kernel_rfl) (by kernel_rfl) (by kernel_rfl) (fun _ _ _ h => h) (Or.inr ⟨by rfl, rfl⟩) (by assumption) ?r7
    simp only [Act.put, List.setIfInBounds_toArray, List.set_cons_zero, List.set_cons_succ]
    refine' wpAnyH_take (i := 7) (oi := ?o8) (v := undef) (by simp only [List.getElem?_toArray, List.getElem?_cons_succ, List.getElem?_cons_zero]; rfl) (by kernel_rfl) (by kernel_rfl) (by kernel_rfl) (fun _ _ _ h => h) (Or.inr ⟨by rfl, rfl⟩) (by assumption) ?r8
    simp only [Act.put, List.setIfInBounds_toArray, List.set_cons_zero, List.set_cons_succ]
    refine' wpAnyH_take (i := 8) (oi := ?o9) (v := _) (by simp only [List.getElem?_toArray, List.getElem?_cons_succ, List.getElem?_cons_zero]; rfl) (by kernel_rfl) (by kernel_rfl) (by kernel_rfl) (fun _ _ _ h => h) (Or.inl ⟨by rfl, ?y9⟩) (by assumption) ?r9
    case y9 =>
      intro wS hSw
      try dsimp only at hSw
      go_simp
      all_goals with_reducible rfl
    simp only [Act.put, List.setIfInBounds_toArray, List.set_cons_zero, List.set_cons_succ]
    refine wpAnyH_ready (rs := [9]) (by kernel_rfl) (by simp) ?_
    refine' AllReadyH.cons (o := ?o10) (by simp only [List.getElem?_toArray, List.getElem?_cons_succ, List.getElem?_cons_zero]; rfl) (fun K hK => ?s10) ?m10
    case m10 => exact AllReadyH.nil
    go_simp
    refine hK.out _ _ ?_ (fun hHeld => ?_)
    · obtain ⟨k0, k1, k2, k3, k4⟩ := KEEP0.out; exact ⟨(far3 _ _ _ _ _ (_, _) hne).trans k0, (far3 _ _ _ _ _ (_, _) hne).trans k1, (far3 _ _ _ _ _ (_, _) hne).trans k2, (far3 _ _ _ _ _ (w.heap.size, 1) (by show w.heap.size ≠ w.heap.size + 1; omega)).trans k3, (far3 _ _ _ _ _ (rb, 2) (by show rb ≠ w.heap.size + 1; omega)).trans k4⟩
    clear hK K
    try simp only [Act.put, List.setIfInBounds_toArray, List.set_cons_zero, List.set_cons_succ]
    refine' wpAnyH_take (i := 10) (oi := ?o11) (v := _) (by simp only [List.getElem?_toArray, List.getElem?_cons_succ, List.getElem?_cons_zero]; rfl) (by kernel_rfl) (by kernel_rfl) (by kernel_rfl) (fun _ _ _ h => h) (Or.inl ⟨by rfl, ?y11⟩) (by assumption) ?r11
    case y11 =>
      intro wS hSw
      try dsimp only at hSw
      go_simp
      all_goals with_reducible rfl
    simp only [Act.put, List.setIfInBounds_toArray, List.set_cons_zero, List.set_cons_succ]
    refine wpAnyH_done (by kernel_rfl) ?_ _
    refine NoPanic.normal ?_

    go_wp2
    refine bodyPost_ret (v := .tuple #[gv.args, .bool (false)]) ?_ rfl ⟨by rw [HGV.out, HBO.out]; rfl, ?_⟩
    · rw [results_cell_tmp rfl]
      go_simp
    · exact (((HGD.out).setd (p := ⟨w.heap.size + 1, 0, none⟩) (by show w.heap.size ≤ w.heap.size + 1; omega) _).setd (p := ⟨w.heap.size + 1, 1, none⟩) (by show w.heap.size ≤ w.heap.size + 1; omega) _).setd (p := ⟨w.heap.size + 1, 2, none⟩) (by show w.heap.size ≤ w.heap.size + 1; omega) _
  · skip
    refine wp_region_noPanic ?_
    refine wp_region_held_drew (S := fun w' => w'.cell? ⟨w2.heap.size, 0, none⟩ = some (.int .i64 gv.kind) ∧ w'.cell? ⟨w2.heap.size, 1, none⟩ = some (.int .i64 gv.n) ∧ w'.cell? ⟨w2.heap.size, 2, none⟩ = some (.string gv.s) ∧ w'.cell? ⟨w.heap.size, 1, none⟩ = some (.string x.typ) ∧ w'.cell? ⟨rb, 2, none⟩ = some (.string r.typ)) (by kernel_rfl) ?_ (fun hHeld => ?_)
    · exact KEEP0.out
    generalize hwD : (w2.alloc (.cells #[.int .i64 gv.kind, .int .i64 gv.n, .string gv.s] 42 (0, 0))).drew = wD at *
    refine' wpAnyH_take (i := 0) (oi := ?o12) (v := _) (by simp only [List.getElem?_toArray, List.getElem?_cons_zero]; rfl) (by kernel_rfl) (by kernel_rfl) (by kernel_rfl) (fun _ _ _ h => h) (Or.inl ⟨by rfl, ?y12⟩) (by assumption) ?r12
    case y12 =>
      intro wS hSw
      try dsimp only at hSw
      go_simp
      all_goals with_reducible rfl
    simp only [Act.put, List.setIfInBounds_toArray, List.set_cons_zero, List.set_cons_succ]
    refine' wpAnyH_take (i := 1) (oi := ?o13) (v := _) (by simp only [List.getElem?_toArray, List.getElem?_cons_succ, List.getElem?_cons_zero]; rfl) (by kernel_rfl) (by kernel_rfl) (by kernel_rfl) (fun _ _ _ h => h) (Or.inl ⟨by rfl, ?y13⟩) (by assumption) ?r13
    case y13 =>
      intro wS hSw
      try dsimp only at hSw
      go_simp
      all_goals with_reducible rfl
    simp only [Act.put, List.setIfInBounds_toArray, List.set_cons_zero, List.set_cons_succ]
    refine' wpAnyH_take (i := 2) (oi := ?o14) (v := _) (by simp only [List.getElem?_toArray, List.getElem?_cons_succ, List.getElem?_cons_zero]; rfl) (by kernel_rfl) (by kernel_rfl) (by kernel_rfl) (fun _ _ _ h => h) (Or.inl ⟨by rfl, ?y14⟩) (by assumption) ?r14
    case y14 =>
      intro wS hSw
      try dsimp only at hSw
      go_simp
      all_goals with_reducible rfl
    simp only [Act.put, List.setIfInBounds_toArray, List.set_cons_zero, List.set_cons_succ]
    refine' wpAnyH_take (i := 3) (oi := ?o15) (v := _) (by simp only [List.getElem?_toArray, List.getElem?_cons_succ, List.getElem?_cons_zero]; rfl) (by kernel_rfl) (by kernel_rfl) (by kernel_rfl) (fun _ _ _ h => h) (Or.inl ⟨by rfl, ?y15⟩) (by assumption) ?r15
    case y15 =>
      intro wS hSw
      try dsimp only at hSw
      go_simp
      all_goals with_reducible rfl
    simp only [Act.put, List.setIfInBounds_toArray, List.set_cons_zero, List.set_cons_succ]
    refine' wpAnyH_take (i := 4) (oi := ?o16) (v := _) (by simp only [List.getElem?_toArray, List.getElem?_cons_succ, List.getElem?_cons_zero]; rfl) (by kernel_rfl) (by kernel_rfl) (by kernel_rfl) (fun _ _ _ h => h) (Or.inl ⟨by rfl, ?y16⟩) (by assumption) ?r16
    case y16 =>
      intro wS hSw
      try dsimp only at hSw
      go_simp
      all_goals with_reducible rfl
    simp only [Act.put, List.setIfInBounds_toArray, List.set_cons_zero, List.set_cons_succ]
    refine' wpAnyH_take (i := 5) (oi := ?o17) (v := _) (by simp only [List.getElem?_toArray, List.getElem?_cons_succ, List.getElem?_cons_zero]; rfl) (by kernel_rfl) (by kernel_rfl) (by kernel_rfl) (fun _ _ _ h => h) (Or.inl ⟨by rfl, ?y17⟩) (by assumption) ?r17
    case y17 =>
      intro wS hSw
      try dsimp only at hSw
      go_simp
      all_goals with_reducible rfl
    simp only [Act.put, List.setIfInBounds_toArray, List.set_cons_zero, List.set_cons_succ]
    refine' wpAnyH_take (i := 6) (oi := ?o18) (v := _) (by simp only [List.getElem?_toArray, List.getElem?_cons_succ, List.getElem?_cons_zero]; rfl) (by kernel_rfl) (by kernel_rfl) (by kernel_rfl) (fun _ _ _ h => h) (Or.inl ⟨by rfl, ?y18⟩) (by assumption) ?r18
    case y18 =>
      intro wS hSw
      try dsimp only at hSw
      go_simp
      all_goals with_reducible rfl
    simp only [Act.put, List.setIfInBounds_toArray, List.set_cons_zero, List.set_cons_succ]
    refine' wpAnyH_take (i := 7) (oi := ?o19) (v := _) (by simp only [List.getElem?_toArray, List.getElem?_cons_succ, List.getElem?_cons_zero]; rfl) (by kernel_rfl) (by kernel_rfl) (by kernel_rfl) (fun _ _ _ h => h) (Or.inl ⟨by rfl, ?y19⟩) (by assumption) ?r19
    case y19 =>
      intro wS hSw
      try dsimp only at hSw
      go_simp
      all_goals with_reducible rfl
    simp only [Act.put, List.setIfInBounds_toArray, List.set_cons_zero, List.set_cons_succ]
    refine' wpAnyH_take (i := 8) (oi := ?o20) (v := _) (by simp only [List.getElem?_toArray, List.getElem?_cons_succ, List.getElem?_cons_zero]; rfl) (by kernel_rfl) (by kernel_rfl) (by kernel_rfl) (fun _ _ _ h => h) (Or.inl ⟨by rfl, ?y20⟩) (by assumption) ?r20
    case y20 =>
      intro wS hSw
      try dsimp only at hSw
      go_simp
      all_goals with_reducible rfl
    simp only [Act.put, List.setIfInBounds_toArray, List.set_cons_zero, List.set_cons_succ]
    refine wpAnyH_ready (rs := [9]) (by kernel_rfl) (by simp) ?_
    refine' AllReadyH.cons (o := ?o21) (by simp only [List.getElem?_toArray, List.getElem?_cons_succ, List.getElem?_cons_zero]; rfl) (fun K hK => ?s21) ?m21
    case m21 => exact AllReadyH.nil
    go_simp
    refine hK.out _ _ ?_ (fun hHeld => ?_)
    · obtain ⟨k0, k1, k2, k3, k4⟩ := KEEP0.out; exact ⟨(far3 _ _ _ _ _ (_, _) hne).trans k0, (far3 _ _ _ _ _ (_, _) hne).trans k1, (far3 _ _ _ _ _ (_, _) hne).trans k2, (far3 _ _ _ _ _ (w.heap.size, 1) (by show w.heap.size ≠ w.heap.size + 1; omega)).trans k3, (far3 _ _ _ _ _ (rb, 2) (by show rb ≠ w.heap.size + 1; omega)).trans k4⟩
    clear hK K
    try simp only [Act.put, List.setIfInBounds_toArray, List.set_cons_zero, List.set_cons_succ]
    refine' wpAnyH_take (i := 10) (oi := ?o22) (v := _) (by simp only [List.getElem?_toArray, List.getElem?_cons_succ, List.getElem?_cons_zero]; rfl) (by kernel_rfl) (by kernel_rfl) (by kernel_rfl) (fun _ _ _ h => h) (Or.inl ⟨by rfl, ?y22⟩) (by assumption) ?r22
    case y22 =>
      intro wS hSw
      try dsimp only at hSw
      go_simp
      all_goals with_reducible rfl
    simp only [Act.put, List.setIfInBounds_toArray, List.set_cons_zero, List.set_cons_succ]
    refine wpAnyH_done (by kernel_rfl) ?_ _
    refine NoPanic.normal ?_

    go_wp2
    refine bodyPost_ret (v := .tuple #[gv.args, .bool (decide (x.typ = r.typ))]) ?_ rfl ⟨by rw [HGV.out, HBO.out]; rfl, ?_⟩
    · rw [results_cell_tmp rfl]
      go_simp
    · exact (((HGD.out).setd (p := ⟨w.heap.size + 1, 0, none⟩) (by show w.heap.size ≤ w.heap.size + 1; omega) _).setd (p := ⟨w.heap.size + 1, 1, none⟩) (by show w.heap.size ≤ w.heap.size + 1; omega) _).setd (p := ⟨w.heap.size + 1, 2, none⟩) (by show w.heap.size ≤ w.heap.size + 1; omega) _
end Go.Hg

namespace Go.Hg
open Go.RowKit Go.Proofs

/-- a row of numbers of one's own, made since block n -/
def IdsW (n : Nat) (w : World) (v : Value) (l : List Int) : Prop := ∃ ob, IdsO w v l ob ∧ ∀ q, ob = some q → n ≤ q
theorem IdsW.nil (n : Nat) (w : World) : IdsW n w (.slice none 0 0) [] := ⟨none, OwnS.nil w _ 1, by simp⟩
theorem IdsW.grow {n : Nat} {w w' : World} {v : Value} {l : List Int} (h : IdsW n w v l) (g : Grow w w') : IdsW n w' v l := by
  obtain ⟨ob, h1, h2⟩ := h
  exact ⟨ob, OwnS.grow h1 g, h2⟩
theorem IdsW.base {n m : Nat} {w : World} {v : Value} {l : List Int} (h : IdsW n w v l) (hm : m ≤ n) : IdsW m w v l := by
  obtain ⟨ob, h1, h2⟩ := h
  exact ⟨ob, h1, fun q hq => Nat.le_trans hm (h2 q hq)⟩
theorem IdsW.isSlice {n : Nat} {w : World} {v : Value} {l : List Int} (h : IdsW n w v l) : ∃ oa cap, v = .slice oa l.length cap ∧ l.length ≤ cap ∧ cap ≤ maxLen := by
  obtain ⟨ob, h1, _⟩ := h
  exact OwnS.isSlice h1
theorem IdsW.toR {n : Nat} {w : World} {v : Value} {l : List Int} (h : IdsW n w v l) : IdsR (fun b => n ≤ b) w v l := by
  obtain ⟨ob, h1, h2⟩ := h
  exact h1.toR h2
theorem IdsW.post {w w' : World} {v : Value} {l : List Int} (h : IdsW w.heap.size w' v l) (g : Grow w w') : IdsPost l w (.returned v) w' := by
  obtain ⟨ob, h1, h2⟩ := h
  exact ⟨v, ob, rfl, h1, h2, g⟩
theorem IdsPost.open {l : List Int} {w w' : World} {e : Ending} (h : IdsPost l w e w') : ∃ v, e = .returned v ∧ IdsW w.heap.size w' v l ∧ Grow w w' := by
  obtain ⟨v, ob, h0, h1, h2, h3⟩ := h
  exact ⟨v, h0, ⟨ob, h1, h2⟩, h3⟩
/-- behind a step that touches blocks from n on alone -/
abbrev Since (n : Nat) (w w' : World) : Prop := Mod (fun k => n ≤ k) w w'
theorem Grow.since {n : Nat} {a b c : World} (h : Grow a b) (k : Since n b c) (hn : a.heap.size ≤ n) : Grow a c := h.modd k (fun _ hx => Nat.le_trans hn hx)
theorem rd1 (W : World) (y : Value) (E : TypeId) {nb : Nat} (h : W.heap.size = nb) : Rd (W.alloc (.cells #[y] E)) 1 (.slice (some ⟨nb, 0, none⟩) 1 1) 1 [y] := by
  subst h
  exact Rd.lit W #[y] E 1 1 rfl
theorem wpList_append_I {w : World} {ops : Array Oper} {rest : List Oper} {o : Oper} {a : Act} {Q : Exit → Act → World → Prop} (hgd : o.guard = none) (s x : Operand) (t : TypeId)
    (ho : o.op = .call { callee := .builtin .append, args := #[s, x], argTypes := #[t, t] }) (ht : Tryz.prog.underlying t = some (.slice 2)) (n : Nat) (v : Value) (l : List Int) (hs : a.eval s = v) (h : IdsW n w v l)
    (y : Int) (nb : Nat) (hx : a.eval x = .slice (some ⟨nb, 0, none⟩) 1 1) (hrd : Rd w 1 (.slice (some ⟨nb, 0, none⟩) 1 1) 1 [.int .i64 y]) (hn : n ≤ w.heap.size) (hl : l.length + 1 ≤ 8796093022208)
    (hK : ∀ v' w', IdsW n w' v' (l ++ [y]) → Since n w w' → w.heap.size ≤ w'.heap.size → wpList Tryz.prog ops Q rest (a.put o.dst v') w') : wpList Tryz.prog ops Q (o :: rest) a w := by
  obtain ⟨iP, hiP, hzP0, hzP1, hzP2⟩ := info_parts infoInt
  obtain ⟨ob, h1, h2⟩ := h
  refine wpList_append_S w hgd s x t ho 2 iP _ 1 8 ht hiP hzP0 hzP1 hzP2 rfl (by decide) v l.length _ ob hs h1 _ hx 1 _ hrd (one1 _ rfl) (by unfold maxLen; omega) (by omega) ?_
  intro v' w' ob' k1 k2 k3 _
  refine hK v' w' ⟨ob', ?_, ?_⟩ (k2.mono fun q hq => h2 q hq) k2.size
  · unfold IdsO
    rw [List.length_append, List.map_append]
    exact k1
  · intro q hq
    rcases k3 with k3 | ⟨g, k3, hg⟩
    · exact h2 q (k3 ▸ hq)
    · rw [k3] at hq; cases hq; omega
end Go.Hg

namespace Go.Hg
open Go.RowKit Go.Proofs MapKept Go.Maps

theorem entDoub : ∀ args w, (callFunc 102 args).run Tryz.prog w = .ok (.enter 102 args) w := fun args w => enterF Tryz.func102 (by kernel_rfl) rfl args w
theorem valR_eq (r : PRule) (x : PNode) : valR r x = if ((getP x.props r.name).isSome && decide (x.typ = r.typ)) = true then some (getV x.props r.name) else none := by
  unfold valR getV
  by_cases h : x.typ = r.typ
  · cases hp : getP x.props r.name <;> simp [h]
  · simp [h]

theorem nodesMod {F S : Nat → Prop} {w w' : World} {v : Value} {l : List PNode} (h : NodesR S w v l) (g : Mod F w w') (hd : ∀ b, S b → ¬ F b) : NodesR S w' v l :=
  SlR.keep h (fun b hS hb => g.block b hb (hd b hS)) g.size (fun _ _ _ ⟨pv, hr, hp⟩ => ⟨pv, hr, hp.mod g hd⟩)
theorem ruleMod {F : Nat → Prop} {w w' : World} {b : Nat} {r : PRule} (h : RuleBox w b r) (g : Mod F w w') (hd : ¬ F b) : RuleBox w' b r := (g.block b (blk_lt h) hd).trans h

set_option maxRecDepth 100000 in
set_option maxHeartbeats 4000000 in
theorem checkDoubles (gv0 : Value) (N : List PNode) (E : List PEdge) (r : PRule) (w : World) (hg : GAt gv0 N E w) (hb : N.length ≤ 1099511627776) :
    Calls Tryz.prog 51 #[gv0, r.args] w (IdsPost ((N.filter (doubR N r)).map (·.id)) w) := by
  obtain ⟨iP, hiP, hzP0, hzP1, hzP2⟩ := info_parts infoInt
  have HGA := Lib.hid hg; have HBD := Lib.hid hb
  have entDoub := entDoub
  have HG := Lib.hid (show ∀ o1 o2, Grow w ((w.alloc o1).alloc o2) from fun o1 o2 => ((Grow.rfl' w).allocd o1).allocd o2)
  have HM0 := Lib.hid (show ∀ o1, MapK PVal.args ((w.alloc o1).alloc (.map #[] 0)) (w.heap.size + 1) (cntK ([] : List PVal)) 0 from fun o1 => by
    have h := MapK.made (kv := PVal.args) (w.alloc o1)
    rw [World.size_alloc] at h
    exact h)
  have HR0 := Lib.hid (show ∀ o2, RuleBox ((w.alloc (.cells #[.int .i64 r.id, .int .i64 r.kind, .string r.typ, .string r.name, .string r.from_, .string r.to_, .int .i64 r.n, .int .i64 r.state] 24 (0, 0))).alloc o2) w.heap.size r from fun o2 => by
    unfold RuleBox
    rw [((Grow.rfl' (w.alloc _)).allocd o2).heapEq (by simp)]
    exact heap_alloc_new w _)
  clear hg hb
  have hmm := @run_makeMap Tryz.prog
  go_enter Tryz.func51, Tryz.ntmps51
  go_wp2_with fail
  clear hmm
  refine (HGA.out _ (HG.out _ _)).1.mono ?_
  rintro e w2 ⟨v2, rfl, hn, hg2⟩
  obtain ⟨aa, ca, rfl, hal, hac, hA⟩ := SlR.open hn
  unfold maxLen at hac
  have HN := Lib.hid hn
  have HM2 := Lib.hid ((HM0.out _).grow hg2); have HR2 := Lib.hid ((HR0.out _).grow hg2)
  have HG2 := Lib.hid ((HG.out _ _).step hg2)
  have hs2 := hg2.size
  simp only [World.size_alloc] at hs2
  clear hn hg2 hA
  go_wp2
  go_loopg [21] N.length (fun g i wr => ∃ k : Nat, k ≤ N.length ∧ g = N.length - k ∧ i = .int .i64 k ∧ MapK PVal.args wr (w.heap.size + 1) (cntK ((N.take k).filterMap (valR r))) k ∧ RuleBox wr w.heap.size r ∧ Mod (fun q => q = w.heap.size + 1) w2 wr)
  case atStart => exact ⟨0, by omega, by omega, rfl, HM2.out, HR2.out, Mod.rfl' _ w2⟩
  case round =>
    obtain ⟨k, hk, rfl, rfl, hm, hrb, hmd⟩ := hrel
    have HM := Lib.hid hm; have HMD := Lib.hid hmd; have HRB0 := Lib.hid hrb
    have hml := hm.lt
    have hNr := nodesMod HN.out hmd (fun b hb => by simp at hb ⊢; omega)
    obtain ⟨_, _, hv, -, -, hA⟩ := SlR.open hNr
    simp only [Value.slice.injEq, true_and] at hv
    obtain ⟨rfl, rfl⟩ := hv
    clear hm hrb
    by_cases hkl : k < N.length
    · obtain ⟨ba, oa, ra, rfl, hSa, hba, hRa, hca⟩ := hA k N[k] (List.getElem?_eq_getElem hkl)
      obtain ⟨pva, hba', a0, a1, a2, hpa⟩ := hRa.at hba (Grow.rfl' wr) hca
      clear hca hRa hSa hba hA hNr hmd
      have HT := Lib.hid (show N.take (k + 1) = N.take k ++ [N[k]] from List.take_succ_eq_append_getElem hkl)
      generalize N[k] = x at *
      have HPA := Lib.hid hpa
      obtain ⟨_, _, rfl⟩ := hpa.isSlice
      have HW := Lib.hid (show ∀ o1, Grow wr (wr.alloc o1) from fun o1 => (Grow.rfl' wr).allocd o1)
      clear hpa
      obtain ⟨gv, hgv⟩ : ∃ gv, getV x.props r.name = gv := ⟨_, rfl⟩
      obtain ⟨bb, hbb⟩ : ∃ b, ((getP x.props r.name).isSome && decide (x.typ = r.typ)) = b := ⟨_, rfl⟩
      have HV := Lib.hid (show valR r x = if bb = true then some gv else none by rw [valR_eq, hgv, hbb])
      have HGV := Lib.hid hgv; have HBB := Lib.hid hbb
      clear hgv hbb
      go_wp2_with fail
      refine (doublesVal x _ w.heap.size r _ _ (HPA.out.grow (HW.out _)) (HRB0.out.grow (HW.out _))).mono ?_
      rintro e w3 ⟨rfl, hw3⟩
      rw [HGV.out, HBB.out]
      have HW3 := Lib.hid ((HW.out _).step hw3)
      have hsz := HMD.out.size
      have hml3 := (HM.out.grow HW3.out).lt
      clear hw3 a0 a1 a2 hml hba'
      have HM3 := Lib.hid (show MapK PVal.args (w3.alloc (.cells #[.int .i64 gv.kind, .int .i64 gv.n, .string gv.s] 42 (0, 0))).drew (w.heap.size + 1) (cntK ((N.take k).filterMap (valR r))) k from (HM.out.grow HW3.out).grow (((Grow.rfl' w3).allocd _).drewd))
      have HSTAY := Lib.hid (show ∀ o1, MapK PVal.args (w3.alloc o1) (w.heap.size + 1) (cntK ((N.take k).filterMap (valR r))) k ∧ RuleBox (w3.alloc o1) w.heap.size r ∧ Mod (fun q => q = w.heap.size + 1) w2 (w3.alloc o1) from fun o1 => ⟨(HM.out.grow HW3.out).grow ((Grow.rfl' w3).allocd o1), (HRB0.out.grow HW3.out).grow ((Grow.rfl' w3).allocd o1), (HMD.out.step (Mod.of_grow HW3.out)).allocd o1⟩)
      cases bb
      · have HV' := Lib.hid (show valR r x = none by rw [HV.out]; rfl)
        go_wp2
        go_roundg (N.length - (k + 1))
        case measure => omega
        case rel =>
          refine ⟨k + 1, by omega, rfl, by go_num, ?_, (HSTAY.out _).2.1, (HSTAY.out _).2.2⟩
          rw [HT.out, List.filterMap_append, List.filterMap_cons_none HV'.out]
          simpa using (HSTAY.out _).1.mono (by omega)
      · have HVS := Lib.hid (show valR r x = some gv by rw [HV.out]; rfl)
        clear HV
        have HV := HVS
        go_wp2_with fail
        have HMD3 := Lib.hid (show Mod (fun q => q = w.heap.size + 1) w2 (w3.alloc (.cells #[.int .i64 gv.kind, .int .i64 gv.n, .string gv.s] 42 (0, 0))).drew from (HSTAY.out _).2.2.drewd)
        have hnew : ∀ w' : World, (w'.heap[w3.heap.size]? = some (.cells #[.int .i64 gv.kind, .int .i64 gv.n, .string gv.s] 42 (0, 0))) → w'.cell? ⟨w3.heap.size, 0, none⟩ = some (.int .i64 gv.kind) ∧ w'.cell? ⟨w3.heap.size, 1, none⟩ = some (.int .i64 gv.n) ∧ w'.cell? ⟨w3.heap.size, 2, none⟩ = some (.string gv.s) := fun w' h => ⟨by rw [blk_cell h]; rfl, by rw [blk_cell h]; rfl, by rw [blk_cell h]; rfl⟩
        have hbx : (w3.alloc (.cells #[.int .i64 gv.kind, .int .i64 gv.n, .string gv.s] 42 (0, 0))).drew.heap[w3.heap.size]? = some (.cells #[.int .i64 gv.kind, .int .i64 gv.n, .string gv.s] 42 (0, 0)) := heap_alloc_new w3 _
        have KEEP0 := Lib.hid (hnew _ hbx)
        have KEEP5 := Lib.hid (show ∀ w5 : World, Mod (fun q => q = w.heap.size + 1) (w3.alloc (.cells #[.int .i64 gv.kind, .int .i64 gv.n, .string gv.s] 42 (0, 0))).drew w5 → _ from fun w5 h => hnew w5 ((h.block _ (blk_lt hbx) (by show ¬ w3.heap.size = w.heap.size + 1; omega)).trans hbx))
        have HRB := Lib.hid (show ∀ w5 : World, Mod (fun q => q = w.heap.size + 1) (w3.alloc (.cells #[.int .i64 gv.kind, .int .i64 gv.n, .string gv.s] 42 (0, 0))).drew w5 → RuleBox w5 w.heap.size r from fun w5 h => ruleMod (show RuleBox (w3.alloc (.cells #[.int .i64 gv.kind, .int .i64 gv.n, .string gv.s] 42 (0, 0))).drew w.heap.size r from (HSTAY.out _).2.1) h (by show ¬ w.heap.size = w.heap.size + 1; omega))
        clear hnew hbx
        have HWR := Lib.hid (show IntKind.i64.wrap ((((N.take k).filterMap (valR r)).count gv : Int) + 1) = (((N.take k).filterMap (valR r)).count gv : Int) + 1 by
          have h1 := List.count_le_length (a := gv) (l := (N.take k).filterMap (valR r))
          have h2 := List.length_filterMap_le (valR r) (N.take k)
          rw [List.length_take] at h2
          rw [IntKind.wrap_i64] <;> omega)
        refine wp_region_noPanic ?_
        refine wp_region_held_drew (S := fun w' => w'.cell? ⟨w3.heap.size, 0, none⟩ = some (.int .i64 gv.kind) ∧ w'.cell? ⟨w3.heap.size, 1, none⟩ = some (.int .i64 gv.n) ∧ w'.cell? ⟨w3.heap.size, 2, none⟩ = some (.string gv.s)) (by kernel_rfl) ?_ (fun hHeld => ?_)
        · exact KEEP0.out
        refine' wpAnyH_take (i := 0) (oi := ?o13) (v := _) (by simp only [List.getElem?_toArray, List.getElem?_cons_zero]; rfl) (by kernel_rfl) (by kernel_rfl) (by kernel_rfl) (fun _ _ _ h => h) (Or.inl ⟨by rfl, ?y13⟩) (by assumption) ?r13
        case y13 =>
          intro wS hSw
          try dsimp only at hSw
          go_simp
          all_goals with_reducible rfl
        simp only [Act.put, List.setIfInBounds_toArray, List.set_cons_zero, List.set_cons_succ]
        refine' wpAnyH_take (i := 1) (oi := ?o14) (v := _) (by simp only [List.getElem?_toArray, List.getElem?_cons_succ, List.getElem?_cons_zero]; rfl) (by kernel_rfl) (by kernel_rfl) (by kernel_rfl) (fun _ _ _ h => h) (Or.inl ⟨by rfl, ?y14⟩) (by assumption) ?r14
        case y14 =>
          intro wS hSw
          try dsimp only at hSw
          go_simp
          all_goals with_reducible rfl
        simp only [Act.put, List.setIfInBounds_toArray, List.set_cons_zero, List.set_cons_succ]
        refine wpAnyH_ready (rs := [2, 4]) (by kernel_rfl) (by simp) ?_
        refine' AllReadyH.cons (o := ?o15) (by simp only [List.getElem?_toArray, List.getElem?_cons_succ, List.getElem?_cons_zero]; rfl) (fun K hK => ?s15) ?m15
        rotate_left
        · refine' AllReadyH.cons (o := ?o16) (by simp only [List.getElem?_toArray, List.getElem?_cons_succ, List.getElem?_cons_zero]; rfl) (fun K hK => ?s16) ?m16
          case m16 => exact AllReadyH.nil
          refine step_entryK rfl (.tmp 32) (.tmp 33) 165 rfl 42 3 Tryz.underlying165 keyV (.int .i64 0) zeroIntV (by rfl) HM3.out gv (by rfl) _ (cntK_getD _ gv) ?_
          intro w5 s5 q1 q2 q3 q4
          refine hK.out _ _ ?_ (fun hHeld => ?_)
          · exact KEEP5.out w5 q3
          clear hK K
          try simp only [Act.put, List.setIfInBounds_toArray, List.set_cons_zero, List.set_cons_succ]
          refine' wpAnyH_take (i := 5) (oi := ?o17) (v := _) (by simp only [List.getElem?_toArray, List.getElem?_cons_succ, List.getElem?_cons_zero]; rfl) (by kernel_rfl) (by kernel_rfl) (by kernel_rfl) (fun _ _ _ h => h) (Or.inl ⟨by rfl, ?y17⟩) (by assumption) ?r17
          case y17 =>
            intro wS hSw
            try dsimp only at hSw
            go_simp
            all_goals with_reducible rfl
          simp only [Act.put, List.setIfInBounds_toArray, List.set_cons_zero, List.set_cons_succ]
          refine wpAnyH_ready (rs := [2]) (by kernel_rfl) (by simp) ?_
          refine' AllReadyH.cons (o := ?o18) (by simp only [List.getElem?_toArray, List.getElem?_cons_succ, List.getElem?_cons_zero]; rfl) (fun K hK => ?s18) ?m18
          case m18 => exact AllReadyH.nil
          refine step_lookK rfl (.tmp 32) (.tmp 33) 165 rfl 42 3 Tryz.underlying165 keyV (.int .i64 0) (zeroIntV _) (by rfl) q1 gv (by rfl) (.int .i64 (((N.take k).filterMap (valR r)).count gv : Int)) (by rw [kput_same]; rfl) ?_
          refine hK.out _ _ ?_ (fun hHeld => ?_)
          · exact KEEP5.out w5 q3
          clear hK K
          try simp only [Act.put, List.setIfInBounds_toArray, List.set_cons_zero, List.set_cons_succ]
          refine' wpAnyH_take (i := 3) (oi := ?o19) (v := _) (by simp only [List.getElem?_toArray, List.getElem?_cons_succ, List.getElem?_cons_zero]; rfl) (by kernel_rfl) (by kernel_rfl) (by kernel_rfl) (fun _ _ _ h => h) (Or.inl ⟨by rfl, ?y19⟩) (by assumption) ?r19
          case y19 =>
            intro wS hSw
            try dsimp only at hSw
            go_simp
            all_goals with_reducible rfl
          simp only [Act.put, List.setIfInBounds_toArray, List.set_cons_zero, List.set_cons_succ]
          refine wpAnyH_ready (rs := [6]) (by kernel_rfl) (by simp) ?_
          refine' AllReadyH.cons (o := ?o20) (by simp only [List.getElem?_toArray, List.getElem?_cons_succ, List.getElem?_cons_zero]; rfl) (fun K hK => ?s20) ?m20
          case m20 => exact AllReadyH.nil
          refine step_storeK rfl (.tmp 32) (.tmp 37) (.tmp 35) 165 rfl 42 keyV (by rfl) q1 gv s5 (by rfl) q2 (.int .i64 ((((N.take k).filterMap (valR r)).count gv : Int) + 1)) (by simp [Act.eval, HWR.out]) ?_
          intro w6 p1 p3 p4
          rw [kput_twice, ← kput_twice _ _ (.int .i64 0), cntK_step] at p1
          refine hK.out _ _ ?_ (fun hHeld => ?_)
          · exact KEEP5.out w6 (q3.step p3)
          clear hK K
          try simp only [Act.put]
          refine wpAnyH_done (by kernel_rfl) ?_ _
          refine NoPanic.normal ?_
          have HM6 := Lib.hid p1
          have HG6 := Lib.hid (HMD3.out.step (q3.step p3))
          have HB6 := Lib.hid (HRB.out w6 (q3.step p3))
          clear q1 q2 q3 q4 p1 p3 p4
          go_wp2
          go_roundg (N.length - (k + 1))
          case measure => omega
          case rel =>
            refine ⟨k + 1, by omega, rfl, by go_num, ?_, HB6.out, HG6.out⟩
            rw [HT.out, List.filterMap_append, List.filterMap_cons_some HV.out]
            exact HM6.out
        refine step_lookK rfl (.tmp 32) (.tmp 33) 165 rfl 42 3 Tryz.underlying165 keyV (.int .i64 0) (zeroIntV _) (by rfl) HM3.out gv (by rfl) _ (cntK_getD _ gv) ?_
        refine hK.out _ _ ?_ (fun hHeld => ?_)
        · exact KEEP0.out
        clear hK K
        try simp only [Act.put, List.setIfInBounds_toArray, List.set_cons_zero, List.set_cons_succ]
        refine' wpAnyH_take (i := 3) (oi := ?o21) (v := _) (by simp only [List.getElem?_toArray, List.getElem?_cons_succ, List.getElem?_cons_zero]; rfl) (by kernel_rfl) (by kernel_rfl) (by kernel_rfl) (fun _ _ _ h => h) (Or.inl ⟨by rfl, ?y21⟩) (by assumption) ?r21
        case y21 =>
          intro wS hSw
          try dsimp only at hSw
          go_simp
          all_goals with_reducible rfl
        simp only [Act.put, List.setIfInBounds_toArray, List.set_cons_zero, List.set_cons_succ]
        refine wpAnyH_ready (rs := [4]) (by kernel_rfl) (by simp) ?_
        refine' AllReadyH.cons (o := ?o22) (by simp only [List.getElem?_toArray, List.getElem?_cons_succ, List.getElem?_cons_zero]; rfl) (fun K hK => ?s22) ?m22
        case m22 => exact AllReadyH.nil
        refine step_entryK rfl (.tmp 32) (.tmp 33) 165 rfl 42 3 Tryz.underlying165 keyV (.int .i64 0) zeroIntV (by rfl) HM3.out gv (by rfl) _ (cntK_getD _ gv) ?_
        intro w5 s5 q1 q2 q3 q4
        refine hK.out _ _ ?_ (fun hHeld => ?_)
        · exact KEEP5.out w5 q3
        clear hK K
        try simp only [Act.put, List.setIfInBounds_toArray, List.set_cons_zero, List.set_cons_succ]
        refine' wpAnyH_take (i := 5) (oi := ?o23) (v := _) (by simp only [List.getElem?_toArray, List.getElem?_cons_succ, List.getElem?_cons_zero]; rfl) (by kernel_rfl) (by kernel_rfl) (by kernel_rfl) (fun _ _ _ h => h) (Or.inl ⟨by rfl, ?y23⟩) (by assumption) ?r23
        case y23 =>
          intro wS hSw
          try dsimp only at hSw
          go_simp
          all_goals with_reducible rfl
        simp only [Act.put, List.setIfInBounds_toArray, List.set_cons_zero, List.set_cons_succ]
        refine wpAnyH_ready (rs := [6]) (by kernel_rfl) (by simp) ?_
        refine' AllReadyH.cons (o := ?o24) (by simp only [List.getElem?_toArray, List.getElem?_cons_succ, List.getElem?_cons_zero]; rfl) (fun K hK => ?s24) ?m24
        case m24 => exact AllReadyH.nil
        refine step_storeK rfl (.tmp 32) (.tmp 37) (.tmp 35) 165 rfl 42 keyV (by rfl) q1 gv s5 (by rfl) q2 (.int .i64 ((((N.take k).filterMap (valR r)).count gv : Int) + 1)) (by simp [Act.eval, HWR.out]) ?_
        intro w6 p1 p3 p4
        rw [kput_twice, ← kput_twice _ _ (.int .i64 0), cntK_step] at p1
        refine hK.out _ _ ?_ (fun hHeld => ?_)
        · exact KEEP5.out w6 (q3.step p3)
        clear hK K
        try simp only [Act.put]
        refine wpAnyH_done (by kernel_rfl) ?_ _
        refine NoPanic.normal ?_
        have HM6 := Lib.hid p1
        have HG6 := Lib.hid (HMD3.out.step (q3.step p3))
        have HB6 := Lib.hid (HRB.out w6 (q3.step p3))
        clear q1 q2 q3 q4 p1 p3 p4
        go_wp2
        go_roundg (N.length - (k + 1))
        case measure => omega
        case rel =>
          refine ⟨k + 1, by omega, rfl, by go_num, ?_, HB6.out, HG6.out⟩
          rw [HT.out, List.filterMap_append, List.filterMap_cons_some HV.out]
          exact HM6.out
    · have hkk : N.take k = N := List.take_of_length_le (by omega)
      rw [hkk] at HM
      obtain ⟨wf, rfl⟩ : ∃ wf, wf = wr := ⟨_, rfl⟩
      have HG4 := Lib.hid (show Grow w wf from HG2.out.modd HMD.out (fun q hq => by rw [hq]; omega))
      clear hkk hNr hmd hA hml
      go_wp2_with fail
      refine (HGA.out _ HG4.out).1.mono ?_
      rintro e w3 ⟨v3, rfl, hn3, hg3⟩
      obtain ⟨ab, cb, rfl, hbl, hbc, hB⟩ := SlR.open hn3
      unfold maxLen at hbc
      have HB := Lib.hid hB
      have HM3 := Lib.hid (HM.out.grow hg3); have HR3 := Lib.hid (HRB0.out.grow hg3); have HG3 := Lib.hid (HG4.out.step hg3)
      have HI0 := Lib.hid (IdsW.nil w3.heap.size w3)
      clear hn3 hg3 hB
      go_wp2
      go_loopg [11, 42] N.length (fun g lv i wr => ∃ j : Nat, j ≤ N.length ∧ g = N.length - j ∧ i = .int .i64 j ∧ IdsW w3.heap.size wr lv (((N.take j).filter (doubR N r)).map (·.id)) ∧ Grow w3 wr)
      case atStart => exact ⟨0, by omega, by omega, rfl, HI0.out, Grow.rfl' w3⟩
      case round =>
        obtain ⟨j, hj, rfl, rfl, hi, hz⟩ := hrel
        obtain ⟨oa, co, rfl, _, _⟩ := hi.isSlice
        have HI := Lib.hid hi; have HZ := Lib.hid hz
        clear hi
        by_cases hjl : j < N.length
        · obtain ⟨ba, oa', ra, rfl, hSa, hba, hRa, hca⟩ := HB.out j N[j] (List.getElem?_eq_getElem hjl)
          obtain ⟨pva, hba', a0, a1, a2, hpa⟩ := hRa.at hba hz hca
          clear hca hRa hSa hba hz
          have HT := Lib.hid (show N.take (j + 1) = N.take j ++ [N[j]] from List.take_succ_eq_append_getElem hjl)
          have HLE := Lib.hid (show (((N.take j).filter (doubR N r)).map (·.id)).length ≤ N.length by
            rw [List.length_map]
            exact Nat.le_trans (List.length_filter_le _ _) (by rw [List.length_take]; omega))
          generalize N[j] = x at *
          have HPA := Lib.hid hpa
          obtain ⟨_, _, rfl⟩ := hpa.isSlice
          have HW := Lib.hid (show ∀ o1, Grow wr (wr.alloc o1) from fun o1 => (Grow.rfl' wr).allocd o1)
          have HNB := Lib.hid (show ∀ o1 w', Grow (wr.alloc o1) w' → w'.heap[wr.heap.size]? = some o1 from fun o1 w' hg => by rw [hg.heapEq (by simp)]; exact heap_alloc_new wr _)
          clear hpa
          obtain ⟨gv, hgv⟩ : ∃ gv, getV x.props r.name = gv := ⟨_, rfl⟩
          obtain ⟨bb, hbb⟩ : ∃ b, ((getP x.props r.name).isSome && decide (x.typ = r.typ)) = b := ⟨_, rfl⟩
          have HV := Lib.hid (show valR r x = if bb = true then some gv else none by rw [valR_eq, hgv, hbb])
          have HGV := Lib.hid hgv; have HBB := Lib.hid hbb
          clear hgv hbb
          generalize hfl : ((N.take j).filter (doubR N r)).map (·.id) = fl at *
          have HFF := Lib.hid hfl
          clear hfl
          go_wp2_with fail
          refine (doublesVal x _ w.heap.size r _ _ (HPA.out.grow (HW.out _)) ((HR3.out.grow HZ.out).grow (HW.out _))).mono ?_
          rintro e w4 ⟨rfl, hw4⟩
          rw [HGV.out, HBB.out]
          have hnb := HNB.out _ w4 hw4
          have hnl := blk_lt hnb
          have n0 : w4.cell? ⟨wr.heap.size, 0, none⟩ = some (.int .i64 x.id) := by rw [blk_cell hnb]; rfl
          have HW4 := Lib.hid ((HW.out _).step hw4)
          have HZ4 := Lib.hid (HZ.out.step HW4.out)
          clear hnb hw4 a0 a1 a2 hba'
          cases bb
          · have HD := Lib.hid (show ((N.take (j + 1)).filter (doubR N r)).map (·.id) = fl by
              rw [HT.out, List.filter_append, ← HFF.out]
              unfold doubR
              simp [HV.out])
            have HE := Lib.hid (show ∀ o1, Grow w3 (w4.alloc o1) ∧ IdsW w3.heap.size (w4.alloc o1) (.slice oa fl.length co) fl from fun o1 => ⟨HZ4.out.allocd o1, (HI.out.grow HW4.out).grow ((Grow.rfl' w4).allocd o1)⟩)
            go_wp2
            go_roundg (N.length - (j + 1))
            case measure => omega
            case rel => exact ⟨j + 1, by omega, rfl, by go_num, by rw [HD.out]; exact (HE.out _).2, (HE.out _).1⟩
          · obtain ⟨c, hcc⟩ : ∃ c, (N.filterMap (valR r)).count gv = c := ⟨_, rfl⟩
            have hlk : ∀ v1 v2 v3 : Value, v1 = .int .i64 gv.kind → v2 = .int .i64 gv.n → v3 = .string gv.s → (Instr.lookup 165 (.map (some (w.heap.size + 1))) (.agg #[v1, v2, v3]) false).run Tryz.prog (w4.alloc (.cells #[.int .i64 gv.kind, .int .i64 gv.n, .string gv.s] 42 (0, 0))) = .ok (.int .i64 (c : Int)) (w4.alloc (.cells #[.int .i64 gv.kind, .int .i64 gv.n, .string gv.s] 42 (0, 0))) := by
              rintro _ _ _ rfl rfl rfl
              have h := ((HM3.out.grow HZ4.out).grow ((Grow.rfl' w4).allocd (.cells #[.int .i64 gv.kind, .int .i64 gv.n, .string gv.s] 42 (0, 0)))).look Tryz.underlying165 keyV (zeroIntV _) gv
              rw [cntK_getD, hcc] at h
              exact h
            have hlk := hlk _ _ _ rfl rfl rfl
            have HI4 := Lib.hid (HI.out.grow HW4.out)
            by_cases h2 : 2 ≤ c
            · have HD := Lib.hid (show ((N.take (j + 1)).filter (doubR N r)).map (·.id) = fl ++ [x.id] by
                rw [HT.out, List.filter_append, ← HFF.out]
                simp [doubR, HV.out, hcc, h2])
              have hlt : decide ((1 : Int) < (c : Int)) = true := by simp; omega
              have HE := Lib.hid (show ∀ o1 o2, Grow w3 ((w4.alloc o1).alloc o2) ∧ IdsW w3.heap.size ((w4.alloc o1).alloc o2) (.slice oa fl.length co) fl from fun o1 o2 => ⟨(HZ4.out.allocd o1).allocd o2, HI4.out.grow (((Grow.rfl' w4).allocd o1).allocd o2)⟩)
              have hzs := HZ4.out.size
              go_wp2_with (at_builtin; go_must (refine wpList_append_I rfl (.tmp 59) (.tmp 62) 32 rfl Tryz.underlying32 w3.heap.size _ fl rfl (HE.out _ _).2 x.id _ rfl (rd1 _ _ _ (by simp)) (by simp; omega) (by have := HLE.out; have := HBD.out; omega) ?_))
              intro v5 w5 k1 k2 k3
              have H5 := Lib.hid k1; have HG5 := Lib.hid ((HE.out _ _).1.since k2 (Nat.le_refl _))
              clear k1 k2 k3
              go_wp2
              go_roundg (N.length - (j + 1))
              case measure => omega
              case rel => exact ⟨j + 1, by omega, rfl, by go_num, by rw [HD.out]; exact H5.out, HG5.out⟩
            · have HD := Lib.hid (show ((N.take (j + 1)).filter (doubR N r)).map (·.id) = fl by
                rw [HT.out, List.filter_append, ← HFF.out]
                simp [doubR, HV.out, hcc, h2])
              have hlt : decide ((1 : Int) < (c : Int)) = false := by simp; omega
              have HE := Lib.hid (show ∀ o1, Grow w3 (w4.alloc o1) ∧ IdsW w3.heap.size (w4.alloc o1) (.slice oa fl.length co) fl from fun o1 => ⟨HZ4.out.allocd o1, (HI.out.grow HW4.out).grow ((Grow.rfl' w4).allocd o1)⟩)
              go_wp2
              go_roundg (N.length - (j + 1))
              case measure => omega
              case rel => exact ⟨j + 1, by omega, rfl, by go_num, by rw [HD.out]; exact (HE.out _).2, (HE.out _).1⟩
        · have hkk : N.take j = N := List.take_of_length_le (by omega)
          rw [hkk] at HI
          simp only [hkk]
          clear hkk
          go_wp2
          go_ret
          exact (HI.out.base HG3.out.size).post (HG3.out.step HZ.out)
end Go.Hg

namespace Go.Hg
open Go.RowKit Go.Proofs

/-- a node that is asked of a graph's value -/
def GNode (gv : Value) (N : List PNode) (w : World) : Prop := ∀ w', Grow w w' → ∀ id : Int,
  Calls Tryz.prog 53 #[gv, .int .i64 id] w' fun e w2 => (∃ i oa n c b, e = .returned (.tuple #[.agg #[.int .i64 i, .string ((typeN N id).getD ByteArray.empty), .slice oa n c], .bool b])) ∧ Grow w' w2
theorem GNode.grow {gv : Value} {N : List PNode} {w w1 : World} (h : GNode gv N w) (g : Grow w w1) : GNode gv N w1 := fun w' g' => h w' (g.step g')
theorem gNode_of {S : Nat → Prop} {B : Nat} {G : PGraph} {w : World} (h : GraphRd 120 S w B G) (hi : GInv G) : GNode (.pointer (some ⟨B, 0, none⟩)) G.nodes w := fun w' g id =>
  (graphGetNode S B G id w' (h.grow g) hi.nodes (by have := hi.items; omega) (fun x hx => by have := (hi.nodesB x hx).2.2; omega)).mono fun e w2 hp => by
    unfold typeN
    rcases hp with ⟨⟨h0, rfl⟩ | ⟨x, pv, h0, rfl, hpv⟩, hg⟩
    · rw [h0]
      exact ⟨⟨_, _, _, _, _, rfl⟩, hg⟩
    · rw [h0]
      obtain ⟨_, _, rfl⟩ := hpv.isSlice
      exact ⟨⟨_, _, _, _, _, rfl⟩, hg⟩
set_option maxHeartbeats 400000 in
theorem graphAskNil (id : Int) (w : World) : Calls Tryz.prog 53 #[.pointer none, .int .i64 id] w fun e w' => (∃ i oa n c b, e = .returned (.tuple #[.agg #[.int .i64 i, .string ByteArray.empty, .slice oa n c], .bool b])) ∧ Grow w w' := by
  have HD := Lib.hid (show ∀ o1, Grow w (w.alloc o1) from fun o1 => (Grow.rfl' w).allocd o1)
  go_enter Tryz.func53, Tryz.ntmps53
  go_wp2
  refine bodyPost_ret (v := .tuple #[.agg #[.int .i64 0, .string ⟨#[]⟩, .slice none 0 0], .bool false]) (by simp [results, Tryz.results53, go_sem]) rfl ⟨⟨_, _, _, _, _, rfl⟩, ?_⟩
  first | exact HD.out _ | exact Grow.rfl' _
theorem gNode_nil (w : World) : GNode (.pointer none) [] w := fun w' _ id => graphAskNil id w'

/-- what Broken tells -/
def BrokPost (N : List PNode) (E : List PEdge) (r : PRule) (w : World) (e : Ending) (w' : World) : Prop := ∃ v L, e = .returned v ∧ BrokenR N E r L ∧ IdsR (fun b => w.heap.size ≤ b) w' v L ∧ Grow w w'
theorem BrokPost.of {N : List PNode} {E : List PEdge} {r : PRule} {w w1 w' : World} {v : Value} {L : List Int} (hb : BrokenR N E r L) (h : IdsR (fun b => w1.heap.size ≤ b) w' v L) (g : Grow w w1) (g' : Grow w1 w') : BrokPost N E r w (.returned v) w' :=
  ⟨v, L, rfl, hb, SlR.sub h (fun _ hb => Nat.le_trans g.size hb) (fun _ _ _ h => h), g.step g'⟩
theorem IdsPost.toR {l : List Int} {w w' : World} {e : Ending} (h : IdsPost l w e w') : ∃ v, e = .returned v ∧ IdsR (fun b => w.heap.size ≤ b) w' v l ∧ Grow w w' := by
  obtain ⟨v, h0, h1, h2⟩ := h.open
  exact ⟨v, h0, h1.toR, h2⟩

set_option maxRecDepth 100000 in
set_option maxHeartbeats 1000000 in
theorem brokenNo (gv : Value) (N : List PNode) (E : List PEdge) (r : PRule) (w : World) (hf : formR r = false) :
    Calls Tryz.prog 16 #[gv, r.args] w (BrokPost N E r w) := by
  have HF := Lib.hid hf
  have HW := Lib.hid (show ∀ o1, Grow w (w.alloc o1) from fun o1 => (Grow.rfl' w).allocd o1)
  clear hf
  go_enter Tryz.func16, Tryz.ntmps16
  go_wp2_with fail
  refine (ruleForm r _).mono ?_
  rintro e w2 ⟨rfl, g2⟩
  have HG2 := Lib.hid ((HW.out _).step g2)
  rw [HF.out]
  clear g2
  go_wp2
  go_ret
  exact ⟨_, [], rfl, ⟨fun _ => rfl, fun h => absurd h (by rw [HF.out]; simp)⟩, ⟨none, 0, [], rfl, Nat.le_refl _, by simp [maxLen], rfl, by simp, by simp⟩, HG2.out⟩

theorem ruleBoxNew (w : World) (r : PRule) (w' : World) (g : Grow (w.alloc (.cells #[.int .i64 r.id, .int .i64 r.kind, .string r.typ, .string r.name, .string r.from_, .string r.to_, .int .i64 r.n, .int .i64 r.state] 24 (0, 0))) w') : RuleBox w' w.heap.size r := by
  unfold RuleBox
  rw [g.heapEq (by simp)]
  exact heap_alloc_new w _

set_option maxRecDepth 100000 in
set_option maxHeartbeats 1000000 in
theorem brokenUniq (gv : Value) (N : List PNode) (E : List PEdge) (r : PRule) (w : World) (hg : GAt gv N E w) (hb : N.length ≤ 1099511627776) (hf : formR r = true) (hk : r.kind = 1) :
    Calls Tryz.prog 16 #[gv, r.args] w (BrokPost N E r w) := by
  have HF := Lib.hid hf; have HK := Lib.hid hk; have HGA := Lib.hid hg; have HB := Lib.hid hb
  have HW := Lib.hid (show ∀ o1, Grow w (w.alloc o1) from fun o1 => (Grow.rfl' w).allocd o1)
  clear hf hk hg hb
  go_enter Tryz.func16, Tryz.ntmps16
  go_wp2_with fail
  refine (ruleForm r _).mono ?_
  rintro e w2 ⟨rfl, g2⟩
  have HG2 := Lib.hid ((HW.out _).step g2)
  obtain ⟨hrl, c1, c2, c3, c4, c5, c6, c7, c0⟩ := (ruleBoxNew w r w2 g2).cells
  rw [HF.out]
  rw [HK.out] at c1
  clear g2
  go_wp2_with fail
  rw [← HK.out]
  refine (checkDoubles gv N E r _ (HGA.out.grow HG2.out) HB.out).mono ?_
  intro e w3 h3
  obtain ⟨v3, rfl, hi, g3⟩ := h3.toR
  have HR := Lib.hid (BrokPost.of (N := N) (E := E) (r := r) ⟨fun h => absurd h (by rw [HF.out]; simp), fun _ => by unfold BrkR; rw [if_pos HK.out]⟩ hi HG2.out g3)
  clear h3 hi g3 c1 c2 c3 c4 c5 c6 c7 c0
  go_wp2
  go_ret
  exact HR.out

set_option maxRecDepth 100000 in
set_option maxHeartbeats 2000000 in
theorem brokenExists (gv : Value) (N : List PNode) (E : List PEdge) (r : PRule) (w : World) (hg : GAt gv N E w) (hb : N.length ≤ 1099511627776) (hf : formR r = true) (hk : r.kind = 2) :
    Calls Tryz.prog 16 #[gv, r.args] w (BrokPost N E r w) := by
  have HF := Lib.hid hf; have HK := Lib.hid hk; have HGA := Lib.hid hg; have HBD := Lib.hid hb
  have HW := Lib.hid (show ∀ o1, Grow w (w.alloc o1) from fun o1 => (Grow.rfl' w).allocd o1)
  clear hf hk hg hb
  go_enter Tryz.func16, Tryz.ntmps16
  go_wp2_with fail
  refine (ruleForm r _).mono ?_
  rintro e w2 ⟨rfl, g2⟩
  have HG2 := Lib.hid ((HW.out _).step g2)
  have HRB := Lib.hid (ruleBoxNew w r w2 g2)
  obtain ⟨hrl, c1, c2, c3, c4, c5, c6, c7, c0⟩ := HRB.out.cells
  rw [HF.out]
  rw [HK.out] at c1
  clear g2
  go_wp2_with fail
  refine (HGA.out _ HG2.out).1.mono ?_
  rintro e w3 ⟨v3, rfl, hn3, hg3⟩
  obtain ⟨ab, cb, rfl, hbl, hbc, hB⟩ := SlR.open hn3
  unfold maxLen at hbc
  have HB := Lib.hid hB
  have HR3 := Lib.hid (HRB.out.grow hg3); have HG3 := Lib.hid (HG2.out.step hg3)
  have HI0 := Lib.hid (IdsW.nil w3.heap.size w3)
  clear hn3 hg3 hB hrl c1 c2 c3 c4 c5 c6 c7 c0
  go_wp2
  go_loopg [5, 35] N.length (fun g lv i wr => ∃ j : Nat, j ≤ N.length ∧ g = N.length - j ∧ i = .int .i64 j ∧ IdsW w3.heap.size wr lv (((N.take j).filter (lacksR r)).map (·.id)) ∧ Grow w3 wr)
  case atStart => exact ⟨0, by omega, by omega, rfl, HI0.out, Grow.rfl' w3⟩
  case round =>
    obtain ⟨j, hj, rfl, rfl, hi, hz⟩ := hrel
    obtain ⟨oa, co, rfl, _, _⟩ := hi.isSlice
    have HI := Lib.hid hi; have HZ := Lib.hid hz
    clear hi
    by_cases hjl : j < N.length
    · obtain ⟨ba, oa', ra, rfl, hSa, hba, hRa, hca⟩ := HB.out j N[j] (List.getElem?_eq_getElem hjl)
      obtain ⟨pva, hba', a0, a1, a2, hpa⟩ := hRa.at hba hz hca
      clear hca hRa hSa hba hz
      have HT := Lib.hid (show N.take (j + 1) = N.take j ++ [N[j]] from List.take_succ_eq_append_getElem hjl)
      have HLE := Lib.hid (show (((N.take j).filter (lacksR r)).map (·.id)).length ≤ N.length by
        rw [List.length_map]
        exact Nat.le_trans (List.length_filter_le _ _) (by rw [List.length_take]; omega))
      generalize N[j] = x at *
      have HPA := Lib.hid hpa
      obtain ⟨_, _, rfl⟩ := hpa.isSlice
      have HWR := Lib.hid (show ∀ o1, Grow wr (wr.alloc o1) from fun o1 => (Grow.rfl' wr).allocd o1)
      have HNB := Lib.hid (show ∀ o1 w', Grow (wr.alloc o1) w' → w'.heap[wr.heap.size]? = some o1 from fun o1 w' hg => by rw [hg.heapEq (by simp)]; exact heap_alloc_new wr _)
      obtain ⟨hrl, c1, c2, c3, c4, c5, c6, c7, c0⟩ := (HR3.out.grow HZ.out).cells
      clear hpa c1 c4 c5 c6 c7 c0
      obtain ⟨gv1, hgv⟩ : ∃ gv, getV x.props r.name = gv := ⟨_, rfl⟩
      obtain ⟨bo, hbo⟩ : ∃ b, (getP x.props r.name).isSome = b := ⟨_, rfl⟩
      obtain ⟨bt, hbt⟩ : ∃ b, decide (x.typ = r.typ) = b := ⟨_, rfl⟩
      have HV := Lib.hid (show lacksR r x = (bt && !bo) by unfold lacksR; rw [hbt, ← hbo]; cases getP x.props r.name <;> rfl)
      have HGV := Lib.hid hgv; have HBO := Lib.hid hbo
      clear hgv hbo
      generalize hfl : ((N.take j).filter (lacksR r)).map (·.id) = fl at *
      have HFF := Lib.hid hfl
      clear hfl
      go_wp2_with fail
      refine (valGet _ _ x.props r.name _ (HPA.out.grow (HWR.out _))).mono ?_
      rintro e w4 ⟨rfl, hw4⟩
      rw [HGV.out, HBO.out]
      have hnb := HNB.out _ w4 hw4
      have hnl := blk_lt hnb
      have n0 : w4.cell? ⟨wr.heap.size, 0, none⟩ = some (.int .i64 x.id) := by rw [blk_cell hnb]; rfl
      have n1 : w4.cell? ⟨wr.heap.size, 1, none⟩ = some (.string x.typ) := by rw [blk_cell hnb]; rfl
      have HW4 := Lib.hid ((HWR.out _).step hw4)
      have HZ4 := Lib.hid (HZ.out.step HW4.out)
      clear hnb hw4 a0 a1 a2 hba' hrl c2 c3
      obtain ⟨hrl, c1, c2, c3, c4, c5, c6, c7, c0⟩ := ((HR3.out.grow HZ.out).grow HW4.out).cells
      clear c1 c3 c4 c5 c6 c7 c0
      have HI4 := Lib.hid (HI.out.grow HW4.out)
      have HE1 := Lib.hid (show ∀ o1, Grow w3 (w4.alloc o1) ∧ IdsW w3.heap.size (w4.alloc o1) (.slice oa fl.length co) fl from fun o1 => ⟨HZ4.out.allocd o1, HI4.out.grow ((Grow.rfl' w4).allocd o1)⟩)
      have HE2 := Lib.hid (show ∀ o1 o2, Grow w3 ((w4.alloc o1).alloc o2) ∧ IdsW w3.heap.size ((w4.alloc o1).alloc o2) (.slice oa fl.length co) fl from fun o1 o2 => ⟨(HZ4.out.allocd o1).allocd o2, HI4.out.grow (((Grow.rfl' w4).allocd o1).allocd o2)⟩)
      have hzs := HZ4.out.size
      by_cases h2 : lacksR r x = true
      · have HD := Lib.hid (show ((N.take (j + 1)).filter (lacksR r)).map (·.id) = fl ++ [x.id] by
          rw [HT.out, List.filter_append, ← HFF.out]
          simp [h2])
        obtain ⟨rfl, rfl⟩ : bt = true ∧ bo = false := by
          have h3 := HV.out.symm.trans h2
          cases bt <;> cases bo <;> first | exact ⟨rfl, rfl⟩ | cases h3
        clear h2
        go_wp2_with (at_builtin; go_must (refine wpList_append_I rfl (.tmp 56) (.tmp 59) 32 rfl Tryz.underlying32 w3.heap.size _ fl rfl (HE2.out _ _).2 x.id _ rfl (rd1 _ _ _ (by simp)) (by simp; omega) (by have := HLE.out; have := HBD.out; omega) ?_))
        intro v5 w5 k1 k2 k3
        have H5 := Lib.hid k1; have HG5 := Lib.hid ((HE2.out _ _).1.since k2 (Nat.le_refl _))
        clear k1 k2 k3
        go_wp2
        go_roundg (N.length - (j + 1))
        case measure => omega
        case rel => exact ⟨j + 1, by omega, rfl, by go_num, by rw [HD.out]; exact H5.out, HG5.out⟩
      · have HD := Lib.hid (show ((N.take (j + 1)).filter (lacksR r)).map (·.id) = fl by
          rw [HT.out, List.filter_append, ← HFF.out]
          simp [h2])
        have h3 : (bt && !bo) = false := by rw [← HV.out]; simpa using h2
        clear h2
        cases bt
        · go_wp2
          go_roundg (N.length - (j + 1))
          case measure => omega
          case rel => exact ⟨j + 1, by omega, rfl, by go_num, by rw [HD.out]; exact (HE1.out _).2, (HE1.out _).1⟩
        · cases bo
          · cases h3
          · clear h3
            go_wp2
            go_roundg (N.length - (j + 1))
            case measure => omega
            case rel => exact ⟨j + 1, by omega, rfl, by go_num, by rw [HD.out]; exact (HE1.out _).2, (HE1.out _).1⟩
    · have hkk : N.take j = N := List.take_of_length_le (by omega)
      rw [hkk] at HI
      simp only [hkk]
      have HR := Lib.hid (BrokPost.of (N := N) (E := E) (r := r) ⟨fun h => absurd h (by rw [HF.out]; simp), fun _ => by unfold BrkR; rw [if_neg (by have := HK.out; omega), if_pos HK.out]⟩ HI.out.toR HG3.out HZ.out)
      clear hkk
      go_wp2
      go_ret
      exact HR.out
end Go.Hg
