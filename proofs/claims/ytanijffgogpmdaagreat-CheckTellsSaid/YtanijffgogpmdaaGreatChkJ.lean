/- hedgerowref15.Broken: Most; hedgerowref15.Broken: Unique, Exists; hedgerowref15.Broken: Unique; hedgerowref15.Broken: all kinds; Keeps; hedgerowref15.First, hedgerowref21.Whole; hedgerowref21.Whole; hedgerowref20.has, Touches; hedgerowref20.Touches; dirty.among. Conditions: those that each theorem names. -/
import Derived.Test.YtanijffgogpmdaaGreatChkI
import Derived.Test.YtanijffgogpmdaaGreatChkH
import Derived.Deep.DeepCutAuto
import Derived.Test.YtanijffgogpmdaaGreatChkG
namespace Go.Hg
open Go.RowKit Go.Proofs

def mtE (r : PRule) (y : Int) (e : PEdge) : Bool := decide (e.typ = r.typ) && decide (e.from_ = y)
theorem outR_take {E : List PEdge} {r : PRule} {y : Int} {k : Nat} {e : PEdge} (hT : E.take (k + 1) = E.take k ++ [e]) : outR (E.take (k + 1)) r y = outR (E.take k) r y + if mtE r y e = true then 1 else 0 := by
  unfold outR
  rw [hT, List.filter_append, List.length_append]
  unfold mtE
  by_cases h : (decide (e.typ = r.typ) && decide (e.from_ = y)) = true
  · rw [if_pos h]; simp only [List.filter_cons, if_pos h, List.filter_nil, List.length_singleton]
  · rw [if_neg h]; simp only [List.filter_cons, if_neg h, List.filter_nil, List.length_nil]
def firstE (E : List PEdge) (r : PRule) (y : Int) (j k : Nat) : Bool := decide (outR (E.take (min k j)) r y = 0)
theorem firstE_step {E : List PEdge} {r : PRule} {y : Int} {j k : Nat} {e : PEdge} (hT : E.take (k + 1) = E.take k ++ [e]) : firstE E r y j (k + 1) = if mtE r y e = true then (firstE E r y j k && decide (j ≤ k)) else firstE E r y j k := by
  unfold firstE
  by_cases hk : j ≤ k
  · rw [Nat.min_eq_right (by omega), Nat.min_eq_right hk]
    by_cases h : mtE r y e = true <;> simp [h, hk]
  · rw [Nat.min_eq_left (by omega), Nat.min_eq_left (by omega), outR_take hT]
    by_cases h : mtE r y e = true
    · simp [h, hk]
    · simp [h]
/-- the edges up to i were gone over -/
def MostI (E : List PEdge) (r : PRule) (i : Nat) (l : List Int) : Prop := l.Nodup ∧ ∀ y, y ∈ l ↔ r.n < (outR E r y : Int) ∧ 0 < outR (E.take i) r y
theorem MostI.start (E : List PEdge) (r : PRule) : MostI E r 0 [] := ⟨.nil, fun y => by simp [outR]⟩
theorem MostI.step {E : List PEdge} {r : PRule} {i : Nat} {l : List Int} {e : PEdge} (h : MostI E r i l) (hT : E.take (i + 1) = E.take i ++ [e]) (hi : i ≤ E.length) {b : Bool}
    (hb : (decide (e.typ = r.typ) && (decide (r.n < (outR E r e.from_ : Int)) && firstE E r e.from_ i E.length)) = b) : MostI E r (i + 1) (if b = true then l ++ [e.from_] else l) := by
  unfold firstE at hb
  rw [Nat.min_eq_right hi] at hb
  cases b with
  | true =>
    simp only [Bool.and_eq_true, decide_eq_true_eq] at hb
    obtain ⟨h1, h2, h3⟩ := hb
    rw [if_pos rfl]
    refine ⟨?_, fun y => ?_⟩
    · rw [List.nodup_append]
      refine ⟨h.1, by simp, ?_⟩
      intro a ha c hc hac
      rw [List.mem_singleton] at hc
      subst hc; subst hac
      have := ((h.2 _).1 ha).2
      omega
    · rw [List.mem_append, List.mem_singleton, h.2, outR_take hT]
      constructor
      · rintro (⟨g1, g2⟩ | rfl)
        · exact ⟨g1, by omega⟩
        · exact ⟨h2, by simp [mtE, h1]⟩
      · rintro ⟨g1, g2⟩
        by_cases hm : mtE r y e = true
        · unfold mtE at hm
          simp only [Bool.and_eq_true, decide_eq_true_eq] at hm
          exact .inr hm.2.symm
        · rw [if_neg hm] at g2
          exact .inl ⟨g1, by omega⟩
  | false =>
    rw [if_neg (by simp)]
    refine ⟨h.1, fun y => ?_⟩
    rw [h.2, outR_take hT]
    constructor
    · rintro ⟨g1, g2⟩
      exact ⟨g1, by omega⟩
    · rintro ⟨g1, g2⟩
      refine ⟨g1, ?_⟩
      by_cases hm : mtE r y e = true
      · unfold mtE at hm
        simp only [Bool.and_eq_true, decide_eq_true_eq] at hm
        obtain ⟨m1, rfl⟩ := hm
        simp only [m1, decide_true, Bool.true_and, Bool.and_eq_false_iff, decide_eq_false_iff_not] at hb
        rcases hb with hb | hb
        · exact absurd g1 hb
        · omega
      · rw [if_neg hm] at g2
        omega
theorem MostI.done {E : List PEdge} {r : PRule} {l : List Int} (h : MostI E r E.length l) (hn : 0 ≤ r.n) : l.Nodup ∧ ∀ y, y ∈ l ↔ r.n < (outR E r y : Int) := by
  refine ⟨h.1, fun y => ?_⟩
  rw [h.2, List.take_length]
  constructor
  · exact fun g => g.1
  · exact fun g => ⟨g, by omega⟩

set_option maxRecDepth 100000 in
set_option maxHeartbeats 8000000 in
theorem refBrokenMost (S : Nat → Prop) (nv ev : Value) (N : List PNode) (E : List PEdge) (r : PRule) (w : World) (hn : NodesR S w nv N) (he : EdgesR S w ev E) (hb : E.length ≤ 1099511627776) (hf : formR r = true) (hk : r.kind = 4) :
    Calls Tryz.prog 58 #[nv, ev, r.args] w (RBrkPost N E r w) := by
  have HF := Lib.hid hf; have HK := Lib.hid hk; have HBD := Lib.hid hb
  have HW := Lib.hid (show ∀ o1, Grow w (w.alloc o1) from fun o1 => (Grow.rfl' w).allocd o1)
  obtain ⟨_, _, rfl, _⟩ := SlR.open hn
  obtain ⟨ae, ce, rfl, hel, hec, hE⟩ := SlR.open he
  unfold maxLen at hec
  have HE := Lib.hid (show ∀ (j : Nat) (hj : j < E.length), ∃ ba oa, ae = some ⟨ba, oa, none⟩ ∧ ∀ w', Grow w w' → ba < w'.heap.size ∧ w'.cell? ⟨ba, oa + j * 5 + 1, none⟩ = some (.string E[j].typ) ∧ w'.cell? ⟨ba, oa + j * 5 + 2, none⟩ = some (.int .i64 E[j].from_) from fun j hj => by
    obtain ⟨ba, oa', ra, rfl, hSa, hba, hRa, hca⟩ := hE j E[j] (List.getElem?_eq_getElem hj)
    refine ⟨ba, oa', rfl, fun w' g => ?_⟩
    obtain ⟨pva, h1, h2, h3, h4, h5, _, _⟩ := hRa.at hba g hca
    exact ⟨h1, h3, h4⟩)
  clear hf hk hb hn he hE
  go_enter Tryz.func58, Tryz.ntmps58
  go_wp2_with fail
  refine (refForm r _).mono ?_
  rintro e w2 ⟨rfl, g2⟩
  have HG2 := Lib.hid ((HW.out _).step g2)
  have HRB := Lib.hid (ruleBoxNew w r w2 g2)
  obtain ⟨hrl, c1, c2, c3, c4, c5, c6, c7, c0⟩ := HRB.out.cells
  rw [HF.out]
  rw [HK.out] at c1
  have HI0 := Lib.hid (IdsW.nil w2.heap.size w2)
  have HM0 := Lib.hid (MostI.start E r)
  clear g2
  go_wp2
  clear c1 c2 c3 c4 c5 c6 c7 c0
  go_loopg [7, 14] E.length (fun g lv i wr => ∃ (j : Nat) (l : List Int), j ≤ E.length ∧ g = E.length - j ∧ i = .int .i64 j ∧ MostI E r j l ∧ l.length ≤ j ∧ IdsW w2.heap.size wr lv l ∧ Grow w2 wr)
  case atStart => exact ⟨0, [], by omega, by omega, rfl, HM0.out, by simp, HI0.out, Grow.rfl' w2⟩
  case round =>
    obtain ⟨j, l, hj, rfl, rfl, hmi, hll, hi, hz⟩ := hrel
    obtain ⟨oa, co, rfl, _, _⟩ := hi.isSlice
    have HI := Lib.hid hi; have HZ := Lib.hid hz; have HMI := Lib.hid hmi; have HLL := Lib.hid hll
    clear hi hmi hll
    by_cases hjl : j < E.length
    · obtain ⟨ba, oa', rfl, hXj⟩ := HE.out j hjl
      have HX := Lib.hid hXj
      have HE1 := Lib.hid (show ∀ (k : Nat) (hk : k < E.length), ∀ w', Grow w w' → w'.cell? ⟨ba, oa' + k * 5 + 1, none⟩ = some (.string E[k].typ) ∧ w'.cell? ⟨ba, oa' + k * 5 + 2, none⟩ = some (.int .i64 E[k].from_) from fun k hk w' g => by
        obtain ⟨b1, o1, h1, h2⟩ := HE.out k hk
        cases h1
        exact (h2 w' g).2)
      have HT := Lib.hid (show E.take (j + 1) = E.take j ++ [E[j]] from List.take_succ_eq_append_getElem hjl)
      clear hXj
      generalize E[j] = x at *
      have HWR := Lib.hid (HG2.out.step HZ.out)
      obtain ⟨wo, rfl⟩ : ∃ wo, wo = wr := ⟨_, rfl⟩
      have hn0 := formR_most HF.out (by have := HK.out; omega) (by have := HK.out; omega) (by have := HK.out; omega)
      have HF0 := Lib.hid (show true = firstE E r x.from_ j 0 by simp [firstE, outR])
      clear hz
      go_wp2
      go_loopg [15, 16, 17] E.length (fun g nv fv kv wr => ∃ (k : Nat) (fb : Bool), k ≤ E.length ∧ g = E.length - k ∧ kv = .int .i64 k ∧ nv = .int .i64 (outR (E.take k) r x.from_ : Nat) ∧ fv = .bool fb ∧ fb = firstE E r x.from_ j k ∧ Grow wo wr)
      case atStart => exact ⟨0, true, by omega, by omega, rfl, rfl, rfl, HF0.out, Grow.rfl' wo⟩
      case round =>
        obtain ⟨k, fb, hk, rfl, rfl, rfl, rfl, hfb, hgo⟩ := hrel
        have HFB := Lib.hid hfb; have HGO := Lib.hid hgo
        have hol : outR (E.take k) r x.from_ ≤ k := by
          unfold outR
          exact Nat.le_trans (List.length_filter_le _ _) (by rw [List.length_take]; omega)
        clear hfb hgo
        by_cases hkl : k < E.length
        · have HTK := Lib.hid (show E.take (k + 1) = E.take k ++ [E[k]] from List.take_succ_eq_append_getElem hkl)
          have HXK := Lib.hid (HE1.out k hkl)
          generalize E[k] = y at *
          obtain ⟨b0, b1⟩ := HXK.out wr (HWR.out.step HGO.out)
          obtain ⟨hal, a1, a2⟩ := HX.out wr (HWR.out.step HGO.out)
          obtain ⟨hrl', c1, c2, c3, c4, c5, c6, c7, c0⟩ := (HRB.out.grow (HZ.out.step HGO.out)).cells
          have HOT := Lib.hid (outR_take (r := r) (y := x.from_) HTK.out)
          have HFS := Lib.hid (firstE_step (r := r) (y := x.from_) (j := j) HTK.out)
          have HNO := Lib.hid (show ∀ (w4 : World), Grow wr w4 → Grow wo w4 from fun w4 h => HGO.out.step h)
          obtain ⟨bt, hbt⟩ : ∃ b, decide (y.typ = r.typ) = b := ⟨_, rfl⟩
          obtain ⟨bf, hbf⟩ : ∃ b, (y.from_ == x.from_) = b := ⟨_, rfl⟩
          obtain ⟨bk, hbk⟩ : ∃ b, decide (j ≤ k) = b := ⟨_, rfl⟩
          have HMT := Lib.hid (show mtE r x.from_ y = (bt && bf) by unfold mtE; rw [hbt, ← hbf, int_beq])
          have HBK := Lib.hid hbk
          generalize outR (E.take k) r x.from_ = n at *
          clear c1 c3 c4 c5 c6 c7 c0
          cases bt
          · go_wp2_with fail
            refine wp_region_grow (by kernel_rfl) (by kernel_rfl) ?_
            repeat (go_big_quiet_step (fail))
            refine wpQuiet_nil ?_
            intro w4 hw4
            go_wp2_with fail
            go_roundg (E.length - (k + 1))
            case measure => omega
            case rel => exact ⟨k + 1, fb, by omega, rfl, by go_num, by rw [HOT.out, if_neg (by rw [HMT.out]; simp)]; rfl, rfl, by rw [HFS.out, if_neg (by rw [HMT.out]; simp)]; exact HFB.out, HNO.out _ hw4⟩
          · cases bf
            · go_wp2_with fail
              refine wp_region_grow (by kernel_rfl) (by kernel_rfl) ?_
              repeat (go_big_quiet_step (fail))
              refine wpQuiet_nil ?_
              intro w4 hw4
              go_wp2_with fail
              go_roundg (E.length - (k + 1))
              case measure => omega
              case rel => exact ⟨k + 1, fb, by omega, rfl, by go_num, by rw [HOT.out, if_neg (by rw [HMT.out]; simp)]; rfl, rfl, by rw [HFS.out, if_neg (by rw [HMT.out]; simp)]; exact HFB.out, HNO.out _ hw4⟩
            · go_wp2_with fail
              refine wp_region_grow (by kernel_rfl) (by kernel_rfl) ?_
              repeat (go_big_quiet_step (fail))
              refine wpQuiet_nil ?_
              intro w4 hw4
              have HW4 := Lib.hid hw4
              clear hw4
              cases fb
              · go_wp2_with fail
                go_roundg (E.length - (k + 1))
                case measure => omega
                case rel => exact ⟨k + 1, false, by omega, rfl, by go_num, by rw [HOT.out, if_pos (by rw [HMT.out]; rfl)]; go_num, rfl, by rw [HFS.out, if_pos (by rw [HMT.out]; rfl), ← HFB.out]; rfl, HNO.out _ HW4.out⟩
              · go_wp2_with fail
                go_roundg (E.length - (k + 1))
                case measure => omega
                case rel => exact ⟨k + 1, bk, by omega, rfl, by go_num, by rw [HOT.out, if_pos (by rw [HMT.out]; rfl)]; go_num, rfl, by rw [HFS.out, if_pos (by rw [HMT.out]; rfl), ← HFB.out, HBK.out]; rfl, HNO.out _ HW4.out⟩
        · have hkk : E.take k = E := List.take_of_length_le (by omega)
          have hke : k = E.length := by omega
          rw [hkk] at hol
          simp only [hkk]
          subst hke
          obtain ⟨hal, a1, a2⟩ := HX.out wr (HWR.out.step HGO.out)
          obtain ⟨hrl', c1, c2, c3, c4, c5, c6, c7, c0⟩ := (HRB.out.grow (HZ.out.step HGO.out)).cells
          clear c1 c3 c4 c5 c7 c0 hkk
          obtain ⟨bt, hbt⟩ : ∃ b, decide (x.typ = r.typ) = b := ⟨_, rfl⟩
          obtain ⟨bn, hbn⟩ : ∃ b, decide (r.n < (outR E r x.from_ : Int)) = b := ⟨_, rfl⟩
          have HST := Lib.hid (HMI.out.step HT.out (by omega) (b := bt && (bn && fb)) (by rw [hbt, hbn, HFB.out]))
          have HBD2 := Lib.hid (show l.length + 1 ≤ j + 1 by have := HLL.out; omega)
          have HI4 := Lib.hid (show ∀ w4, Grow wr w4 → Grow w2 w4 ∧ IdsW w2.heap.size w4 (.slice oa l.length co) l from fun w4 h => ⟨(HZ.out.step HGO.out).step h, HI.out.grow (HGO.out.step h)⟩)
          have HI5 := Lib.hid (show ∀ w4, Grow wr w4 → ∀ o1, Grow w2 (w4.alloc o1) ∧ IdsW w2.heap.size (w4.alloc o1) (.slice oa l.length co) l from fun w4 h o1 => ⟨((HZ.out.step HGO.out).step h).allocd o1, (HI.out.grow (HGO.out.step h)).grow ((Grow.rfl' w4).allocd o1)⟩)
          generalize outR E r x.from_ = n at *
          cases bt
          · go_wp2_with fail
            refine wp_region_grow (by kernel_rfl) (by kernel_rfl) ?_
            repeat (go_big_quiet_step (fail))
            refine wpQuiet_nil ?_
            intro w4 hw4
            go_wp2_with fail
            go_roundg (E.length - (j + 1))
            case measure => omega
            case rel => exact ⟨j + 1, l, by omega, rfl, by go_num, by have h := HST.out; simpa using h, by have := HLL.out; omega, (HI4.out _ hw4).2, (HI4.out _ hw4).1⟩
          · cases bn
            · go_wp2_with fail
              refine wp_region_grow (by kernel_rfl) (by kernel_rfl) ?_
              repeat (go_big_quiet_step (fail))
              refine wpQuiet_nil ?_
              intro w4 hw4
              go_wp2_with fail
              go_roundg (E.length - (j + 1))
              case measure => omega
              case rel => exact ⟨j + 1, l, by omega, rfl, by go_num, by have h := HST.out; simpa using h, by have := HLL.out; omega, (HI4.out _ hw4).2, (HI4.out _ hw4).1⟩
            · cases fb
              · go_wp2_with fail
                refine wp_region_grow (by kernel_rfl) (by kernel_rfl) ?_
                repeat (go_big_quiet_step (fail))
                refine wpQuiet_nil ?_
                intro w4 hw4
                go_wp2_with fail
                go_roundg (E.length - (j + 1))
                case measure => omega
                case rel => exact ⟨j + 1, l, by omega, rfl, by go_num, by have h := HST.out; simpa using h, by have := HLL.out; omega, (HI4.out _ hw4).2, (HI4.out _ hw4).1⟩
              · go_wp2_with fail
                refine wp_region_grow (by kernel_rfl) (by kernel_rfl) ?_
                repeat (go_big_quiet_step (fail))
                refine wpQuiet_nil ?_
                intro w4 hw4
                have HW4 := Lib.hid hw4
                have hx := HX.out _ (((HWR.out.step HGO.out)).step hw4)
                obtain ⟨hal4, _, b1⟩ := hx
                have hzs := (HI4.out _ hw4).1.size
                clear a1 a2 hal hw4 c2 c6
                go_wp2_with (at_builtin; go_must (refine wpList_append_I rfl (.tmp 217) (.tmp 223) 32 rfl Tryz.underlying32 w2.heap.size _ l rfl (HI5.out _ HW4.out _).2 x.from_ _ rfl (rd1 _ _ _ (by simp)) (by simp; omega) (by have := HLL.out; have := HBD.out; omega) ?_))
                intro v5 w6 k1 k2 k3
                have H5 := Lib.hid k1; have HG5 := Lib.hid ((HI5.out _ HW4.out _).1.since k2 (Nat.le_refl _))
                clear k1 k2 k3
                go_wp2
                go_roundg (E.length - (j + 1))
                case measure => omega
                case rel => exact ⟨j + 1, l ++ [x.from_], by omega, rfl, by go_num, by have h := HST.out; simpa using h, by have := HLL.out; simp; omega, H5.out, HG5.out⟩
    · have hkk : j = E.length := by omega
      have hn0 := formR_most HF.out (by have := HK.out; omega) (by have := HK.out; omega) (by have := HK.out; omega)
      have HDN := Lib.hid (MostI.done (hkk ▸ HMI.out) hn0)
      clear hkk hn0 hz
      go_wp2
      go_ret
      exact ⟨_, l, rfl, ⟨fun h => absurd h (by rw [HF.out]; simp), fun _ => by rw [if_pos HK.out]; exact HDN.out⟩, HI.out.base HG2.out.size, HG2.out.step HZ.out⟩
end Go.Hg

namespace Go.Hg
open Go.RowKit Go.Proofs


abbrev set4 (w : World) (B : Nat) (a b c d : Value) : World := (((w.setCell ⟨B, 0, none⟩ a).setCell ⟨B, 1, none⟩ b).setCell ⟨B, 2, none⟩ c).setCell ⟨B, 3, none⟩ d
theorem set4_box {w : World} {B : Nat} {a b c d : Value} {T : TypeId} (h : w.heap[B]? = some (.cells #[a, b, c, d] T (0, 0))) (a' b' c' d' : Value) : (set4 w B a' b' c' d').heap[B]? = some (.cells #[a', b', c', d'] T (0, 0)) := by
  have h1 := heap_setCell_same w B 0 _ T a' h
  have h2 := heap_setCell_same _ B 1 _ T b' h1
  have h3 := heap_setCell_same _ B 2 _ T c' h2
  have h4 := heap_setCell_same _ B 3 _ T d' h3
  simpa using h4
theorem set4_grow {w0 w : World} (g : Grow w0 w) {B : Nat} (hB : w0.heap.size ≤ B) (a b c d : Value) : Grow w0 (set4 w B a b c d) :=
  (((g.setd (p := ⟨B, 0, none⟩) hB a).setd (p := ⟨B, 1, none⟩) hB b).setd (p := ⟨B, 2, none⟩) hB c).setd (p := ⟨B, 3, none⟩) hB d
abbrev foundBox (v : PVal) (b : Bool) : Obj := .cells #[.int .i64 v.kind, .int .i64 v.n, .string v.s, .bool b] 171 (0, 0)

set_option maxRecDepth 100000 in
set_option maxHeartbeats 8000000 in
theorem refBrokenExists (S : Nat → Prop) (nv ev : Value) (N : List PNode) (E : List PEdge) (r : PRule) (w : World) (hn : NodesR S w nv N) (he : EdgesR S w ev E) (hb : N.length ≤ 1099511627776) (hf : formR r = true) (hk : r.kind = 2) :
    Calls Tryz.prog 58 #[nv, ev, r.args] w (RBrkPost N E r w) := by
  have HF := Lib.hid hf; have HK := Lib.hid hk; have HBD := Lib.hid hb
  have HW := Lib.hid (show ∀ o1, Grow w (w.alloc o1) from fun o1 => (Grow.rfl' w).allocd o1)
  obtain ⟨_, _, rfl, _⟩ := SlR.open he
  obtain ⟨ae, ce, rfl, hel, hec, hE⟩ := SlR.open hn
  unfold maxLen at hec
  have HE := Lib.hid (show ∀ (j : Nat) (hj : j < N.length), ∃ ba oa pv, ae = some ⟨ba, oa, none⟩ ∧ ∀ w', Grow w w' → ba < w'.heap.size ∧ w'.cell? ⟨ba, oa + j * 3, none⟩ = some (.int .i64 N[j].id) ∧ w'.cell? ⟨ba, oa + j * 3 + 1, none⟩ = some (.string N[j].typ) ∧ w'.cell? ⟨ba, oa + j * 3 + 2, none⟩ = some pv ∧ PropsR S w' pv N[j].props from fun j hj => by
    obtain ⟨ba, oa', ra, rfl, hSa, hba, hRa, hca⟩ := hE j N[j] (List.getElem?_eq_getElem hj)
    obtain ⟨pva, h1, h2, h3, h4, h5⟩ := hRa.at hba (Grow.rfl' w) hca
    refine ⟨ba, oa', pva, rfl, fun w' g => ⟨Nat.lt_of_lt_of_le h1 g.size, ?_, ?_, ?_, h5.grow g⟩⟩
    · exact (g.cell (p := ⟨_, _, none⟩) hba).trans h2
    · exact (g.cell (p := ⟨_, _, none⟩) hba).trans h3
    · exact (g.cell (p := ⟨_, _, none⟩) hba).trans h4)
  clear hf hk hb hn he hE
  go_enter Tryz.func58, Tryz.ntmps58
  go_wp2_with fail
  refine (refForm r _).mono ?_
  rintro e w2 ⟨rfl, g2⟩
  have HG2 := Lib.hid ((HW.out _).step g2)
  have HRB := Lib.hid (ruleBoxNew w r w2 g2)
  obtain ⟨hrl, c1, c2, c3, c4, c5, c6, c7, c0⟩ := HRB.out.cells
  rw [HF.out]
  rw [HK.out] at c1
  have HI0 := Lib.hid (IdsW.nil w2.heap.size w2)
  clear g2
  go_wp2
  clear c1 c2 c3 c4 c5 c6 c7 c0
  go_loopg [7, 8] N.length (fun g lv i wr => ∃ j : Nat, j ≤ N.length ∧ g = N.length - j ∧ i = .int .i64 j ∧ IdsW w2.heap.size wr lv (((N.take j).filter (lacksR r)).map (·.id)) ∧ Grow w2 wr)
  case atStart => exact ⟨0, by omega, by omega, rfl, HI0.out, Grow.rfl' w2⟩
  case round =>
    obtain ⟨j, hj, rfl, rfl, hi, hz⟩ := hrel
    obtain ⟨oa, co, rfl, _, _⟩ := hi.isSlice
    have HI := Lib.hid hi; have HZ := Lib.hid hz
    clear hi hz
    by_cases hjl : j < N.length
    · obtain ⟨ba, oa', pv, rfl, hXj⟩ := HE.out j hjl
      have HX := Lib.hid hXj
      clear hXj
      have HT := Lib.hid (show N.take (j + 1) = N.take j ++ [N[j]] from List.take_succ_eq_append_getElem hjl)
      have HLE := Lib.hid (show (((N.take j).filter (lacksR r)).map (·.id)).length ≤ N.length by
        rw [List.length_map]
        exact Nat.le_trans (List.length_filter_le _ _) (by rw [List.length_take]; omega))
      generalize N[j] = x at *
      obtain ⟨bt, hbt⟩ : ∃ b, decide (x.typ = r.typ) = b := ⟨_, rfl⟩
      obtain ⟨bo, hbo⟩ : ∃ b, (getP x.props r.name).isSome = b := ⟨_, rfl⟩
      have HV := Lib.hid (show lacksR r x = (bt && !bo) by unfold lacksR; rw [hbt, ← hbo]; cases getP x.props r.name <;> rfl)
      have HBO := Lib.hid hbo
      clear hbo
      generalize hfl : ((N.take j).filter (lacksR r)).map (·.id) = fl at *
      have HFF := Lib.hid hfl
      clear hfl
      have HD := Lib.hid (filt_snoc (·.id) HT.out HFF.out HV.out)
      have HWR := Lib.hid (HG2.out.step HZ.out)
      obtain ⟨hal, a0, a1, a2, _⟩ := HX.out wr HWR.out
      obtain ⟨hrl', c1, c2, c3, c4, c5, c6, c7, c0⟩ := (HRB.out.grow HZ.out).cells
      clear c1 c4 c5 c6 c7 c0
      have HNO := Lib.hid (show ∀ (w4 : World), Grow wr w4 → Grow w2 w4 ∧ IdsW w2.heap.size w4 (.slice oa fl.length co) fl from fun w4 h => ⟨HZ.out.step h, HI.out.grow h⟩)
      cases bt
      · go_wp2_with fail
        refine wp_region_grow (by kernel_rfl) (by kernel_rfl) ?_
        repeat (go_big_quiet_step (fail))
        refine wpQuiet_nil ?_
        intro w4 hw4
        go_wp2_with fail
        go_roundg (N.length - (j + 1))
        case measure => omega
        case rel => exact ⟨j + 1, by omega, rfl, by go_num, by rw [HD.out, if_neg (by simp)]; exact (HNO.out _ hw4).2, (HNO.out _ hw4).1⟩
      · go_wp2_with fail
        refine wp_region_grow (by kernel_rfl) (by kernel_rfl) ?_
        repeat (go_big_quiet_step (fail))
        refine wpQuiet_nil ?_
        intro w4 hw4
        have HW4 := Lib.hid hw4
        clear a0 a1 a2 hal hw4 c2 c3 hrl'
        have HS := Lib.hid (show ∀ w', Grow w4 w' → w'.cell? ⟨ba, oa' + j * 3 + 2, none⟩ = some pv ∧ w'.cell? ⟨w.heap.size, 3, none⟩ = some (.string r.name) from fun w' g =>
          ⟨(HX.out w' ((HWR.out.step HW4.out).step g)).2.2.2.1, (HRB.out.grow ((HZ.out.step HW4.out).step g)).cells.2.2.2.1⟩)
        have HPR := Lib.hid (show ∀ w', Grow w4 w' → PropsR S w' pv x.props from fun w' g => (HX.out w' ((HWR.out.step HW4.out).step g)).2.2.2.2)
        have HDR := Lib.hid (show ∀ o1, Grow w4 (w4.alloc o1).drew ∧ (w4.alloc o1).drew.heap[w4.heap.size]? = some o1 from fun o1 => ⟨((Grow.rfl' w4).allocd o1).drewd, heap_alloc_new w4 o1⟩)
        obtain ⟨gv, hgv⟩ : ∃ gv, getV x.props r.name = gv := ⟨_, rfl⟩
        have HGV := Lib.hid hgv
        clear hgv
        go_wp2_with fail
        have HD0 := Lib.hid (show Grow w4 w4.drew from (Grow.rfl' w4).drewd)
        go_region_held3 (fun w' => w'.cell? ⟨ba, oa' + j * 3 + 2, none⟩ = some pv ∧ w'.cell? ⟨w.heap.size, 3, none⟩ = some (.string r.name)) (first | exact HS.out _ HD0.out | exact HS.out _ (HDR.out _).1 | exact HS.out _ HG5.out | exact HS.out _ (HG5.out.allocd _) | exact HS.out _ (set4_grow HG5.out (Nat.le_refl _) _ _ _ _)) (first | (go_at_call 107; refine (refGet S pv x.props r.name _ (HPR.out _ HD0.out)).mono ?_; rintro e w5 ⟨rfl, hg5⟩; rw [HGV.out, HBO.out]; have HG5 := Lib.hid (HD0.out.step hg5); clear hg5) | (go_at_call 107; refine (refGet S pv x.props r.name _ (HPR.out _ (HDR.out _).1)).mono ?_; rintro e w5 ⟨rfl, hg5⟩; rw [HGV.out, HBO.out]; have hnb := (hg5.heapEq (by simp)).trans (HDR.out _).2; have z0 : w5.cell? ⟨w4.heap.size, 0, none⟩ = some (.int .i64 0) := (blk_cell hnb _).trans rfl; have z1 : w5.cell? ⟨w4.heap.size, 1, none⟩ = some (.int .i64 0) := (blk_cell hnb _).trans rfl; have z2 : w5.cell? ⟨w4.heap.size, 2, none⟩ = some (.string ⟨#[]⟩) := (blk_cell hnb _).trans rfl; have z3 : w5.cell? ⟨w4.heap.size, 3, none⟩ = some (.bool false) := (blk_cell hnb _).trans rfl; have zf0 := blk_free hnb 0; have zf1 := blk_free hnb 1; have zf2 := blk_free hnb 2; have zf3 := blk_free hnb 3; have hnl := blk_lt hnb; have HNB := Lib.hid hnb; have HG5 := Lib.hid ((HDR.out _).1.step hg5); clear hg5 hnb))
        · obtain ⟨B, hB⟩ : ∃ B, w5.heap.size = B := ⟨_, rfl⟩
          obtain ⟨w6, hw6⟩ : ∃ w6, w5.alloc (.cells #[.int .i64 gv.kind, .int .i64 gv.n, .string gv.s, .bool bo] 171) = w6 := ⟨_, rfl⟩
          have HB6 : Hid (w6.heap[B]? = some (foundBox gv bo)) := Lib.hid (by rw [← hw6, ← hB]; exact heap_alloc_new w5 _)
          have HG6 := Lib.hid (show Grow w4 w6 from hw6 ▸ HG5.out.allocd _)
          rw [hw6, hB]
          clear hw6 hB
          have hbl := blk_lt HB6.out
          have d3 : w6.cell? ⟨B, 3, none⟩ = some (.bool bo) := (blk_cell HB6.out _).trans rfl
          have HW6 := Lib.hid (HW4.out.step HG6.out)
          obtain ⟨hrl6, c1, c2, c3, c4, c5, c6, c7, c0⟩ := (HRB.out.grow (HZ.out.step HW6.out)).cells
          rw [HK.out] at c1
          obtain ⟨hal, a0, a1, a2, _⟩ := HX.out w6 (HWR.out.step HW6.out)
          have HYES := Lib.hid (show ∀ o1, Grow w2 (w6.alloc o1) ∧ IdsW w2.heap.size (w6.alloc o1) (.slice oa fl.length co) fl from fun o1 => ⟨(HNO.out _ HW6.out).1.allocd o1, (HNO.out _ HW6.out).2.grow ((Grow.rfl' w6).allocd o1)⟩)
          have hzs := (HNO.out _ HW6.out).1.size
          clear c2 c3 c4 c5 c6 c7 c0 a1 a2
          cases bo
          · go_wp2_with (at_builtin; go_must (refine wpList_append_I rfl (.tmp 101) (.tmp 107) 32 rfl Tryz.underlying32 w2.heap.size _ fl rfl (HYES.out _).2 x.id _ rfl (rd1 _ _ _ (by simp)) (by simp; omega) (by have := HLE.out; have := HBD.out; omega) ?_))
            intro v5 w7 k1 k2 k3
            have H5 := Lib.hid k1; have HG7 := Lib.hid ((HYES.out _).1.since k2 (Nat.le_refl _))
            clear k1 k2 k3
            go_wp2
            go_roundg (N.length - (j + 1))
            case measure => omega
            case rel => exact ⟨j + 1, by omega, rfl, by go_num, by rw [HD.out, if_pos (by simp)]; exact H5.out, HG7.out⟩
          · go_wp2_with fail
            go_roundg (N.length - (j + 1))
            case measure => omega
            case rel => exact ⟨j + 1, by omega, rfl, by go_num, by rw [HD.out, if_neg (by simp)]; exact (HNO.out _ HW6.out).2, (HNO.out _ HW6.out).1⟩
        · obtain ⟨B, hB⟩ : ∃ B, w4.heap.size = B := ⟨_, rfl⟩
          obtain ⟨w6, hw6⟩ : ∃ w6, set4 w5 w4.heap.size (.int .i64 gv.kind) (.int .i64 gv.n) (.string gv.s) (.bool bo) = w6 := ⟨_, rfl⟩
          have HB6 : Hid (w6.heap[B]? = some (foundBox gv bo)) := Lib.hid (by rw [← hw6, ← hB]; exact set4_box HNB.out _ _ _ _)
          have HG6 := Lib.hid (show Grow w4 w6 from hw6 ▸ set4_grow HG5.out (Nat.le_refl _) _ _ _ _)
          rw [show ((((w5.setCell ⟨w4.heap.size, 0, none⟩ (.int .i64 gv.kind)).setCell ⟨w4.heap.size, 1, none⟩ (.int .i64 gv.n)).setCell ⟨w4.heap.size, 2, none⟩ (.string gv.s)).setCell ⟨w4.heap.size, 3, none⟩ (.bool bo)) = w6 from hw6, hB]
          clear hw6 hB z0 z1 z2 z3 zf0 zf1 zf2 zf3 hnl
          have hbl := blk_lt HB6.out
          have d3 : w6.cell? ⟨B, 3, none⟩ = some (.bool bo) := (blk_cell HB6.out _).trans rfl
          have HW6 := Lib.hid (HW4.out.step HG6.out)
          obtain ⟨hrl6, c1, c2, c3, c4, c5, c6, c7, c0⟩ := (HRB.out.grow (HZ.out.step HW6.out)).cells
          rw [HK.out] at c1
          obtain ⟨hal, a0, a1, a2, _⟩ := HX.out w6 (HWR.out.step HW6.out)
          have HYES := Lib.hid (show ∀ o1, Grow w2 (w6.alloc o1) ∧ IdsW w2.heap.size (w6.alloc o1) (.slice oa fl.length co) fl from fun o1 => ⟨(HNO.out _ HW6.out).1.allocd o1, (HNO.out _ HW6.out).2.grow ((Grow.rfl' w6).allocd o1)⟩)
          have hzs := (HNO.out _ HW6.out).1.size
          clear c2 c3 c4 c5 c6 c7 c0 a1 a2
          cases bo
          · go_wp2_with (at_builtin; go_must (refine wpList_append_I rfl (.tmp 101) (.tmp 107) 32 rfl Tryz.underlying32 w2.heap.size _ fl rfl (HYES.out _).2 x.id _ rfl (rd1 _ _ _ (by simp)) (by simp; omega) (by have := HLE.out; have := HBD.out; omega) ?_))
            intro v5 w7 k1 k2 k3
            have H5 := Lib.hid k1; have HG7 := Lib.hid ((HYES.out _).1.since k2 (Nat.le_refl _))
            clear k1 k2 k3
            go_wp2
            go_roundg (N.length - (j + 1))
            case measure => omega
            case rel => exact ⟨j + 1, by omega, rfl, by go_num, by rw [HD.out, if_pos (by simp)]; exact H5.out, HG7.out⟩
          · go_wp2_with fail
            go_roundg (N.length - (j + 1))
            case measure => omega
            case rel => exact ⟨j + 1, by omega, rfl, by go_num, by rw [HD.out, if_neg (by simp)]; exact (HNO.out _ HW6.out).2, (HNO.out _ HW6.out).1⟩
    · have hkk : N.take j = N := List.take_of_length_le (by omega)
      rw [hkk] at HI
      simp only [hkk]
      have HR := Lib.hid (RBrkPost.of (N := N) (E := E) (r := r) ⟨fun h => absurd h (by rw [HF.out]; simp), fun _ => by unfold BrkR; rw [if_neg (by have := HK.out; omega), if_pos HK.out]⟩ (by have := HK.out; omega) HI.out HG2.out HZ.out)
      clear hkk
      go_wp2
      go_ret
      exact HR.out
end Go.Hg

namespace Go.Hg
open Go.RowKit Go.Proofs

def cntV (N : List PNode) (r : PRule) (v : PVal) (k : Nat) : Nat := ((N.take k).filterMap (valR r)).count v
/-- has one ahead of k, but not the one at j, the value? -/
def dupU (N : List PNode) (r : PRule) (v : PVal) (j k : Nat) : Bool := decide ((if j < k then 1 else 0) < cntV N r v k)
theorem cntV_step {N : List PNode} {r : PRule} {v : PVal} {k : Nat} {y : PNode} (hT : N.take (k + 1) = N.take k ++ [y]) : cntV N r v (k + 1) = cntV N r v k + if valR r y = some v then 1 else 0 := by
  unfold cntV
  rw [hT, List.filterMap_append, List.count_append]
  cases hv : valR r y with
  | none => simp [hv]
  | some u =>
    simp only [List.filterMap_cons_some hv, List.filterMap_nil, List.count_cons, List.count_nil, Nat.zero_add, Option.some.injEq, beq_iff_eq]
theorem cntV_own {N : List PNode} {r : PRule} {v : PVal} {j k : Nat} {x : PNode} (hx : N[j]? = some x) (hv : valR r x = some v) (hk : j < k) : 1 ≤ cntV N r v k := by
  unfold cntV
  refine List.count_pos_iff.2 (List.mem_filterMap.2 ⟨x, ?_, hv⟩)
  obtain ⟨hj, rfl⟩ := List.getElem?_eq_some_iff.1 hx
  exact List.mem_take_iff_getElem.2 ⟨j, by omega, rfl⟩
theorem dupU_step {N : List PNode} {r : PRule} {v : PVal} {j k : Nat} {x y : PNode} (hT : N.take (k + 1) = N.take k ++ [y]) (hx : N[j]? = some x) (hv : valR r x = some v) (hy : N[k]? = some y) :
    dupU N r v j (k + 1) = (dupU N r v j k || (!decide (k = j) && decide (valR r y = some v))) := by
  unfold dupU
  rw [cntV_step hT]
  by_cases hkj : k = j
  · subst hkj
    rw [hx] at hy
    cases hy
    simp [hv]
  · have h1 : j < k → 1 ≤ cntV N r v k := cntV_own hx hv
    by_cases hjk : j < k
    · rw [if_pos (by omega), if_pos hjk]
      have := h1 hjk
      by_cases h2 : valR r y = some v
      · simp only [h2, if_true, hkj, decide_false, decide_true, Bool.not_false, Bool.and_self, Bool.or_true, decide_eq_true_eq]; omega
      · simp [h2]
    · rw [if_neg (by omega), if_neg hjk]
      by_cases h2 : valR r y = some v
      · simp [h2, hkj]
      · simp [h2]
theorem dupU_end {N : List PNode} {r : PRule} {v : PVal} {j : Nat} {x : PNode} (hx : N[j]? = some x) (hv : valR r x = some v) : dupU N r v j N.length = doubR N r x := by
  unfold dupU cntV doubR
  rw [hv, List.take_length, if_pos (List.getElem?_eq_some_iff.1 hx).1]
  simp only
  exact decide_eq_decide.2 (by omega)

set_option maxRecDepth 100000 in
set_option maxHeartbeats 16000000 in
theorem refBrokenUniq (S : Nat → Prop) (nv ev : Value) (N : List PNode) (E : List PEdge) (r : PRule) (w : World) (hn : NodesR S w nv N) (he : EdgesR S w ev E) (hb : N.length ≤ 1099511627776) (hf : formR r = true) (hk : r.kind = 1) :
    Calls Tryz.prog 58 #[nv, ev, r.args] w (RBrkPost N E r w) := by
  have HF := Lib.hid hf; have HK := Lib.hid hk; have HBD := Lib.hid hb
  have HW := Lib.hid (show ∀ o1, Grow w (w.alloc o1) from fun o1 => (Grow.rfl' w).allocd o1)
  obtain ⟨_, _, rfl, _⟩ := SlR.open he
  obtain ⟨ae, ce, rfl, hel, hec, hE⟩ := SlR.open hn
  unfold maxLen at hec
  have HE := Lib.hid (show ∀ (j : Nat) (hj : j < N.length), ∃ ba oa pv, ae = some ⟨ba, oa, none⟩ ∧ ∀ w', Grow w w' → ba < w'.heap.size ∧ w'.cell? ⟨ba, oa + j * 3, none⟩ = some (.int .i64 N[j].id) ∧ w'.cell? ⟨ba, oa + j * 3 + 1, none⟩ = some (.string N[j].typ) ∧ w'.cell? ⟨ba, oa + j * 3 + 2, none⟩ = some pv ∧ PropsR S w' pv N[j].props from fun j hj => by
    obtain ⟨ba, oa', ra, rfl, hSa, hba, hRa, hca⟩ := hE j N[j] (List.getElem?_eq_getElem hj)
    obtain ⟨pva, h1, h2, h3, h4, h5⟩ := hRa.at hba (Grow.rfl' w) hca
    refine ⟨ba, oa', pva, rfl, fun w' g => ⟨Nat.lt_of_lt_of_le h1 g.size, ?_, ?_, ?_, h5.grow g⟩⟩
    · exact (g.cell (p := ⟨_, _, none⟩) hba).trans h2
    · exact (g.cell (p := ⟨_, _, none⟩) hba).trans h3
    · exact (g.cell (p := ⟨_, _, none⟩) hba).trans h4)
  clear hf hk hb hn he hE
  go_enter Tryz.func58, Tryz.ntmps58
  go_wp2_with fail
  refine (refForm r _).mono ?_
  rintro e w2 ⟨rfl, g2⟩
  have HG2 := Lib.hid ((HW.out _).step g2)
  have HRB := Lib.hid (ruleBoxNew w r w2 g2)
  obtain ⟨hrl, c1, c2, c3, c4, c5, c6, c7, c0⟩ := HRB.out.cells
  rw [HF.out]
  rw [HK.out] at c1
  have HI0 := Lib.hid (IdsW.nil w2.heap.size w2)
  clear g2
  go_wp2
  clear c1 c2 c3 c4 c5 c6 c7 c0
  go_loopg [7, 8] N.length (fun g lv i wr => ∃ j : Nat, j ≤ N.length ∧ g = N.length - j ∧ i = .int .i64 j ∧ IdsW w2.heap.size wr lv (((N.take j).filter (doubR N r)).map (·.id)) ∧ Grow w2 wr)
  case atStart => exact ⟨0, by omega, by omega, rfl, HI0.out, Grow.rfl' w2⟩
  case round =>
    obtain ⟨j, hj, rfl, rfl, hi, hz⟩ := hrel
    obtain ⟨oa, co, rfl, _, _⟩ := hi.isSlice
    have HI := Lib.hid hi; have HZ := Lib.hid hz
    clear hi hz
    by_cases hjl : j < N.length
    · obtain ⟨ba, oa', pv, rfl, hXj⟩ := HE.out j hjl
      have HX := Lib.hid hXj
      clear hXj
      have HE1 := Lib.hid (show ∀ (k : Nat) (hk : k < N.length), ∃ pv, ∀ w', Grow w w' → ba < w'.heap.size ∧ w'.cell? ⟨ba, oa' + k * 3, none⟩ = some (.int .i64 N[k].id) ∧ w'.cell? ⟨ba, oa' + k * 3 + 1, none⟩ = some (.string N[k].typ) ∧ w'.cell? ⟨ba, oa' + k * 3 + 2, none⟩ = some pv ∧ PropsR S w' pv N[k].props from fun k hk => by
        obtain ⟨b1, o1, pv1, h1, h2⟩ := HE.out k hk
        cases h1
        exact ⟨pv1, h2⟩)
      have HT := Lib.hid (show N.take (j + 1) = N.take j ++ [N[j]] from List.take_succ_eq_append_getElem hjl)
      have HXE := Lib.hid (show N[j]? = some N[j] from List.getElem?_eq_getElem hjl)
      have HLE := Lib.hid (show (((N.take j).filter (doubR N r)).map (·.id)).length ≤ N.length by
        rw [List.length_map]
        exact Nat.le_trans (List.length_filter_le _ _) (by rw [List.length_take]; omega))
      generalize N[j] = x at *
      obtain ⟨gv, hgv⟩ : ∃ gv, getV x.props r.name = gv := ⟨_, rfl⟩
      obtain ⟨bt, hbt⟩ : ∃ b, decide (x.typ = r.typ) = b := ⟨_, rfl⟩
      obtain ⟨bo, hbo⟩ : ∃ b, (getP x.props r.name).isSome = b := ⟨_, rfl⟩
      have HVR := Lib.hid (show valR r x = if (bo && bt) = true then some gv else none by rw [valR_eq, hgv, hbo, hbt])
      have HBO := Lib.hid hbo; have HGV := Lib.hid hgv
      clear hbo hgv
      obtain ⟨bd, hbd⟩ : ∃ b, doubR N r x = b := ⟨_, rfl⟩
      generalize hfl : ((N.take j).filter (doubR N r)).map (·.id) = fl at *
      have HFF := Lib.hid hfl
      have HBD2 := Lib.hid hbd
      clear hfl hbd
      have HD := Lib.hid (filt_snoc (·.id) HT.out HFF.out HBD2.out)
      have HWR := Lib.hid (HG2.out.step HZ.out)
      obtain ⟨hal, a0, a1, a2, _⟩ := HX.out wr HWR.out
      obtain ⟨hrl', c1, c2, c3, c4, c5, c6, c7, c0⟩ := (HRB.out.grow HZ.out).cells
      clear c1 c4 c5 c6 c7 c0
      have HNO := Lib.hid (show ∀ (w4 : World), Grow wr w4 → Grow w2 w4 ∧ IdsW w2.heap.size w4 (.slice oa fl.length co) fl from fun w4 h => ⟨HZ.out.step h, HI.out.grow h⟩)
      have HYES := Lib.hid (show ∀ (w4 : World), Grow wr w4 → ∀ o1, Grow w2 (w4.alloc o1) ∧ IdsW w2.heap.size (w4.alloc o1) (.slice oa fl.length co) fl from fun w4 h o1 => ⟨(HZ.out.step h).allocd o1, (HI.out.grow h).grow ((Grow.rfl' w4).allocd o1)⟩)
      cases bt
      · obtain rfl : bd = false := by rw [← HBD2.out]; unfold doubR; rw [HVR.out]; simp
        go_wp2_with fail
        refine wp_region_grow (by kernel_rfl) (by kernel_rfl) ?_
        repeat (go_big_quiet_step (fail))
        refine wpQuiet_nil ?_
        intro w4 hw4
        go_wp2_with fail
        go_roundg (N.length - (j + 1))
        case measure => omega
        case rel => exact ⟨j + 1, by omega, rfl, by go_num, by rw [HD.out, if_neg (by simp)]; exact (HNO.out _ hw4).2, (HNO.out _ hw4).1⟩
      · go_wp2_with fail
        refine wp_region_grow (by kernel_rfl) (by kernel_rfl) ?_
        repeat (go_big_quiet_step (fail))
        refine wpQuiet_nil ?_
        intro w4 hw4
        have HW4 := Lib.hid hw4
        clear a0 a1 a2 hal hw4 c2 c3 hrl'
        have HS := Lib.hid (show ∀ w', Grow w4 w' → w'.cell? ⟨ba, oa' + j * 3 + 2, none⟩ = some pv ∧ w'.cell? ⟨w.heap.size, 3, none⟩ = some (.string r.name) from fun w' g =>
          ⟨(HX.out w' ((HWR.out.step HW4.out).step g)).2.2.2.1, (HRB.out.grow ((HZ.out.step HW4.out).step g)).cells.2.2.2.1⟩)
        have HPR := Lib.hid (show ∀ w', Grow w4 w' → PropsR S w' pv x.props from fun w' g => (HX.out w' ((HWR.out.step HW4.out).step g)).2.2.2.2)
        have HDR := Lib.hid (show ∀ o1, Grow w4 (w4.alloc o1).drew ∧ (w4.alloc o1).drew.heap[w4.heap.size]? = some o1 from fun o1 => ⟨((Grow.rfl' w4).allocd o1).drewd, heap_alloc_new w4 o1⟩)
        have HD0 := Lib.hid (show Grow w4 w4.drew from (Grow.rfl' w4).drewd)
        go_upto_region 11 with fail
        go_cut [9] (fun s wx => ∃ B : Nat, s = .pointer (some ⟨B, 0, none⟩) ∧ wx.heap[B]? = some (foundBox gv bo) ∧ Grow w4 wx)
        case first =>
          go_region_held3 (fun w' => w'.cell? ⟨ba, oa' + j * 3 + 2, none⟩ = some pv ∧ w'.cell? ⟨w.heap.size, 3, none⟩ = some (.string r.name)) (first | exact HS.out _ HD0.out | exact HS.out _ (HDR.out _).1 | exact HS.out _ HG5.out | exact HS.out _ (HG5.out.allocd _) | exact HS.out _ (set4_grow HG5.out (Nat.le_refl _) _ _ _ _)) (first | (go_at_call 107; refine (refGet S pv x.props r.name _ (HPR.out _ HD0.out)).mono ?_; rintro e w5 ⟨rfl, hg5⟩; rw [HGV.out, HBO.out]; have HG5 := Lib.hid (HD0.out.step hg5); clear hg5) | (go_at_call 107; refine (refGet S pv x.props r.name _ (HPR.out _ (HDR.out _).1)).mono ?_; rintro e w5 ⟨rfl, hg5⟩; rw [HGV.out, HBO.out]; have hnb := (hg5.heapEq (by simp)).trans (HDR.out _).2; have z0 : w5.cell? ⟨w4.heap.size, 0, none⟩ = some (.int .i64 0) := (blk_cell hnb _).trans rfl; have z1 : w5.cell? ⟨w4.heap.size, 1, none⟩ = some (.int .i64 0) := (blk_cell hnb _).trans rfl; have z2 : w5.cell? ⟨w4.heap.size, 2, none⟩ = some (.string ⟨#[]⟩) := (blk_cell hnb _).trans rfl; have z3 : w5.cell? ⟨w4.heap.size, 3, none⟩ = some (.bool false) := (blk_cell hnb _).trans rfl; have zf0 := blk_free hnb 0; have zf1 := blk_free hnb 1; have zf2 := blk_free hnb 2; have zf3 := blk_free hnb 3; have hnl := blk_lt hnb; have HNB := Lib.hid hnb; have HG5 := Lib.hid ((HDR.out _).1.step hg5); clear hg5 hnb))
          · go_wp2_with fail
            go_meet
            exact ⟨w5.heap.size, rfl, heap_alloc_new w5 _, HG5.out.allocd _⟩
          · go_wp2_with fail
            go_meet
            exact ⟨w4.heap.size, rfl, set4_box HNB.out _ _ _ _, set4_grow HG5.out (Nat.le_refl _) _ _ _ _⟩
        case rest =>
          obtain ⟨B, rfl, hB6, hG6⟩ := hcut
          obtain ⟨w6, rfl⟩ : ∃ w6, w6 = wc := ⟨_, rfl⟩
          have HB6 := Lib.hid hB6; have HG6 := Lib.hid hG6
          have hbl := blk_lt hB6
          have d3 : w6.cell? ⟨B, 3, none⟩ = some (.bool bo) := (blk_cell hB6 _).trans rfl
          have HW6 := Lib.hid (HW4.out.step hG6)
          clear hB6 hG6 HS HPR HDR HD0
          obtain ⟨hrl6, c1, c2, c3, c4, c5, c6, c7, c0⟩ := (HRB.out.grow (HZ.out.step HW6.out)).cells
          rw [HK.out] at c1
          clear c2 c3 c4 c5 c6 c7 c0
          cases bo
          · obtain rfl : bd = false := by rw [← HBD2.out]; unfold doubR; rw [HVR.out]; simp
            go_wp2
            go_loopg [10, 11] 0 (fun g bv kv wr => g = 0 ∧ bv = .bool false ∧ kv = .int .i64 0 ∧ wr = w6)
            case atStart => exact ⟨rfl, rfl, rfl, rfl⟩
            case round =>
              obtain ⟨rfl, rfl, rfl, rfl⟩ := hrel
              have hz0 : (0 : Nat) < N.length := by omega
              go_wp2_with fail
              go_roundg (N.length - (j + 1))
              case measure => omega
              case rel => exact ⟨j + 1, by omega, rfl, by go_num, by rw [HD.out, if_neg (by simp)]; exact (HNO.out _ HW6.out).2, (HNO.out _ HW6.out).1⟩
          · have HVS := Lib.hid (show valR r x = some gv by rw [HVR.out]; rfl)
            have HD0' := Lib.hid (show false = dupU N r gv j 0 by simp [dupU, cntV])
            obtain ⟨wo, rfl⟩ : ∃ wo, wo = wr := ⟨_, rfl⟩
            go_wp2
            go_loopg [10, 11] N.length (fun g bv kv wr => ∃ (k : Nat) (bb : Bool), k ≤ N.length ∧ g = N.length - k ∧ kv = .int .i64 k ∧ bv = .bool bb ∧ bb = dupU N r gv j k ∧ Grow w6 wr)
            case atStart => exact ⟨0, false, by omega, by omega, rfl, rfl, HD0'.out, Grow.rfl' w6⟩
            case round =>
              obtain ⟨k, bb, hk, rfl, rfl, rfl, hbb, hgo⟩ := hrel
              have HBB := Lib.hid hbb; have HGO := Lib.hid hgo
              have hB6 := (hgo.heapEq (blk_lt HB6.out)).trans HB6.out
              have hbl := blk_lt hB6
              have d3 : wr.cell? ⟨B, 3, none⟩ = some (.bool true) := (blk_cell hB6 _).trans rfl
              have HW8 := Lib.hid (HW6.out.step hgo)
              have HB8 := Lib.hid hB6
              clear hbb hgo hB6
              by_cases hkl : k < N.length
              · obtain ⟨qv, hXk⟩ := HE1.out k hkl
                have HXK := Lib.hid hXk
                clear hXk
                have HTK := Lib.hid (show N.take (k + 1) = N.take k ++ [N[k]] from List.take_succ_eq_append_getElem hkl)
                have HYE := Lib.hid (show N[k]? = some N[k] from List.getElem?_eq_getElem hkl)
                generalize N[k] = y at *
                have HST := Lib.hid (dupU_step HTK.out HXE.out HVS.out HYE.out)
                obtain ⟨gy, hgy⟩ : ∃ gv, getV y.props r.name = gv := ⟨_, rfl⟩
                obtain ⟨bt2, hbt2⟩ : ∃ b, decide (y.typ = r.typ) = b := ⟨_, rfl⟩
                obtain ⟨bo2, hbo2⟩ : ∃ b, (getP y.props r.name).isSome = b := ⟨_, rfl⟩
                obtain ⟨bz, hbz⟩ : ∃ b, (cmpV gv gy == 0) = b := ⟨_, rfl⟩
                obtain ⟨by2, hby⟩ : ∃ b, decide (valR r y = some gv) = b := ⟨_, rfl⟩
                have HST3 := Lib.hid (show by2 = (bt2 && (bo2 && bz)) by
                  rw [← hby, valR_eq, hgy, hbo2, hbt2, ← hbz, int_beq, cmpV_zero]
                  by_cases h : gv = gy
                  · subst h; cases bo2 <;> cases bt2 <;> simp
                  · cases bo2 <;> cases bt2 <;> simp [h, eq_comm])
                rw [hby] at HST
                rw [← HBB.out] at HST
                have HBO2 := Lib.hid hbo2; have HGY := Lib.hid hgy
                clear hbo2 hgy hby
                have HW9 := Lib.hid (HWR.out.step HW8.out)
                have HS := Lib.hid (show ∀ w', Grow wr w' → w'.cell? ⟨ba, oa' + k * 3 + 2, none⟩ = some qv ∧ w'.cell? ⟨w.heap.size, 3, none⟩ = some (.string r.name) from fun w' g =>
                  ⟨(HXK.out w' (HW9.out.step g)).2.2.2.1, (HRB.out.grow ((HZ.out.step HW8.out).step g)).cells.2.2.2.1⟩)
                have HPR := Lib.hid (show ∀ w', Grow wr w' → PropsR S w' qv y.props from fun w' g => (HXK.out w' (HW9.out.step g)).2.2.2.2)
                clear hrl6 c1
                have HDR := Lib.hid (show ∀ o1, Grow wr (wr.alloc o1).drew ∧ (wr.alloc o1).drew.heap[wr.heap.size]? = some o1 from fun o1 => ⟨((Grow.rfl' wr).allocd o1).drewd, heap_alloc_new wr o1⟩)
                have HD0 := Lib.hid (show Grow wr wr.drew from (Grow.rfl' wr).drewd)
                go_upto_region 18 with fail
                go_cut [12] (fun s wx => ∃ B : Nat, s = .pointer (some ⟨B, 0, none⟩) ∧ wx.heap[B]? = some (foundBox gy bo2) ∧ Grow wr wx)
                case first =>
                  go_region_held3 (fun w' => w'.cell? ⟨ba, oa' + k * 3 + 2, none⟩ = some qv ∧ w'.cell? ⟨w.heap.size, 3, none⟩ = some (.string r.name)) (first | exact HS.out _ HD0.out | exact HS.out _ (HDR.out _).1 | exact HS.out _ HG5.out | exact HS.out _ (HG5.out.allocd _) | exact HS.out _ (set4_grow HG5.out (Nat.le_refl _) _ _ _ _)) (first | (go_at_call 107; refine (refGet S qv y.props r.name _ (HPR.out _ HD0.out)).mono ?_; rintro e w5 ⟨rfl, hg5⟩; rw [HGY.out, HBO2.out]; have HG5 := Lib.hid (HD0.out.step hg5); clear hg5) | (go_at_call 107; refine (refGet S qv y.props r.name _ (HPR.out _ (HDR.out _).1)).mono ?_; rintro e w5 ⟨rfl, hg5⟩; rw [HGY.out, HBO2.out]; have hnb := (hg5.heapEq (by simp)).trans (HDR.out _).2; have z0 : w5.cell? ⟨wr.heap.size, 0, none⟩ = some (.int .i64 0) := (blk_cell hnb _).trans rfl; have z1 : w5.cell? ⟨wr.heap.size, 1, none⟩ = some (.int .i64 0) := (blk_cell hnb _).trans rfl; have z2 : w5.cell? ⟨wr.heap.size, 2, none⟩ = some (.string ⟨#[]⟩) := (blk_cell hnb _).trans rfl; have z3 : w5.cell? ⟨wr.heap.size, 3, none⟩ = some (.bool false) := (blk_cell hnb _).trans rfl; have zf0 := blk_free hnb 0; have zf1 := blk_free hnb 1; have zf2 := blk_free hnb 2; have zf3 := blk_free hnb 3; have hnl := blk_lt hnb; have HNB := Lib.hid hnb; have HG5 := Lib.hid ((HDR.out _).1.step hg5); clear hg5 hnb))
                  · go_wp2_with fail
                    go_meet
                    exact ⟨w5.heap.size, rfl, heap_alloc_new w5 _, HG5.out.allocd _⟩
                  · go_wp2_with fail
                    go_meet
                    exact ⟨wr.heap.size, rfl, set4_box HNB.out _ _ _ _, set4_grow HG5.out (Nat.le_refl _) _ _ _ _⟩
                case rest =>
                  obtain ⟨B2, rfl, hB7, hG7⟩ := hcut
                  obtain ⟨w8, rfl⟩ : ∃ w8, w8 = wc := ⟨_, rfl⟩
                  have HG6i := Lib.hid (HGO.out.step hG7)
                  have hbl2 := blk_lt hB7
                  have e3 : w8.cell? ⟨B2, 3, none⟩ = some (.bool bo2) := (blk_cell hB7 _).trans rfl
                  have e0 : w8.cell? ⟨B2, 0, none⟩ = some (.int .i64 gy.kind) := (blk_cell hB7 _).trans rfl
                  have e1 : w8.cell? ⟨B2, 1, none⟩ = some (.int .i64 gy.n) := (blk_cell hB7 _).trans rfl
                  have e2 : w8.cell? ⟨B2, 2, none⟩ = some (.string gy.s) := (blk_cell hB7 _).trans rfl
                  have hB9 := (hG7.heapEq (blk_lt HB8.out)).trans HB8.out
                  have hbl := blk_lt hB9
                  have d0 : w8.cell? ⟨B, 0, none⟩ = some (.int .i64 gv.kind) := (blk_cell hB9 _).trans rfl
                  have d1 : w8.cell? ⟨B, 1, none⟩ = some (.int .i64 gv.n) := (blk_cell hB9 _).trans rfl
                  have d2 : w8.cell? ⟨B, 2, none⟩ = some (.string gv.s) := (blk_cell hB9 _).trans rfl
                  obtain ⟨hal, _, a1, _, _⟩ := HXK.out w8 (HW9.out.step hG7)
                  obtain ⟨hrl8, c1, c2, c3, c4, c5, c6, c7, c0⟩ := (HRB.out.grow ((HZ.out.step HW8.out).step hG7)).cells
                  clear hB7 hG7 HS HPR HDR HD0 c1 c3 c4 c5 c6 c7 c0 hB9
                  cases bb
                  · by_cases hkj : k = j
                    · have HST2 := Lib.hid (show (false || (!decide (k = j) && by2)) = false by simp [hkj])
                      clear HST3
                      subst hkj
                      go_wp2_with fail
                      refine wp_region_grow (by kernel_rfl) (by kernel_rfl) ?_
                      repeat (go_big_quiet_step (fail))
                      refine wpQuiet_nil ?_
                      intro w9 hw9
                      go_wp2_with fail
                      go_roundg (N.length - (k + 1))
                      case measure => omega
                      case rel => exact ⟨k + 1, false, by omega, rfl, by go_num, rfl, by rw [HST.out]; exact HST2.out.symm, (HG6i.out).step hw9⟩
                    · have hkb : (k == j) = false := by simpa using hkj
                      have hkb2 : ((k : Int) == (j : Int)) = false := by rw [int_beq]; exact decide_eq_false (by omega)
                      have hkb3 : ((k : Int) != (j : Int)) = true := by unfold bne; rw [hkb2]; rfl
                      have hkb4 : (k != j) = true := by unfold bne; rw [hkb]; rfl
                      have HKJ := Lib.hid hkj
                      cases bt2
                      · have HST2 := Lib.hid (show (false || (!decide (k = j) && by2)) = false by rw [HST3.out]; simp)
                        go_wp2_with fail
                        refine wp_region_grow (by kernel_rfl) (by kernel_rfl) ?_
                        repeat (go_big_quiet_step (fail))
                        refine wpQuiet_nil ?_
                        intro w9 hw9
                        go_wp2_with fail
                        go_roundg (N.length - (k + 1))
                        case measure => omega
                        case rel => exact ⟨k + 1, false, by omega, rfl, by go_num, rfl, by rw [HST.out]; exact HST2.out.symm, (HG6i.out).step hw9⟩
                      · cases bo2
                        · have HST2 := Lib.hid (show (false || (!decide (k = j) && by2)) = false by rw [HST3.out]; simp)
                          go_wp2_with fail
                          refine wp_region_grow (by kernel_rfl) (by kernel_rfl) ?_
                          repeat (go_big_quiet_step (fail))
                          refine wpQuiet_nil ?_
                          intro w9 hw9
                          go_wp2_with fail
                          go_roundg (N.length - (k + 1))
                          case measure => omega
                          case rel => exact ⟨k + 1, false, by omega, rfl, by go_num, rfl, by rw [HST.out]; exact HST2.out.symm, (HG6i.out).step hw9⟩
                        · have HST2 := Lib.hid (show (false || (!decide (k = j) && by2)) = bz by rw [HST3.out, decide_eq_false HKJ.out]; simp)
                          go_wp2_with fail
                          refine wp_region_grow (by kernel_rfl) (by kernel_rfl) ?_
                          repeat (go_big_quiet_step (exact calls_gr (refCompare gv gy _)))
                          refine wpQuiet_nil ?_
                          intro w9 hw9
                          go_wp2_with fail
                          go_roundg (N.length - (k + 1))
                          case measure => omega
                          case rel => exact ⟨k + 1, bz, by omega, rfl, by go_num, rfl, by rw [HST.out]; exact HST2.out.symm, (HG6i.out).step hw9⟩
                  · have HST2 := Lib.hid (show (true || (!decide (k = j) && by2)) = true by simp)
                    clear HST3
                    go_wp2_with fail
                    refine wp_region_grow (by kernel_rfl) (by kernel_rfl) ?_
                    repeat (go_big_quiet_step (fail))
                    refine wpQuiet_nil ?_
                    intro w9 hw9
                    go_wp2_with fail
                    go_roundg (N.length - (k + 1))
                    case measure => omega
                    case rel => exact ⟨k + 1, true, by omega, rfl, by go_num, rfl, by rw [HST.out]; exact HST2.out.symm, (HG6i.out).step hw9⟩
              · have hkk : k = N.length := by omega
                have HEND := Lib.hid (dupU_end HXE.out HVS.out)
                obtain rfl : bb = bd := by rw [HBB.out, hkk, HEND.out, HBD2.out]
                obtain ⟨hal, a0, _, _, _⟩ := HX.out wr (HWR.out.step HW8.out)
                have hzs := (HNO.out _ HW8.out).1.size
                clear hkk
                cases bb
                · go_wp2_with fail
                  go_roundg (N.length - (j + 1))
                  case measure => omega
                  case rel => exact ⟨j + 1, by omega, rfl, by go_num, by rw [HD.out, if_neg (by simp)]; exact (HNO.out _ HW8.out).2, (HNO.out _ HW8.out).1⟩
                · go_wp2_with (at_builtin; go_must (refine wpList_append_I rfl (.tmp 101) (.tmp 107) 32 rfl Tryz.underlying32 w2.heap.size _ fl rfl (HYES.out _ HW8.out _).2 x.id _ rfl (rd1 _ _ _ (by simp)) (by simp; omega) (by have := HLE.out; have := HBD.out; omega) ?_))
                  intro v5 w7 k1 k2 k3
                  have H5 := Lib.hid k1; have HG7 := Lib.hid ((HYES.out _ HW8.out _).1.since k2 (Nat.le_refl _))
                  clear k1 k2 k3
                  go_wp2
                  go_roundg (N.length - (j + 1))
                  case measure => omega
                  case rel => exact ⟨j + 1, by omega, rfl, by go_num, by rw [HD.out, if_pos (by simp)]; exact H5.out, HG7.out⟩
    · have hkk : N.take j = N := List.take_of_length_le (by omega)
      rw [hkk] at HI
      simp only [hkk]
      have HR := Lib.hid (RBrkPost.of (N := N) (E := E) (r := r) ⟨fun h => absurd h (by rw [HF.out]; simp), fun _ => by unfold BrkR; rw [if_pos HK.out]⟩ (by have := HK.out; omega) HI.out HG2.out HZ.out)
      clear hkk
      go_wp2
      go_ret
      exact HR.out
end Go.Hg

namespace Go.Hg
open Go.RowKit Go.Proofs

theorem refBroken (S : Nat → Prop) (nv ev : Value) (N : List PNode) (E : List PEdge) (r : PRule) (w : World) (hn : NodesR S w nv N) (he : EdgesR S w ev E) (hb : N.length ≤ 1099511627776) (hb2 : E.length ≤ 1099511627776) :
    Calls Tryz.prog 58 #[nv, ev, r.args] w (RBrkPost N E r w) := by
  cases hf : formR r with
  | false => exact refBrokenNo nv ev N E r w hf
  | true =>
    rcases formR_kind hf with hk | hk | hk | hk
    · exact refBrokenUniq S nv ev N E r w hn he hb hf hk
    · exact refBrokenExists S nv ev N E r w hn he hb hf hk
    · exact refBrokenEnds S nv ev N E r w hn he hb2 hf hk
    · exact refBrokenMost S nv ev N E r w hn he hb2 hf hk
theorem RBrk.nil_iff {N : List PNode} {E : List PEdge} {r : PRule} {L : List Int} (h : RBrk N E r L) (hf : formR r = true) : keepR N E r = decide (L = []) := by
  by_cases hk : r.kind = 4
  · have h1 := h.2 hf
    rw [if_pos hk] at h1
    have h2 : BrokenR N E r (L.mergeSort fun x y => decide (x ≤ y)) := ⟨fun h => absurd h (by rw [hf]; simp), fun _ => by
      unfold BrkR
      rw [if_neg (by omega), if_neg (by omega), if_neg (by omega)]
      exact rset_sorted h1.1 h1.2⟩
    rw [h2.nil_iff hf]
    have hp := List.mergeSort_perm L (fun x y => decide (x ≤ y))
    refine decide_eq_decide.2 ⟨fun e => ?_, fun e => ?_⟩
    · rw [e] at hp; exact hp.symm.eq_nil
    · rw [e] at hp ⊢; exact hp.eq_nil
  · have h2 : BrokenR N E r L := ⟨h.1, fun hf => by have := h.2 hf; rwa [if_neg hk] at this⟩
    exact h2.nil_iff hf

set_option maxRecDepth 100000 in
set_option maxHeartbeats 1000000 in
theorem ref15Keeps (S : Nat → Prop) (nv ev : Value) (N : List PNode) (E : List PEdge) (r : PRule) (w : World) (hn : NodesR S w nv N) (he : EdgesR S w ev E) (hb : N.length ≤ 1099511627776) (hb2 : E.length ≤ 1099511627776) :
    Calls Tryz.prog 24 #[nv, ev, r.args] w fun e w' => e = .returned (.bool (keepR N E r)) ∧ Grow w w' := by
  have HN := Lib.hid hn; have HE := Lib.hid he; have HB := Lib.hid hb; have HB2 := Lib.hid hb2
  obtain ⟨_, _, rfl, _⟩ := SlR.open hn
  obtain ⟨_, _, rfl, _⟩ := SlR.open he
  have HW := Lib.hid (show ∀ o1, Grow w (w.alloc o1) from fun o1 => (Grow.rfl' w).allocd o1)
  have HRN := Lib.hid (fun w' => ruleBoxNew w r w')
  have HFR := Lib.hid (show ∀ L, RBrk N E r L → formR r = true → keepR N E r = decide (L = []) from fun L h hf => h.nil_iff hf)
  have HFN := Lib.hid (show formR r = false → keepR N E r = false from fun h => by unfold keepR; rw [h]; rfl)
  clear hn he hb hb2
  obtain ⟨bf, hbf⟩ : ∃ b, formR r = b := ⟨_, rfl⟩
  have HBF := Lib.hid hbf
  clear hbf
  cases bf
  · go_enter Tryz.func24, Tryz.ntmps24
    go_wp2_with fail
    refine (refForm r _).mono ?_
    rintro e w2 ⟨rfl, g2⟩
    rw [HBF.out]
    have HG2 := Lib.hid ((HW.out _).step g2)
    clear g2
    go_wp2
    go_ret
    exact ⟨by rw [HFN.out HBF.out]; rfl, HG2.out⟩
  · go_enter Tryz.func24, Tryz.ntmps24
    go_wp2_with fail
    refine (refForm r _).mono ?_
    rintro e w2 ⟨rfl, g2⟩
    rw [HBF.out]
    have HG2 := Lib.hid ((HW.out _).step g2)
    obtain ⟨hrl, c1, c2, c3, c4, c5, c6, c7, c0⟩ := (HRN.out w2 g2).cells
    clear g2
    go_wp2_with fail
    refine (refBroken S _ _ N E r w2 (HN.out.grow HG2.out) (HE.out.grow HG2.out) HB.out HB2.out).mono ?_
    rintro e w3 ⟨v, L, rfl, hL, hv, hg3⟩
    obtain ⟨oa, co, rfl, _, _⟩ := hv.isSlice
    have HK := Lib.hid (HFR.out L hL HBF.out)
    have HG3 := Lib.hid (HG2.out.step hg3)
    clear hL hv hg3 c1 c2 c3 c4 c5 c6 c7 c0
    cases L with
    | nil =>
      go_wp2
      go_ret
      exact ⟨by rw [HK.out]; rfl, HG3.out⟩
    | cons a t =>
      go_wp2
      go_ret
      exact ⟨by rw [HK.out]; rfl, HG3.out⟩
end Go.Hg

namespace Go.Hg
open Go.RowKit Go.Proofs

theorem ruleAt {w wr : World} {p : PRule} {r : List Value} {b o : Nat} (h : RRule p r) (hb : b < w.heap.size) (g : Grow w wr) (hc : ∀ (j : Nat) c, r[j]? = some c → w.cell? ⟨b, o + j, none⟩ = some c) :
    b < wr.heap.size ∧ wr.cell? ⟨b, o, none⟩ = some (.int .i64 p.id) ∧ wr.cell? ⟨b, o + 1, none⟩ = some (.int .i64 p.kind) ∧ wr.cell? ⟨b, o + 2, none⟩ = some (.string p.typ) ∧ wr.cell? ⟨b, o + 3, none⟩ = some (.string p.name) ∧
    wr.cell? ⟨b, o + 4, none⟩ = some (.string p.from_) ∧ wr.cell? ⟨b, o + 5, none⟩ = some (.string p.to_) ∧ wr.cell? ⟨b, o + 6, none⟩ = some (.int .i64 p.n) ∧ wr.cell? ⟨b, o + 7, none⟩ = some (.int .i64 p.state) := by
  unfold RRule at h
  subst h
  refine ⟨Nat.lt_of_lt_of_le hb g.size, ?_, ?_, ?_, ?_, ?_, ?_, ?_, ?_⟩
  · exact (g.cell (p := ⟨b, o, none⟩) hb).trans (hc 0 _ rfl)
  · exact (g.cell (p := ⟨b, o + 1, none⟩) hb).trans (hc 1 _ rfl)
  · exact (g.cell (p := ⟨b, o + 2, none⟩) hb).trans (hc 2 _ rfl)
  · exact (g.cell (p := ⟨b, o + 3, none⟩) hb).trans (hc 3 _ rfl)
  · exact (g.cell (p := ⟨b, o + 4, none⟩) hb).trans (hc 4 _ rfl)
  · exact (g.cell (p := ⟨b, o + 5, none⟩) hb).trans (hc 5 _ rfl)
  · exact (g.cell (p := ⟨b, o + 6, none⟩) hb).trans (hc 6 _ rfl)
  · exact (g.cell (p := ⟨b, o + 7, none⟩) hb).trans (hc 7 _ rfl)

set_option maxRecDepth 100000 in
set_option maxHeartbeats 4000000 in
theorem ref15First (S S' : Nat → Prop) (nv ev lv : Value) (N : List PNode) (E : List PEdge) (l : List PRule) (w : World) (hn : NodesR S w nv N) (he : EdgesR S w ev E) (hl : SlR S' w 8 RRule lv l) (hb : N.length ≤ 1099511627776) (hb2 : E.length ≤ 1099511627776) :
    Calls Tryz.prog 77 #[nv, ev, lv] w fun e w' => e = .returned (.tuple #[.int .i64 ((firstR N E l).getD 0), .bool (firstR N E l).isSome]) ∧ Grow w w' := by
  have HN := Lib.hid hn; have HE := Lib.hid he; have HB := Lib.hid hb; have HB2 := Lib.hid hb2
  obtain ⟨_, _, rfl, _⟩ := SlR.open hn
  obtain ⟨_, _, rfl, _⟩ := SlR.open he
  obtain ⟨al, cl, rfl, hll, hlc, hL⟩ := SlR.open hl
  unfold maxLen at hlc
  have HL := Lib.hid hL
  clear hn he hl hb hb2 hL
  go_enter Tryz.func77, Tryz.ntmps77
  go_wp2
  go_loopg [8, 9, 10] l.length (fun g iv sv kv wr => ∃ (k : Nat) (o : Option Int) (i : Int) (b : Bool), k ≤ l.length ∧ g = l.length - k ∧ kv = .int .i64 k ∧ o = firstR N E (l.take k) ∧ i = o.getD 0 ∧ b = o.isSome ∧ iv = .int .i64 i ∧ sv = .bool b ∧ Grow w wr)
  case atStart => exact ⟨0, none, 0, false, by omega, by omega, rfl, rfl, rfl, rfl, rfl, rfl, Grow.rfl' w⟩
  case round =>
    obtain ⟨k, o, i, b, hk, rfl, rfl, ho, hi, hb, rfl, rfl, hg⟩ := hrel
    have HO := Lib.hid ho; have HI := Lib.hid hi; have HBB := Lib.hid hb; have HG := Lib.hid hg
    clear ho hi hb hg
    by_cases hkl : k < l.length
    · obtain ⟨ba, oa, ra, rfl, hSa, hba, hRa, hca⟩ := HL.out k l[k] (List.getElem?_eq_getElem hkl)
      have HX := Lib.hid (show ∀ w', Grow w w' → _ from fun w' g => ruleAt hRa hba g hca)
      clear hca hRa hSa hba
      have HT := Lib.hid (show l.take (k + 1) = l.take k ++ [l[k]] from List.take_succ_eq_append_getElem hkl)
      generalize l[k] = r at *
      have HS := Lib.hid (show firstR N E (l.take (k + 1)) = firstS N E o r by rw [HT.out, firstR_snoc, HO.out])
      obtain ⟨hbl, c0, c1, c2, c3, c4, c5, c6, c7⟩ := HX.out wr HG.out
      obtain ⟨bs, hbs⟩ : ∃ b, (r.state == 2) = b := ⟨_, rfl⟩
      obtain ⟨bk, hbk⟩ : ∃ b, keepR N E r = b := ⟨_, rfl⟩
      have HBK := Lib.hid hbk
      have HBR := Lib.hid (show badR N E r = (bs && !bk) by unfold badR; rw [← hbs, hbk, int_beq])
      clear hbk
      have HE1 := Lib.hid (show ∀ w', Grow wr w' → Grow w w' from fun w' g => HG.out.step g)
      cases bs
      · go_wp2
        go_roundg (l.length - (k + 1))
        case measure => omega
        case rel => exact ⟨k + 1, o, i, b, by omega, rfl, by go_num, by rw [HS.out]; unfold firstS; rw [HBR.out]; rfl, HI.out, HBB.out, rfl, rfl, HG.out⟩
      · go_wp2_with fail
        refine (ref15Keeps S _ _ N E r _ (HN.out.grow HG.out) (HE.out.grow HG.out) HB.out HB2.out).mono ?_
        rintro e w3 ⟨rfl, hg3⟩
        rw [HBK.out]
        have HG3 := Lib.hid (HG.out.step hg3)
        clear hg3 c0 c1 c2 c3 c4 c5 c6 c7 hbl
        obtain ⟨hbl, c0, c1, c2, c3, c4, c5, c6, c7⟩ := HX.out w3 HG3.out
        clear c1 c2 c3 c4 c5 c6 c7
        cases bk
        · cases o with
          | none =>
            obtain rfl : b = false := HBB.out
            have HF := Lib.hid (show some r.id = firstR N E (l.take (k + 1)) by rw [HS.out]; unfold firstS; rw [HBR.out]; rfl)
            go_wp2
            go_roundg (l.length - (k + 1))
            case measure => omega
            case rel => exact ⟨k + 1, some r.id, r.id, true, by omega, rfl, by go_num, HF.out, rfl, rfl, rfl, rfl, HG3.out⟩
          | some m =>
            obtain rfl : b = true := HBB.out
            obtain rfl : i = m := HI.out
            obtain ⟨bl, hbl2⟩ : ∃ b, decide (r.id < i) = b := ⟨_, rfl⟩
            have HBL := Lib.hid hbl2
            cases bl
            · have HF := Lib.hid (show some i = firstR N E (l.take (k + 1)) by rw [HS.out]; unfold firstS; rw [HBR.out]; have := of_decide_eq_false HBL.out; simp [this])
              go_wp2
              go_roundg (l.length - (k + 1))
              case measure => omega
              case rel => exact ⟨k + 1, some i, i, true, by omega, rfl, by go_num, HF.out, rfl, rfl, rfl, rfl, HG3.out⟩
            · have HF := Lib.hid (show some r.id = firstR N E (l.take (k + 1)) by rw [HS.out]; unfold firstS; rw [HBR.out]; have := of_decide_eq_true HBL.out; simp [this])
              go_wp2
              go_roundg (l.length - (k + 1))
              case measure => omega
              case rel => exact ⟨k + 1, some r.id, r.id, true, by omega, rfl, by go_num, HF.out, rfl, rfl, rfl, rfl, HG3.out⟩
        · go_wp2
          go_roundg (l.length - (k + 1))
          case measure => omega
          case rel => exact ⟨k + 1, o, i, b, by omega, rfl, by go_num, by rw [HS.out]; unfold firstS; rw [HBR.out]; rfl, HI.out, HBB.out, rfl, rfl, HG3.out⟩
    · have hkk : l.take k = l := List.take_of_length_le (by omega)
      have HR := Lib.hid (show i = (firstR N E l).getD 0 ∧ b = (firstR N E l).isSome by rw [HI.out, HBB.out, HO.out, hkk]; exact ⟨rfl, rfl⟩)
      clear hkk
      go_wp2
      go_ret2
      exact ⟨by rw [← HR.out.1, ← HR.out.2]; rfl, HG.out⟩
end Go.Hg

namespace Go.Hg
open Go.RowKit Go.Proofs

set_option maxRecDepth 100000 in
set_option maxHeartbeats 2000000 in
theorem ref21Whole (S S' : Nat → Prop) (B : Nat) (G : PGraph) (nv ev rv iv nx : Value) (l : List PRule) (w : World) (hg : GraphOk 55 S w B G) (hl : SlR S' w 8 RRule rv l) (hb : G.nodes.length ≤ 1099511627776) (hb2 : G.edges.length ≤ 1099511627776)
    (hv : (∃ a n c, nv = .slice a n c) ∧ (∃ a n c, ev = .slice a n c) ∧ (∃ a n c, iv = .slice a n c) ∧ ∃ n, nx = .int .i64 n) :
    Calls Tryz.prog 29 #[.agg #[nv, ev, rv, iv, nx], .pointer (some ⟨B, 0, none⟩)] w fun e w' => e = .returned (.tuple #[.int .i64 ((firstR G.nodes G.edges l).getD 0), .int .i64 (errR (firstR G.nodes G.edges l))]) ∧ Grow w w' := by
  obtain ⟨⟨_, _, _, rfl⟩, ⟨_, _, _, rfl⟩, ⟨_, _, _, rfl⟩, ⟨_, rfl⟩⟩ := hv
  have HL := Lib.hid hl
  obtain ⟨_, _, rfl, _⟩ := SlR.open hl
  obtain ⟨na, nc, ea, ec, hB, g0, g1, g2, hn, he⟩ := hg.read
  have HN := Lib.hid hn; have HE := Lib.hid he; have HB1 := Lib.hid hb; have HB2 := Lib.hid hb2
  have HW := Lib.hid (show ∀ o1, Grow w (w.alloc o1) from fun o1 => (Grow.rfl' w).allocd o1)
  obtain ⟨o, ho⟩ : ∃ o, firstR G.nodes G.edges l = o := ⟨_, rfl⟩
  have HO := Lib.hid ho
  clear hl hg hn he hb hb2 ho
  have HC := Lib.hid (show ∀ (W : World) (g : Gr W), Grow w W → Calls Tryz.prog 77 _ g.x _ from fun W g hg => ref15First S S' _ _ _ G.nodes G.edges l g.x (HN.out.grow (hg.step g.h)) (HE.out.grow (hg.step g.h)) (rulesGrow HL.out (hg.step g.h)) HB1.out HB2.out)
  simp only [HO.out] at HC
  cases o with
  | none =>
    go_enter Tryz.func29, Tryz.ntmps29
    go_wp2_with fail
    refine wp_region_grow (by kernel_rfl) (by kernel_rfl) ?_
    repeat (go_big_quiet_step (exact calls_gr (HC.out _ _ (HW.out _))))
    refine wpQuiet_nil ?_
    intro w3 hw3
    have HG3 := Lib.hid ((HW.out _).step hw3)
    clear hw3
    go_wp2
    go_ret2
    exact ⟨by rw [HO.out]; rfl, HG3.out⟩
  | some m =>
    go_enter Tryz.func29, Tryz.ntmps29
    go_wp2_with fail
    refine wp_region_grow (by kernel_rfl) (by kernel_rfl) ?_
    repeat (go_big_quiet_step (exact calls_gr (HC.out _ _ (HW.out _))))
    refine wpQuiet_nil ?_
    intro w3 hw3
    have HG3 := Lib.hid ((HW.out _).step hw3)
    clear hw3
    go_wp2
    go_ret2
    exact ⟨by rw [HO.out]; rfl, HG3.out⟩

def RSpot (s : PSpot) (r : List Value) : Prop := r = [.int .i64 s.kind, .string s.typ, .string s.name]
abbrev PSpot.args (s : PSpot) : Value := .agg #[.int .i64 s.kind, .string s.typ, .string s.name]
abbrev SpotsR (S : Nat → Prop) (w : World) (v : Value) (l : List PSpot) : Prop := SlR S w 3 RSpot v l
theorem spotAt {w wr : World} {p : PSpot} {r : List Value} {b o : Nat} (h : RSpot p r) (hb : b < w.heap.size) (g : Grow w wr) (hc : ∀ (j : Nat) c, r[j]? = some c → w.cell? ⟨b, o + j, none⟩ = some c) :
    b < wr.heap.size ∧ wr.cell? ⟨b, o, none⟩ = some (.int .i64 p.kind) ∧ wr.cell? ⟨b, o + 1, none⟩ = some (.string p.typ) ∧ wr.cell? ⟨b, o + 2, none⟩ = some (.string p.name) := by
  unfold RSpot at h
  subst h
  refine ⟨Nat.lt_of_lt_of_le hb g.size, ?_, ?_, ?_⟩
  · exact (g.cell (p := ⟨b, o, none⟩) hb).trans (hc 0 _ rfl)
  · exact (g.cell (p := ⟨b, o + 1, none⟩) hb).trans (hc 1 _ rfl)
  · exact (g.cell (p := ⟨b, o + 2, none⟩) hb).trans (hc 2 _ rfl)
theorem SpotsR.grow {S : Nat → Prop} {w w' : World} {v : Value} {l : List PSpot} (h : SpotsR S w v l) (g : Grow w w') : SpotsR S w' v l :=
  SlR.keep h (fun _ _ hb => g.heapEq hb) g.size (fun _ _ _ hR => hR)
theorem spot_eq (a b : PSpot) : a = b ↔ a.kind = b.kind ∧ a.typ = b.typ ∧ a.name = b.name := by
  constructor
  · rintro rfl; exact ⟨rfl, rfl, rfl⟩
  · intro h; cases a; cases b; simp_all
theorem mem_take_snoc {α : Type} [DecidableEq α] {l : List α} {k : Nat} {x s : α} (hT : l.take (k + 1) = l.take k ++ [x]) (h : s ∉ l.take k) (hx : s ≠ x) : s ∉ l.take (k + 1) := by
  rw [hT, List.mem_append, List.mem_singleton]
  rintro (h1 | h1)
  · exact h h1
  · exact hx h1

set_option maxRecDepth 100000 in
set_option maxHeartbeats 2000000 in
theorem ref20Has (S : Nat → Prop) (lv : Value) (l : List PSpot) (s : PSpot) (w : World) (hl : SpotsR S w lv l) :
    Calls Tryz.prog 123 #[lv, s.args] w fun e w' => e = .returned (.bool (decide (s ∈ l))) ∧ Grow w w' := by
  obtain ⟨al, cl, rfl, hll, hlc, hL⟩ := SlR.open hl
  unfold maxLen at hlc
  have HL := Lib.hid hL
  have HW := Lib.hid (show ∀ o1, Grow w (w.alloc o1) from fun o1 => (Grow.rfl' w).allocd o1)
  have HNB := Lib.hid (show ∀ o1 w', Grow (w.alloc o1) w' → w'.heap[w.heap.size]? = some o1 from fun o1 w' hg => by rw [hg.heapEq (by simp)]; exact heap_alloc_new w _)
  clear hl hL
  go_enter Tryz.func123, Tryz.ntmps123
  go_wp2
  obtain ⟨W1, hW1⟩ : ∃ W1, w.alloc (.cells #[.int .i64 s.kind, .string s.typ, .string s.name] 140) = W1 := ⟨_, rfl⟩
  have HB := Lib.hid (show ∀ w', Grow W1 w' → w'.heap[w.heap.size]? = some (.cells #[.int .i64 s.kind, .string s.typ, .string s.name] 140 (0, 0)) from fun w' g => HNB.out _ w' (hW1 ▸ g))
  have HG1 := Lib.hid (show Grow w W1 from hW1 ▸ HW.out _)
  rw [hW1]
  clear hW1
  go_loopg [5] l.length (fun g kv wr => ∃ k : Nat, k ≤ l.length ∧ g = l.length - k ∧ kv = .int .i64 k ∧ s ∉ l.take k ∧ Grow W1 wr)
  case atStart => exact ⟨0, by omega, by omega, rfl, by simp, Grow.rfl' W1⟩
  case round =>
    obtain ⟨k, hk, rfl, rfl, hno, hg⟩ := hrel
    have HNO := Lib.hid hno; have HG := Lib.hid hg
    have hbx := HB.out wr hg
    have hbl := blk_lt hbx
    have s0 : wr.cell? ⟨w.heap.size, 0, none⟩ = some (.int .i64 s.kind) := (blk_cell hbx _).trans rfl
    have s1 : wr.cell? ⟨w.heap.size, 1, none⟩ = some (.string s.typ) := (blk_cell hbx _).trans rfl
    have s2 : wr.cell? ⟨w.heap.size, 2, none⟩ = some (.string s.name) := (blk_cell hbx _).trans rfl
    clear hno hg hbx
    by_cases hkl : k < l.length
    · obtain ⟨ba, oa, ra, rfl, hSa, hba, hRa, hca⟩ := HL.out k l[k] (List.getElem?_eq_getElem hkl)
      obtain ⟨hal, a0, a1, a2⟩ := spotAt hRa hba (HG1.out.step HG.out) hca
      clear hca hRa hSa hba
      have HT := Lib.hid (show l.take (k + 1) = l.take k ++ [l[k]] from List.take_succ_eq_append_getElem hkl)
      have HM := Lib.hid (show l[k] ∈ l from List.getElem_mem hkl)
      generalize l[k] = x at *
      obtain ⟨b0, hb0⟩ : ∃ b, (x.kind == s.kind) = b := ⟨_, rfl⟩
      obtain ⟨b1, hb1⟩ : ∃ b, decide (x.typ = s.typ) = b := ⟨_, rfl⟩
      obtain ⟨b2, hb2⟩ : ∃ b, decide (x.name = s.name) = b := ⟨_, rfl⟩
      have HEQ := Lib.hid (show decide (x = s) = (b0 && (b1 && b2)) by
        rw [← hb0, ← hb1, ← hb2, int_beq]
        simp only [spot_eq, Bool.decide_and])
      have HSTEP := Lib.hid (show x ≠ s → s ∉ l.take (k + 1) from fun h => mem_take_snoc HT.out HNO.out (Ne.symm h))
      have HYES := Lib.hid (show decide (x = s) = true → decide (s ∈ l) = true from fun h => decide_eq_true ((of_decide_eq_true h) ▸ HM.out))
      have HGR := Lib.hid (show ∀ w4, Grow wr w4 → Grow W1 w4 from fun w4 h => HG.out.step h)
      cases b0
      · have HX := Lib.hid (HSTEP.out (of_decide_eq_false (by rw [HEQ.out]; rfl)))
        go_wp2_with fail
        refine wp_region_grow (by kernel_rfl) (by kernel_rfl) ?_
        repeat (go_big_quiet_step (fail))
        refine wpQuiet_nil ?_
        intro w4 hw4
        go_wp2_with fail
        go_roundg (l.length - (k + 1))
        case measure => omega
        case rel => exact ⟨k + 1, by omega, rfl, by go_num, HX.out, HGR.out _ hw4⟩
      · cases b1
        · have HX := Lib.hid (HSTEP.out (of_decide_eq_false (by rw [HEQ.out]; rfl)))
          go_wp2_with fail
          refine wp_region_grow (by kernel_rfl) (by kernel_rfl) ?_
          repeat (go_big_quiet_step (fail))
          refine wpQuiet_nil ?_
          intro w4 hw4
          go_wp2_with fail
          go_roundg (l.length - (k + 1))
          case measure => omega
          case rel => exact ⟨k + 1, by omega, rfl, by go_num, HX.out, HGR.out _ hw4⟩
        · cases b2
          · have HX := Lib.hid (HSTEP.out (of_decide_eq_false (by rw [HEQ.out]; rfl)))
            go_wp2_with fail
            refine wp_region_grow (by kernel_rfl) (by kernel_rfl) ?_
            repeat (go_big_quiet_step (fail))
            refine wpQuiet_nil ?_
            intro w4 hw4
            go_wp2_with fail
            go_roundg (l.length - (k + 1))
            case measure => omega
            case rel => exact ⟨k + 1, by omega, rfl, by go_num, HX.out, HGR.out _ hw4⟩
          · have HX := Lib.hid (HYES.out (by rw [HEQ.out]; rfl))
            go_wp2_with fail
            refine wp_region_grow (by kernel_rfl) (by kernel_rfl) ?_
            repeat (go_big_quiet_step (fail))
            refine wpQuiet_nil ?_
            intro w4 hw4
            go_wp2
            go_ret
            exact ⟨by rw [HX.out]; rfl, HG1.out.step (HGR.out _ hw4)⟩
    · have hkk : l.take k = l := List.take_of_length_le (by omega)
      have HX := Lib.hid (show decide (s ∈ l) = false from decide_eq_false (hkk ▸ HNO.out))
      clear hkk
      go_wp2
      go_ret
      exact ⟨by rw [HX.out]; rfl, HG1.out.step HG.out⟩

theorem ref20HasB {S : Nat → Prop} {lv : Value} {l : List PSpot} {k : Int} {t n : ByteArray} {w : World} {b : Bool} (hl : SpotsR S w lv l) (hb : decide (PSpot.mk k t n ∈ l) = b) :
    Calls Tryz.prog 123 #[lv, .agg #[.int .i64 k, .string t, .string n]] w fun e w' => e = .returned (.bool b) ∧ Grow w w' := by
  subst hb
  exact ref20Has S lv l ⟨k, t, n⟩ w hl
end Go.Hg

namespace Go.Hg
open Go.RowKit Go.Proofs

set_option maxRecDepth 100000 in
set_option maxHeartbeats 1000000 in
theorem ref20Touches1 (S : Nat → Prop) (lv : Value) (l : List PSpot) (r : PRule) (w : World) (hl : SpotsR S w lv l) (hk : r.kind = 1) :
    Calls Tryz.prog 78 #[lv, r.args] w fun e w' => e = .returned (.bool (touchR l r)) ∧ Grow w w' := by
  have HL := Lib.hid hl
  obtain ⟨_, _, rfl, _⟩ := SlR.open hl
  have HW := Lib.hid (show ∀ o1, Grow w (w.alloc o1) from fun o1 => (Grow.rfl' w).allocd o1)
  obtain ⟨b, hb⟩ : ∃ b, decide (PSpot.mk 1 r.typ r.name ∈ l) = b := ⟨_, rfl⟩
  have HB := Lib.hid hb
  have HT := Lib.hid (show touchR l r = b by unfold touchR; rw [if_pos hk]; exact hb)
  have HK := Lib.hid hk
  have k1 : (r.kind == 1) = true := by rw [int_beq]; exact decide_eq_true HK.out
  clear hb hk
  clear hl
  go_enter Tryz.func78, Tryz.ntmps78
  go_wp2_with fail
  refine (ref20HasB (HL.out.grow (HW.out _)) HB.out).mono ?_
  rintro e w2 ⟨rfl, g2⟩
  have HG2 := Lib.hid ((HW.out _).step g2)
  clear g2
  go_wp2
  go_ret
  exact ⟨by rw [HT.out]; rfl, HG2.out⟩

set_option maxRecDepth 100000 in
set_option maxHeartbeats 1000000 in
theorem ref20Touches3 (S : Nat → Prop) (lv : Value) (l : List PSpot) (r : PRule) (w : World) (hl : SpotsR S w lv l) (hk : r.kind = 3) :
    Calls Tryz.prog 78 #[lv, r.args] w fun e w' => e = .returned (.bool (touchR l r)) ∧ Grow w w' := by
  have HL := Lib.hid hl
  obtain ⟨_, _, rfl, _⟩ := SlR.open hl
  have HW := Lib.hid (show ∀ o1, Grow w (w.alloc o1) from fun o1 => (Grow.rfl' w).allocd o1)
  obtain ⟨b, hb⟩ : ∃ b, decide (PSpot.mk 2 r.typ ByteArray.empty ∈ l) = b := ⟨_, rfl⟩
  have HB := Lib.hid hb
  have HT := Lib.hid (show touchR l r = b by unfold touchR; rw [if_neg (by omega), if_neg (by omega), if_pos (by omega)]; exact hb)
  have HK := Lib.hid hk
  have k1 : (r.kind == 1) = false := by rw [int_beq]; exact decide_eq_false (by have := HK.out; omega)
  have k2 : (r.kind == 2) = false := by rw [int_beq]; exact decide_eq_false (by have := HK.out; omega)
  have k3 : (r.kind == 3) = true := by rw [int_beq]; exact decide_eq_true HK.out
  clear hb hk
  clear hl
  go_enter Tryz.func78, Tryz.ntmps78
  go_wp2_with fail
  refine (ref20HasB (HL.out.grow (HW.out _)) HB.out).mono ?_
  rintro e w2 ⟨rfl, g2⟩
  have HG2 := Lib.hid ((HW.out _).step g2)
  clear g2
  go_wp2
  go_ret
  exact ⟨by rw [HT.out]; rfl, HG2.out⟩

set_option maxRecDepth 100000 in
set_option maxHeartbeats 1000000 in
theorem ref20Touches4 (S : Nat → Prop) (lv : Value) (l : List PSpot) (r : PRule) (w : World) (hl : SpotsR S w lv l) (hk : r.kind = 4) :
    Calls Tryz.prog 78 #[lv, r.args] w fun e w' => e = .returned (.bool (touchR l r)) ∧ Grow w w' := by
  have HL := Lib.hid hl
  obtain ⟨_, _, rfl, _⟩ := SlR.open hl
  have HW := Lib.hid (show ∀ o1, Grow w (w.alloc o1) from fun o1 => (Grow.rfl' w).allocd o1)
  obtain ⟨b, hb⟩ : ∃ b, decide (PSpot.mk 2 r.typ ByteArray.empty ∈ l) = b := ⟨_, rfl⟩
  have HB := Lib.hid hb
  have HT := Lib.hid (show touchR l r = b by unfold touchR; rw [if_neg (by omega), if_neg (by omega), if_pos (by omega)]; exact hb)
  have HK := Lib.hid hk
  have k1 : (r.kind == 1) = false := by rw [int_beq]; exact decide_eq_false (by have := HK.out; omega)
  have k2 : (r.kind == 2) = false := by rw [int_beq]; exact decide_eq_false (by have := HK.out; omega)
  have k3 : (r.kind == 3) = false := by rw [int_beq]; exact decide_eq_false (by have := HK.out; omega)
  have k4 : (r.kind == 4) = true := by rw [int_beq]; exact decide_eq_true HK.out
  clear hb hk
  clear hl
  go_enter Tryz.func78, Tryz.ntmps78
  go_wp2_with fail
  refine (ref20HasB (HL.out.grow (HW.out _)) HB.out).mono ?_
  rintro e w2 ⟨rfl, g2⟩
  have HG2 := Lib.hid ((HW.out _).step g2)
  clear g2
  go_wp2
  go_ret
  exact ⟨by rw [HT.out]; rfl, HG2.out⟩

set_option maxRecDepth 100000 in
set_option maxHeartbeats 1000000 in
theorem ref20Touches2 (S : Nat → Prop) (lv : Value) (l : List PSpot) (r : PRule) (w : World) (hl : SpotsR S w lv l) (hk : r.kind = 2) :
    Calls Tryz.prog 78 #[lv, r.args] w fun e w' => e = .returned (.bool (touchR l r)) ∧ Grow w w' := by
  have HL := Lib.hid hl
  obtain ⟨_, _, rfl, _⟩ := SlR.open hl
  have HW := Lib.hid (show ∀ o1, Grow w (w.alloc o1) from fun o1 => (Grow.rfl' w).allocd o1)
  obtain ⟨b, hb⟩ : ∃ b, decide (PSpot.mk 1 r.typ r.name ∈ l) = b := ⟨_, rfl⟩
  obtain ⟨b2, hb2⟩ : ∃ b, decide (PSpot.mk 1 r.typ ByteArray.empty ∈ l) = b := ⟨_, rfl⟩
  have HB := Lib.hid hb; have HB2 := Lib.hid hb2
  have HT := Lib.hid (show touchR l r = (b || b2) by unfold touchR; rw [if_neg (by omega), if_pos hk, hb, hb2])
  have HK := Lib.hid hk
  have k1 : (r.kind == 1) = false := by rw [int_beq]; exact decide_eq_false (by have := HK.out; omega)
  have k2 : (r.kind == 2) = true := by rw [int_beq]; exact decide_eq_true HK.out
  clear hb hb2 hk
  clear hl
  cases b
  · go_enter Tryz.func78, Tryz.ntmps78
    go_wp2_with fail
    refine (ref20HasB (HL.out.grow (HW.out _)) HB.out).mono ?_
    rintro e w2 ⟨rfl, g2⟩
    have HG2 := Lib.hid ((HW.out _).step g2)
    obtain ⟨hrl2, _, d2, d3, _, _, _, _, _⟩ := (ruleBoxNew w r w2 g2).cells
    clear g2
    go_wp2_with fail
    refine (ref20HasB (HL.out.grow HG2.out) HB2.out).mono ?_
    rintro e w3 ⟨rfl, g3⟩
    have HG3 := Lib.hid (HG2.out.step g3)
    clear g3
    go_wp2
    go_ret
    exact ⟨by rw [HT.out]; rfl, HG3.out⟩
  · go_enter Tryz.func78, Tryz.ntmps78
    go_wp2_with fail
    refine (ref20HasB (HL.out.grow (HW.out _)) HB.out).mono ?_
    rintro e w2 ⟨rfl, g2⟩
    have HG2 := Lib.hid ((HW.out _).step g2)
    clear g2
    go_wp2
    go_ret
    exact ⟨by rw [HT.out]; rfl, HG2.out⟩

set_option maxRecDepth 100000 in
set_option maxHeartbeats 1000000 in
theorem ref20Touches0 (S : Nat → Prop) (lv : Value) (l : List PSpot) (r : PRule) (w : World) (hl : SpotsR S w lv l) (hk : r.kind ≠ 1 ∧ r.kind ≠ 2 ∧ r.kind ≠ 3 ∧ r.kind ≠ 4) :
    Calls Tryz.prog 78 #[lv, r.args] w fun e w' => e = .returned (.bool (touchR l r)) ∧ Grow w w' := by
  have HL := Lib.hid hl
  obtain ⟨_, _, rfl, _⟩ := SlR.open hl
  have HW := Lib.hid (show ∀ o1, Grow w (w.alloc o1) from fun o1 => (Grow.rfl' w).allocd o1)
  have HT := Lib.hid (show touchR l r = false by unfold touchR; rw [if_neg (by omega), if_neg (by omega), if_neg (by omega)])
  have k1 : (r.kind == 1) = false := by rw [int_beq]; exact decide_eq_false (by omega)
  have k2 : (r.kind == 2) = false := by rw [int_beq]; exact decide_eq_false (by omega)
  have k3 : (r.kind == 3) = false := by rw [int_beq]; exact decide_eq_false (by omega)
  have k4 : (r.kind == 4) = false := by rw [int_beq]; exact decide_eq_false (by omega)
  clear hk
  clear hl
  go_enter Tryz.func78, Tryz.ntmps78
  go_wp2
  go_ret
  exact ⟨by rw [HT.out]; rfl, HW.out _⟩

theorem ref20Touches (S : Nat → Prop) (lv : Value) (l : List PSpot) (r : PRule) (w : World) (hl : SpotsR S w lv l) :
    Calls Tryz.prog 78 #[lv, r.args] w fun e w' => e = .returned (.bool (touchR l r)) ∧ Grow w w' := by
  by_cases h1 : r.kind = 1
  · exact ref20Touches1 S lv l r w hl h1
  by_cases h2 : r.kind = 2
  · exact ref20Touches2 S lv l r w hl h2
  by_cases h3 : r.kind = 3
  · exact ref20Touches3 S lv l r w hl h3
  by_cases h4 : r.kind = 4
  · exact ref20Touches4 S lv l r w hl h4
  exact ref20Touches0 S lv l r w hl ⟨h1, h2, h3, h4⟩
end Go.Hg

namespace Go.Hg
open Go.RowKit Go.Proofs

theorem keySpot : KeyK Tryz.prog 136 PSpot.args := by
  refine keyK_struct3 (c0 := fun v : PSpot => .int .i64 v.kind) (c1 := fun v => .string v.typ) (c2 := fun v => .string v.name) Tryz.underlying136 (by kernel_rfl) (by decide) (by decide) (by decide) rfl rfl rfl (fun v => .inl ⟨_, rfl, Tryz.underlying3⟩) (fun v => .inr ⟨_, rfl, Tryz.underlying9⟩) (fun v => .inr ⟨_, rfl, Tryz.underlying9⟩) ?_
  intro a b h0 h1 h2
  cases a; cases b
  simp only [Value.int.injEq, Value.string.injEq, true_and] at h0 h1 h2
  rw [h0, h1, h2]

set_option maxRecDepth 100000 in
set_option maxHeartbeats 2000000 in
theorem dirtyAmong (S : Nat → Prop) (lv : Value) (l : List PSpot) (s : PSpot) (w : World) (hl : SpotsR S w lv l) :
    Calls Tryz.prog 88 #[s.args, lv] w fun e w' => e = .returned (.bool (decide (s ∈ l))) ∧ Grow w w' := by
  obtain ⟨al, cl, rfl, hll, hlc, hL⟩ := SlR.open hl
  unfold maxLen at hlc
  have HL := Lib.hid hL
  have HW := Lib.hid (show ∀ o1, Grow w (w.alloc o1) from fun o1 => (Grow.rfl' w).allocd o1)
  have HNB := Lib.hid (show ∀ o1 w', Grow (w.alloc o1) w' → w'.heap[w.heap.size]? = some o1 from fun o1 w' hg => by rw [hg.heapEq (by simp)]; exact heap_alloc_new w _)
  clear hl hL
  go_enter Tryz.func88, Tryz.ntmps88
  go_wp2
  obtain ⟨W1, hW1⟩ : ∃ W1, w.alloc (.cells #[.int .i64 s.kind, .string s.typ, .string s.name] 136) = W1 := ⟨_, rfl⟩
  have HB := Lib.hid (show ∀ w', Grow W1 w' → w'.heap[w.heap.size]? = some (.cells #[.int .i64 s.kind, .string s.typ, .string s.name] 136 (0, 0)) from fun w' g => HNB.out _ w' (hW1 ▸ g))
  have HG1 := Lib.hid (show Grow w W1 from hW1 ▸ HW.out _)
  rw [hW1]
  clear hW1
  go_loopg [9] l.length (fun g kv wr => ∃ k : Nat, k ≤ l.length ∧ g = l.length - k ∧ kv = .int .i64 k ∧ s ∉ l.take k ∧ Grow W1 wr)
  case atStart => exact ⟨0, by omega, by omega, rfl, by simp, Grow.rfl' W1⟩
  case round =>
    obtain ⟨k, hk, rfl, rfl, hno, hg⟩ := hrel
    have HNO := Lib.hid hno; have HG := Lib.hid hg
    have hbx := HB.out wr hg
    have hbl := blk_lt hbx
    have s0 : wr.cell? ⟨w.heap.size, 0, none⟩ = some (.int .i64 s.kind) := (blk_cell hbx _).trans rfl
    have s1 : wr.cell? ⟨w.heap.size, 1, none⟩ = some (.string s.typ) := (blk_cell hbx _).trans rfl
    have s2 : wr.cell? ⟨w.heap.size, 2, none⟩ = some (.string s.name) := (blk_cell hbx _).trans rfl
    clear hno hg hbx
    by_cases hkl : k < l.length
    · obtain ⟨ba, oa, ra, rfl, hSa, hba, hRa, hca⟩ := HL.out k l[k] (List.getElem?_eq_getElem hkl)
      obtain ⟨hal, a0, a1, a2⟩ := spotAt hRa hba (HG1.out.step HG.out) hca
      clear hca hRa hSa hba
      have HT := Lib.hid (show l.take (k + 1) = l.take k ++ [l[k]] from List.take_succ_eq_append_getElem hkl)
      have HM := Lib.hid (show l[k] ∈ l from List.getElem_mem hkl)
      generalize l[k] = x at *
      obtain ⟨b0, hb0⟩ : ∃ b, (s.kind == x.kind) = b := ⟨_, rfl⟩
      obtain ⟨b1, hb1⟩ : ∃ b, decide (s.typ = x.typ) = b := ⟨_, rfl⟩
      obtain ⟨b2, hb2⟩ : ∃ b, decide (s.name = x.name) = b := ⟨_, rfl⟩
      have HEQ := Lib.hid (show decide (s = x) = (b0 && (b1 && b2)) by
        rw [← hb0, ← hb1, ← hb2, int_beq]
        simp only [spot_eq, Bool.decide_and])
      have HSTEP := Lib.hid (show s ≠ x → s ∉ l.take (k + 1) from fun h => mem_take_snoc HT.out HNO.out h)
      have HYES := Lib.hid (show decide (s = x) = true → decide (s ∈ l) = true from fun h => decide_eq_true ((of_decide_eq_true h) ▸ HM.out))
      have HGR := Lib.hid (show ∀ o1, Grow W1 (wr.alloc o1) from fun o1 => HG.out.allocd o1)
      cases b0
      · have HX := Lib.hid (HSTEP.out (of_decide_eq_false (by rw [HEQ.out]; rfl)))
        go_wp2
        go_roundg (l.length - (k + 1))
        case measure => omega
        case rel => exact ⟨k + 1, by omega, rfl, by go_num, HX.out, HGR.out _⟩
      · cases b1
        · have HX := Lib.hid (HSTEP.out (of_decide_eq_false (by rw [HEQ.out]; rfl)))
          go_wp2
          go_roundg (l.length - (k + 1))
          case measure => omega
          case rel => exact ⟨k + 1, by omega, rfl, by go_num, HX.out, HGR.out _⟩
        · cases b2
          · have HX := Lib.hid (HSTEP.out (of_decide_eq_false (by rw [HEQ.out]; rfl)))
            go_wp2
            go_roundg (l.length - (k + 1))
            case measure => omega
            case rel => exact ⟨k + 1, by omega, rfl, by go_num, HX.out, HGR.out _⟩
          · have HX := Lib.hid (HYES.out (by rw [HEQ.out]; rfl))
            go_wp2
            go_ret
            exact ⟨by rw [HX.out]; rfl, HG1.out.step (HGR.out _)⟩
    · have hkk : l.take k = l := List.take_of_length_le (by omega)
      have HX := Lib.hid (show decide (s ∈ l) = false from decide_eq_false (hkk ▸ HNO.out))
      clear hkk
      go_wp2
      go_ret
      exact ⟨by rw [HX.out]; rfl, HG1.out.step HG.out⟩
theorem dirtyAmongB {S : Nat → Prop} {lv : Value} {l : List PSpot} {k : Int} {t n : ByteArray} {w : World} {b : Bool} (hl : SpotsR S w lv l) (hb : decide (PSpot.mk k t n ∈ l) = b) :
    Calls Tryz.prog 88 #[.agg #[.int .i64 k, .string t, .string n], lv] w fun e w' => e = .returned (.bool b) ∧ Grow w w' := by
  subst hb
  exact dirtyAmong S lv l ⟨k, t, n⟩ w hl
end Go.Hg
