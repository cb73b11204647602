/- check.Commit; An insertion sort in place: the plain words; hedgerowref21.Broken; hedgerowref17: Node, Edge: where an Id stands; hedgerowref17: At, props; hedgerowref17: what changes of its lists leave; cut; hedgerowref17.May: the same error. Conditions: those that each theorem names. -/
import Derived.Test.YtanijffgogpmdaaGreatChkK
import Derived.Test.YtanijffgogpmdaaGreatChkH
import Derived.Test.YtanijffgogpmdaaGreatChkA
import Derived.Test.YtanijffgogpmdaaGreatChkJ
import Derived.BigRegion
import Derived.Deep.DeepCutAuto
import Derived.Test.YtanijffgogpmdaaGreatChkD
import Derived.Test.YtanijffgogpmdaaGreatChkE
import Derived.Test.YtanijffgogpmdaaGreatChkF
namespace Go.Hg
open Go.RowKit Go.Proofs

theorem firstR_filter (N : List PNode) (E : List PEdge) (l : List PRule) (p : PRule → Bool) : firstR N E (l.filter fun r => decide (r.state = 2) && p r) = firstR N E (l.filter p) := by
  have key : ∀ acc, (l.filter fun r => decide (r.state = 2) && p r).foldl (firstS N E) acc = (l.filter p).foldl (firstS N E) acc := by
    induction l with
    | nil => intro acc; rfl
    | cons r t ih =>
      intro acc
      by_cases h2 : p r = true
      · by_cases h1 : r.state = 2
        · rw [List.filter_cons_of_pos (by simp [h1, h2]), List.filter_cons_of_pos h2, List.foldl_cons, List.foldl_cons, ih]
        · rw [List.filter_cons_of_neg (by simp [h1]), List.filter_cons_of_pos h2, List.foldl_cons, ih]
          congr 1
          unfold firstS badR
          simp [h1]
      · rw [List.filter_cons_of_neg (by simp [h2]), List.filter_cons_of_neg h2, ih]
  exact key none
theorem rule1 (W : World) (r : PRule) {nb : Nat} (h : W.heap.size = nb) : SlR (fun _ => True) (W.alloc (.cells r.cells.toArray 24)) 8 RRule (.slice (some ⟨nb, 0, none⟩) 1 1) [r] := by
  subst h
  refine ⟨_, 1, [r.cells], rfl, Nat.le_refl _, by simp [maxLen], rfl, fun k x q hx hq => ?_, fun _ => ⟨W.heap.size, 0, rfl, trivial, by simp, fun k q j c hq hc => ?_⟩⟩
  · cases k with
    | zero => simp at hx hq; subst hx; subst hq; rfl
    | succ k => simp at hx
  · cases k with
    | zero =>
      simp at hq
      subst hq
      rw [blk_cell (heap_alloc_new W _)]
      simpa using hc
    | succ k => simp at hq

set_option maxRecDepth 100000 in
set_option maxHeartbeats 4000000 in
theorem checkCommit (S S2 : Nat → Prop) (gv : Value) (N : List PNode) (E : List PEdge) (nv ev rv iv nx lv : Value) (l : List PRule) (sp : List PSpot) (w : World) (hg : GAt gv N E w) (h64 : ∀ e ∈ E, (Lit.int .i64 e.from_).wf = true) (hl : SlR S w 8 RRule rv l) (hs : SpotsR S2 w lv sp) (hb : l.length ≤ 4096) (hwf : ∀ r ∈ l, (Lit.int .i64 r.id).wf = true)
    (hv : (∃ a n c, nv = .slice a n c) ∧ (∃ a n c, ev = .slice a n c) ∧ (∃ a n c, iv = .slice a n c) ∧ ∃ n, nx = .int .i64 n) :
    Calls Tryz.prog 30 #[.agg #[nv, ev, rv, iv, nx], gv, lv] w fun e w' => e = .returned (.tuple #[.int .i64 ((firstR N E (l.filter (touchR sp))).getD 0), .int .i64 (errR (firstR N E (l.filter (touchR sp))))]) ∧ Grow w w' := by
  obtain ⟨⟨an, nn, cn, rfl⟩, ⟨ae, ne, ce, rfl⟩, ⟨ai, ni, ci, rfl⟩, ⟨xn, rfl⟩⟩ := hv
  have HS := Lib.hid hs; have HBD := Lib.hid hb; have HWF := Lib.hid hwf; have HGA := Lib.hid hg; have H64 := Lib.hid h64
  obtain ⟨al, cl, rfl, hll, hlc, hL⟩ := SlR.open hl
  obtain ⟨_, _, rfl, _⟩ := SlR.open hs
  unfold maxLen at hlc
  have HL := Lib.hid hL
  have HW := Lib.hid (show ∀ o1, Grow w (w.alloc o1) from fun o1 => (Grow.rfl' w).allocd o1)
  have HFF := Lib.hid (firstR_filter N E l (touchR sp))
  clear hg h64 hs hl hb hL hwf
  go_enter Tryz.func30, Tryz.ntmps30
  go_wp2
  go_step3
  go_wp2
  go_step3
  go_wp2_with fail
  obtain ⟨W1, hW1⟩ : ∃ W1, w.alloc (.cells #[.slice an nn cn, .slice ae ne ce, .slice al l.length cl, .slice ai ni ci, .int .i64 xn] 52) = W1 := ⟨_, rfl⟩
  have HG1 := Lib.hid (show Grow w W1 from hW1 ▸ HW.out _)
  have HI0 := Lib.hid (OwnN.nil (e := 24) (sz := 8) (R := RRule) W1.heap.size W1)
  rw [hW1]
  clear hW1
  go_loopg [8, 14] l.length (fun g sv kv wr => ∃ k : Nat, k ≤ l.length ∧ g = l.length - k ∧ kv = .int .i64 k ∧ OwnN 24 8 RRule W1.heap.size wr sv ((l.take k).filter fun r => decide (r.state = 2) && touchR sp r) ∧ Grow W1 wr)
  case atStart => exact ⟨0, by omega, by omega, rfl, HI0.out, Grow.rfl' W1⟩
  case round =>
    obtain ⟨k, hk, rfl, rfl, hi, hg⟩ := hrel
    obtain ⟨oa, co, rfl, _, _⟩ := hi.isSlice
    have HI := Lib.hid hi; have HG := Lib.hid hg
    clear hi hg
    by_cases hkl : k < l.length
    · obtain ⟨ba, oa', ra, rfl, hSa, hba, hRa, hca⟩ := HL.out k l[k] (List.getElem?_eq_getElem hkl)
      have HX := Lib.hid (show ∀ w', Grow w w' → _ from fun w' g => ruleAt hRa hba g hca)
      have HT := Lib.hid (show l.take (k + 1) = l.take k ++ [l[k]] from List.take_succ_eq_append_getElem hkl)
      have HLE := Lib.hid (show ((l.take k).filter fun r => decide (r.state = 2) && touchR sp r).length ≤ l.length from Nat.le_trans (List.length_filter_le _ _) (by rw [List.length_take]; omega))
      have HRW := Lib.hid (HWF.out l[k] (List.getElem_mem hkl))
      clear hca hRa hSa hba
      generalize l[k] = r at *
      obtain ⟨hal, c0, c1, c2, c3, c4, c5, c6, c7⟩ := HX.out wr (HG1.out.step HG.out)
      obtain ⟨bt, hbt⟩ : ∃ b, (decide (r.state = 2) && touchR sp r) = b := ⟨_, rfl⟩
      have HBT := Lib.hid hbt
      generalize hfl : ((l.take k).filter fun r => decide (r.state = 2) && touchR sp r) = fl at *
      have HD := Lib.hid (show ((l.take (k + 1)).filter fun r => decide (r.state = 2) && touchR sp r) = if bt = true then fl ++ [r] else fl by
        rw [HT.out, List.filter_append, ← hfl, ← hbt]
        cases h : (decide (r.state = 2) && touchR sp r) <;> simp only [List.filter_cons, h, List.filter_nil, if_true, Bool.false_eq_true, if_false, List.append_nil])
      clear hfl hbt
      have HA1 := Lib.hid (show ∀ o1 o2, Grow wr ((wr.alloc o1).alloc o2) from fun o1 o2 => ((Grow.rfl' wr).allocd o1).allocd o2)
      have HR1 := Lib.hid (show ∀ o1, SlR (fun _ => True) ((wr.alloc o1).alloc (.cells r.cells.toArray 24)) 8 RRule (.slice (some ⟨wr.heap.size + 1, 0, none⟩) 1 1) [r] from fun o1 => rule1 (wr.alloc o1) r (by simp))
      have HRB := Lib.hid (fun w' => ruleBoxNew wr r w')
      go_wp2_with fail
      refine (dirtyConcerned (fun _ => True) S2 _ _ _ _ _ _ [r] sp _ (HR1.out _) (HS.out.grow ((HG1.out.step HG.out).step (HA1.out _ _))) (by simp) (fun q hq => by rw [List.mem_singleton] at hq; subst hq; exact HRW.out) ⟨⟨_, _, _, rfl⟩, ⟨_, _, _, rfl⟩, ⟨_, _, _, rfl⟩, ⟨_, rfl⟩⟩).mono ?_
      rintro e w4 ⟨v4, L, rfl, hL, hv4, g4⟩
      obtain ⟨_, _, rfl, _⟩ := SlR.open hv4
      have HG4 := Lib.hid ((HA1.out _ _).step g4)
      have hrb := HRB.out w4 (((Grow.rfl' _).allocd _).step g4)
      have HRBX := Lib.hid hrb
      have HLB := Lib.hid (show bt = false → L = [] from fun h => by
        rw [List.eq_nil_iff_forall_not_mem]
        intro y hy
        have h1 := (hL.2 y).1 hy
        unfold toldR at h1
        rw [List.filter_cons_of_neg (by rw [HBT.out, h]; simp)] at h1
        simp at h1)
      have HLB2 := Lib.hid (show bt = true → L ≠ [] from fun h e => by
        have h1 := (hL.2 r.id).2 (by unfold toldR; rw [List.filter_cons_of_pos (by rw [HBT.out, h])]; simp)
        rw [e] at h1
        simp at h1)
      have HI4 := Lib.hid (HI.out.grow HG4.out)
      have HGG := Lib.hid (HG.out.step HG4.out)
      clear hL hv4 g4 c0 c1 c2 c3 c4 c5 c6 c7 hal hrb
      cases bt
      · obtain rfl := HLB.out rfl
        go_wp2_with fail
        go_roundg (l.length - (k + 1))
        case measure => omega
        case rel => exact ⟨k + 1, by omega, rfl, by go_num, by rw [HD.out, if_neg (by simp)]; exact HI4.out, HGG.out⟩
      · cases L with
        | nil => exact absurd rfl (HLB2.out rfl)
        | cons y t =>
          have hne : ((((y :: t).length : Nat) : Int) == 0) = false := by rw [int_beq]; exact decide_eq_false (by simp; omega)
          have hne2 : ((y :: t).length == 0) = false := by simp
          have hlen : (y :: t).length = t.length + 1 := rfl
          obtain ⟨hrl, c1, c2, c3, c4, c5, c6, c7, c0⟩ := HRBX.out.cells
          have HE := Lib.hid (show ∀ o1, Grow W1 (w4.alloc o1) ∧ OwnN 24 8 RRule W1.heap.size (w4.alloc o1) (.slice oa fl.length co) fl from fun o1 => ⟨HGG.out.allocd o1, HI4.out.grow ((Grow.rfl' w4).allocd o1)⟩)
          have hzs := HGG.out.size
          clear hlen
          go_wp2_with (at_builtin; go_must (refine wpList_append_R rfl (.tmp 25) (.tmp 27) 49 rfl rowRule Tryz.underlying49 W1.heap.size _ fl rfl (HE.out _).2 r r.cells rfl rfl (ruleCells1 r) _ rfl (rdK _ _ _ 8 rfl (by simp)) (by simp; omega) (by have := HLE.out; have := HBD.out; unfold maxLen; omega) (by have := HLE.out; have := HBD.out; omega) ?_))
          intro v5 w5 k1 k2 k3
          have H5 := Lib.hid k1; have HG5 := Lib.hid ((HE.out _).1.since k2 (Nat.le_refl _))
          clear k1 k2 k3
          go_wp2
          go_roundg (l.length - (k + 1))
          case measure => omega
          case rel => exact ⟨k + 1, by omega, rfl, by go_num, by rw [HD.out, if_pos (by simp)]; exact H5.out, HG5.out⟩
    · have hkk : l.take k = l := List.take_of_length_le (by omega)
      rw [hkk] at HI
      simp only [hkk]
      clear hkk
      generalize hfl : (l.filter fun r => decide (r.state = 2) && touchR sp r) = fl at *
      have HFL := Lib.hid hfl
      clear hfl
      go_wp2_with fail
      refine (checkFirst gv N E fl _ wr _ (HGA.out.grow (HG1.out.step HG.out)) HI.out.toR H64.out).mono ?_
      rintro e w5 ⟨rfl, g5⟩
      have HG5 := Lib.hid ((HG1.out.step HG.out).step g5)
      clear g5
      go_wp2
      rw [Exit.noGoto_ret]
      go_ret2
      exact ⟨by rw [← HFF.out]; rfl, HG5.out⟩
end Go.Hg

namespace Go.Hg

def SrtTo (l : List Int) (i : Nat) : Prop := ∀ (a b : Nat) (x y : Int), a < b → b < i → l[a]? = some x → l[b]? = some y → x ≤ y
def SrtBut (l : List Int) (i k : Nat) : Prop := (∀ (a b : Nat) (x y : Int), a < b → b ≤ i → a ≠ k → b ≠ k → l[a]? = some x → l[b]? = some y → x ≤ y) ∧ ∀ (b : Nat) (x y : Int), k < b → b ≤ i → l[k]? = some x → l[b]? = some y → x ≤ y
theorem SrtTo.but {l : List Int} {i : Nat} (h : SrtTo l i) : SrtBut l i i :=
  ⟨fun a b x y h1 h2 h3 h4 hx hy => h a b x y h1 (by omega) hx hy, fun b x y h1 h2 => by omega⟩
def swp (l : List Int) (m : Nat) (p q : Int) : List Int := (l.set m q).set (m + 1) p
theorem swp_get {l : List Int} {m : Nat} {p q : Int} (h1 : l[m]? = some p) (h2 : l[m + 1]? = some q) (a : Nat) : (swp l m p q)[a]? = if a = m then some q else if a = m + 1 then some p else l[a]? := by
  have hm := (List.getElem?_eq_some_iff.1 h1).1
  have hm1 := (List.getElem?_eq_some_iff.1 h2).1
  unfold swp
  by_cases ha : a = m
  · subst ha
    rw [if_pos rfl, List.getElem?_set_ne (by omega), List.getElem?_set_self hm]
  · rw [if_neg ha]
    by_cases ha2 : a = m + 1
    · subst ha2
      rw [if_pos rfl, List.getElem?_set_self (by simpa using hm1)]
    · rw [if_neg ha2, List.getElem?_set_ne (by omega), List.getElem?_set_ne (by omega)]
theorem swp_len (l : List Int) (m : Nat) (p q : Int) : (swp l m p q).length = l.length := by simp [swp]
theorem swp_perm {l : List Int} {m : Nat} {p q : Int} (h1 : l[m]? = some p) (h2 : l[m + 1]? = some q) : (swp l m p q).Perm l := by
  obtain ⟨hm, e1⟩ := List.getElem?_eq_some_iff.1 h1
  obtain ⟨hm1, e2⟩ := List.getElem?_eq_some_iff.1 h2
  unfold swp
  rw [← e1, ← e2]
  exact List.set_set_perm hm hm1
theorem SrtBut.step {l : List Int} {i m : Nat} {p q : Int} (h : SrtBut l i (m + 1)) (h1 : l[m]? = some p) (h2 : l[m + 1]? = some q) (hpq : q < p) (hm : m + 1 ≤ i) : SrtBut (swp l m p q) i m := by
  refine ⟨fun a b x y hab hbi ha hb hx hy => ?_, fun b x y hb hbi hx hy => ?_⟩
  · rw [swp_get h1 h2] at hx hy
    rw [if_neg ha] at hx
    rw [if_neg hb] at hy
    by_cases ha1 : a = m + 1
    · rw [if_pos ha1] at hx
      cases hx
      rw [if_neg (by omega)] at hy
      exact h.1 m b _ _ (by omega) hbi (by omega) (by omega) h1 hy
    · rw [if_neg ha1] at hx
      by_cases hb1 : b = m + 1
      · rw [if_pos hb1] at hy
        cases hy
        exact h.1 a m _ _ (by omega) (by omega) (by omega) (by omega) hx h1
      · rw [if_neg hb1] at hy
        exact h.1 a b _ _ hab hbi ha1 hb1 hx hy
  · rw [swp_get h1 h2] at hx hy
    rw [if_pos rfl] at hx
    cases hx
    rw [if_neg (by omega)] at hy
    by_cases hb1 : b = m + 1
    · rw [if_pos hb1] at hy
      cases hy
      omega
    · rw [if_neg hb1] at hy
      exact h.2 b _ _ (by omega) hbi h2 hy
theorem SrtBut.stop {l : List Int} {i k : Nat} (h : SrtBut l i k) (hk : ∀ m p q, k = m + 1 → l[m]? = some p → l[k]? = some q → p ≤ q) (hl : i < l.length) : SrtTo l (i + 1) := by
  intro a b x y hab hbi hx hy
  by_cases ha : a = k
  · subst ha
    exact h.2 b x y hab (by omega) hx hy
  · by_cases hb : b = k
    · subst hb
      obtain ⟨m, rfl⟩ : ∃ m, b = m + 1 := ⟨b - 1, by omega⟩
      by_cases ham : a = m
      · subst ham
        exact hk a x y rfl hx hy
      · have hm : m < l.length := by omega
        have h3 := h.1 a m x l[m] (by omega) (by omega) ha (by omega) hx (List.getElem?_eq_getElem hm)
        have h4 := hk m l[m] y rfl (List.getElem?_eq_getElem hm) hy
        omega
    · exact h.1 a b x y hab (by omega) ha hb hx hy
theorem SrtTo.pw {l : List Int} (h : SrtTo l l.length) : l.Pairwise (· ≤ ·) := by
  rw [List.pairwise_iff_getElem]
  intro a b ha hb hab
  exact h a b _ _ hab hb (List.getElem?_eq_getElem ha) (List.getElem?_eq_getElem hb)
theorem SrtTo.one (l : List Int) : SrtTo l 1 := fun a b _ _ h1 h2 => by omega
theorem le_lt {l : List Int} (h : l.Pairwise (· ≤ ·)) (hn : l.Nodup) : l.Pairwise (· < ·) := (h.and hn).imp fun {a b} ⟨h1, h2⟩ => by omega
end Go.Hg

namespace Go.Hg
open Go.RowKit Go.Proofs

theorem RBrk.sorted {N : List PNode} {E : List PEdge} {r : PRule} {L L' : List Int} (h : RBrk N E r L) (hN : (N.map (·.id)).Pairwise (· < ·)) (hE : (E.map (·.id)).Pairwise (· < ·)) (hp : L'.Perm L) (hs : L'.Pairwise (· ≤ ·)) : BrokenR N E r L' := by
  refine ⟨fun hf => ?_, fun hf => ?_⟩
  · rw [h.1 hf] at hp
    exact hp.eq_nil
  · by_cases hk : r.kind = 4
    · have h1 := h.2 hf
      rw [if_pos hk] at h1
      unfold BrkR
      rw [if_neg (by omega), if_neg (by omega), if_neg (by omega)]
      exact ⟨le_lt hs (hp.nodup_iff.2 h1.1), fun y => (hp.mem_iff).trans (h1.2 y)⟩
    · have h2 : BrokenR N E r L := ⟨h.1, fun hf => by have := h.2 hf; rwa [if_neg hk] at this⟩
      have h3 := h2.nodup hN hE
      have h4 : RSet L' (· ∈ L) := ⟨le_lt hs (hp.nodup_iff.2 (rises_nodup h3)), fun y => hp.mem_iff⟩
      have h5 : L' = L := h4.uniq (⟨h3, fun y => Iff.rfl⟩ : RSet L (· ∈ L)) fun _ => Iff.rfl
      rw [h5]
      exact h2.2 hf
/-- a row of numbers of one's own with its block -/
theorem IdsO.blk {w : World} {a : Option Addr} {cap : Nat} {l : List Int} {ob : Option Nat} (h : IdsO w (.slice a l.length cap) l ob) (h0 : 0 < l.length) : ∃ g, a = some ⟨g, 0, none⟩ ∧ ob = some g ∧ g < w.heap.size ∧ (∀ (j : Nat) y, l[j]? = some y → w.cell? ⟨g, j, none⟩ = some (.int .i64 y)) ∧ ∀ j, w.frozen? ⟨g, j, none⟩ = false := by
  obtain ⟨g, cap', hv, h1, h2, h3, h4⟩ := OwnS.cell h h0
  simp only [Value.slice.injEq] at hv
  exact ⟨g, hv.1, h1, h2, fun j y hj => h3 j _ (by rw [List.getElem?_map, hj]; rfl), h4⟩
theorem IdsO.swap {w : World} {v : Value} {l : List Int} {g : Nat} (h : IdsO w v l (some g)) (m : Nat) (p q : Int) : IdsO ((w.setCell ⟨g, m, none⟩ (.int .i64 q)).setCell ⟨g, m + 1, none⟩ (.int .i64 p)) v (swp l m p q) (some g) := by
  have h1 := OwnS.stored (OwnS.stored h rfl m (.int .i64 q)) rfl (m + 1) (.int .i64 p)
  unfold IdsO
  rw [swp_len]
  unfold swp
  rw [List.map_set, List.map_set]
  exact h1
theorem IdsO.swap' {w : World} {v : Value} {l : List Int} {g : Nat} (h : IdsO w v l (some g)) (m : Nat) (p q : Int) : IdsO ((w.setCell ⟨g, m + 1, none⟩ (.int .i64 p)).setCell ⟨g, m, none⟩ (.int .i64 q)) v (swp l m p q) (some g) := by
  have h1 := OwnS.stored (OwnS.stored h rfl (m + 1) (.int .i64 p)) rfl m (.int .i64 q)
  unfold IdsO
  rw [swp_len]
  unfold swp
  rw [List.map_set, List.map_set, List.set_comm _ _ (by omega)]
  exact h1

set_option maxRecDepth 100000 in
set_option maxHeartbeats 8000000 in
theorem ref21Broken (S : Nat → Prop) (B : Nat) (G : PGraph) (r : PRule) (w : World) (hg : GraphOk 55 S w B G) (hi : GInv G) :
    Calls Tryz.prog 17 #[.pointer (some ⟨B, 0, none⟩), r.args] w (BrokPost G.nodes G.edges r w) := by
  obtain ⟨na, nc, ea, ec, hB, g0, g1, g2, hn, he⟩ := hg.read
  have HN := Lib.hid hn; have HE := Lib.hid he
  have HB1 := Lib.hid (show G.nodes.length ≤ 1099511627776 by have := hi.items; omega)
  have HB2 := Lib.hid (show G.edges.length ≤ 1099511627776 by have := hi.items; omega)
  have HS1 := Lib.hid hi.nodes; have HS2 := Lib.hid hi.edges
  have HGC := Lib.hid (show ∀ w', Grow w w' → w'.cell? ⟨B, 0, none⟩ = some (.slice na G.nodes.length nc) ∧ w'.cell? ⟨B, 1, none⟩ = some (.slice ea G.edges.length ec) from fun w' g => ⟨(g.cell (p := ⟨B, 0, none⟩) hB).trans g0, (g.cell (p := ⟨B, 1, none⟩) hB).trans g1⟩)
  have HW := Lib.hid (show ∀ o1, Grow w (w.alloc o1) from fun o1 => (Grow.rfl' w).allocd o1)
  have HRN := Lib.hid (fun w' => ruleBoxNew w r w')
  clear hg hi hn he g0 g1 g2
  go_enter Tryz.func17, Tryz.ntmps17
  go_wp2_with fail
  obtain ⟨W1, hW1⟩ : ∃ W1, w.alloc (.cells #[.int .i64 r.id, .int .i64 r.kind, .string r.typ, .string r.name, .string r.from_, .string r.to_, .int .i64 r.n, .int .i64 r.state] 24) = W1 := ⟨_, rfl⟩
  have HG1 := Lib.hid (show Grow w W1 from hW1 ▸ HW.out _)
  have HBX := Lib.hid (show ∀ w', Grow W1 w' → RuleBox w' w.heap.size r from fun w' g => HRN.out w' (hW1 ▸ g))
  rw [hW1]
  clear hW1
  have HS := Lib.hid (show ∀ w', Grow W1 w' → (w'.cell? ⟨B, 0, none⟩ = some (.slice na G.nodes.length nc) ∧ w'.cell? ⟨B, 1, none⟩ = some (.slice ea G.edges.length ec) ∧ w'.cell? ⟨w.heap.size, 0, none⟩ = some (.int .i64 r.id) ∧ w'.cell? ⟨w.heap.size, 1, none⟩ = some (.int .i64 r.kind) ∧ w'.cell? ⟨w.heap.size, 2, none⟩ = some (.string r.typ) ∧ w'.cell? ⟨w.heap.size, 3, none⟩ = some (.string r.name) ∧ w'.cell? ⟨w.heap.size, 4, none⟩ = some (.string r.from_) ∧ w'.cell? ⟨w.heap.size, 5, none⟩ = some (.string r.to_) ∧ w'.cell? ⟨w.heap.size, 6, none⟩ = some (.int .i64 r.n) ∧ w'.cell? ⟨w.heap.size, 7, none⟩ = some (.int .i64 r.state)) from fun w' g => by
    obtain ⟨_, c1, c2, c3, c4, c5, c6, c7, c0⟩ := (HBX.out w' g).cells
    exact ⟨(HGC.out w' (HG1.out.step g)).1, (HGC.out w' (HG1.out.step g)).2, c0, c1, c2, c3, c4, c5, c6, c7⟩)
  have HD1 := Lib.hid (show Grow W1 W1.drew from (Grow.rfl' W1).drewd)
  go_region_held3 (fun w' => w'.cell? ⟨B, 0, none⟩ = some (.slice na G.nodes.length nc) ∧ w'.cell? ⟨B, 1, none⟩ = some (.slice ea G.edges.length ec) ∧ w'.cell? ⟨w.heap.size, 0, none⟩ = some (.int .i64 r.id) ∧ w'.cell? ⟨w.heap.size, 1, none⟩ = some (.int .i64 r.kind) ∧ w'.cell? ⟨w.heap.size, 2, none⟩ = some (.string r.typ) ∧ w'.cell? ⟨w.heap.size, 3, none⟩ = some (.string r.name) ∧ w'.cell? ⟨w.heap.size, 4, none⟩ = some (.string r.from_) ∧ w'.cell? ⟨w.heap.size, 5, none⟩ = some (.string r.to_) ∧ w'.cell? ⟨w.heap.size, 6, none⟩ = some (.int .i64 r.n) ∧ w'.cell? ⟨w.heap.size, 7, none⟩ = some (.int .i64 r.state)) (first | exact HS.out _ HD1.out | exact HS.out _ HG3.out) (first | (go_at_call 58; refine (refBroken S _ _ G.nodes G.edges r _ (HN.out.grow (HG1.out.step HD1.out)) (HE.out.grow (HG1.out.step HD1.out)) HB1.out HB2.out).mono ?_; rintro e w3 ⟨v3, L, rfl, hL, hv3, hg3⟩; have HL := Lib.hid hL; have HV3 := Lib.hid (hv3.base HD1.out.size); have HG3 := Lib.hid (HD1.out.step hg3); clear hL hv3 hg3))
  obtain ⟨ob, hob, hob2⟩ := HV3.out
  obtain ⟨oa, co, rfl, hlo, hco⟩ := OwnS.isSlice hob
  unfold maxLen at hco
  have HOB := Lib.hid hob; have HOB2 := Lib.hid hob2
  have hG3 := Lib.hid (HG1.out.step HG3.out)
  clear hob hob2 HV3 HS HBX HD1
  obtain ⟨n, hn⟩ : ∃ n, L.length = n := ⟨_, rfl⟩
  have HLN := Lib.hid hn
  rw [hn] at HOB hlo ⊢
  clear hn
  go_wp2
  go_loopg [6, 7] (n - 1) (fun g iv kv wr => ∃ (i : Nat) (l : List Int), 1 ≤ i ∧ (i ≤ n ∨ i = 1) ∧ g = n - i ∧ iv = .int .i64 i ∧ l.length = n ∧ l.Perm L ∧ SrtTo l i ∧ IdsO wr (.slice oa n co) l ob ∧ Mod (fun q => ob = some q) w3 wr)
  case atStart => exact ⟨1, L, by omega, .inr rfl, rfl, rfl, HLN.out, List.Perm.refl _, SrtTo.one L, HOB.out, Mod.rfl' _ w3⟩
  case round =>
    obtain ⟨i, l, hi1, hi2, rfl, rfl, hln, hp, hs, ho, hm⟩ := hrel
    have HLL := Lib.hid hln; have HP := Lib.hid hp; have HST := Lib.hid hs; have HO := Lib.hid ho; have HM := Lib.hid hm
    clear hln hp hs ho hm
    by_cases hil : i < n
    · obtain ⟨wo, rfl⟩ : ∃ wo, wo = wr := ⟨_, rfl⟩
      have HBT := Lib.hid HST.out.but
      go_wp2
      go_loopg [7] i (fun g kv wr => ∃ (k : Nat) (l : List Int), k ≤ i ∧ k = g ∧ kv = .int .i64 k ∧ l.length = n ∧ l.Perm L ∧ SrtBut l i k ∧ IdsO wr (.slice oa n co) l ob ∧ Mod (fun q => ob = some q) w3 wr)
      case atStart => exact ⟨i, l, Nat.le_refl _, rfl, rfl, HLL.out, HP.out, HBT.out, HO.out, HM.out⟩
      case round =>
        clear HLL HP HST HO HM HBT
        obtain ⟨k, l, hk, rfl, rfl, hln, hp, hs, ho, hm⟩ := hrel
        have HLL := Lib.hid hln; have HP := Lib.hid hp; have HST := Lib.hid hs; have HO := Lib.hid ho; have HM := Lib.hid hm
        obtain ⟨g, rfl, rfl, hgl, hcell, hfz⟩ := IdsO.blk (hln.symm ▸ ho) (by omega)
        have HC := Lib.hid hcell; have HZ := Lib.hid hfz
        clear hp hs ho hm hcell hfz
        by_cases hk0 : k = 0
        · subst hk0
          have HEND := Lib.hid (HST.out.stop (fun m p q h => by omega) (by omega))
          clear hln
          go_wp2_with fail
          refine wp_region_grow (by kernel_rfl) (by kernel_rfl) ?_
          repeat (go_big_quiet_step (fail))
          refine wpQuiet_nil ?_
          intro w4 hw4
          have HO4 := Lib.hid (OwnS.grow HO.out hw4); have HM4 := Lib.hid (HM.out.step (Mod.of_grow hw4))
          go_wp2_with fail
          go_roundg (n - (i + 1))
          case measure => omega
          case rel => exact ⟨i + 1, l, by omega, .inl (by omega), rfl, by go_num, HLL.out, HP.out, HEND.out, HO4.out, HM4.out⟩
        · obtain ⟨m, rfl⟩ : ∃ m, k = m + 1 := ⟨k - 1, by omega⟩
          obtain ⟨p, e1⟩ : ∃ p, l[m]? = some p := ⟨_, List.getElem?_eq_getElem (by omega)⟩
          obtain ⟨q, e2⟩ : ∃ q, l[m + 1]? = some q := ⟨_, List.getElem?_eq_getElem (by omega)⟩
          have c1 := HC.out m _ e1
          have c2 := HC.out (m + 1) _ e2
          have HE1 := Lib.hid e1; have HE2 := Lib.hid e2
          have HIL := Lib.hid (show i < l.length by omega)
          clear e1 e2 hln hk0
          obtain ⟨b, hb⟩ : ∃ b, decide (q < p) = b := ⟨_, rfl⟩
          have HB := Lib.hid hb
          cases b
          · have HEND := Lib.hid (HST.out.stop (fun m' p' q' h h1 h2 => by
              obtain rfl : m = m' := by omega
              rw [HE1.out] at h1; rw [HE2.out] at h2
              cases h1; cases h2
              have := of_decide_eq_false HB.out
              omega) HIL.out)
            go_wp2_with fail
            refine wp_region_grow (by kernel_rfl) (by kernel_rfl) ?_
            repeat (go_big_quiet_step (fail))
            refine wpQuiet_nil ?_
            intro w4 hw4
            have HO4 := Lib.hid (OwnS.grow HO.out hw4); have HM4 := Lib.hid (HM.out.step (Mod.of_grow hw4))
            go_wp2_with fail
            go_roundg (n - (i + 1))
            case measure => omega
            case rel => exact ⟨i + 1, l, by omega, .inl (by omega), rfl, by go_num, HLL.out, HP.out, HEND.out, HO4.out, HM4.out⟩
          · have HSTEP := Lib.hid (HST.out.step HE1.out HE2.out (of_decide_eq_true HB.out) hk)
            have HPM := Lib.hid ((swp_perm HE1.out HE2.out).trans HP.out)
            go_wp2_with fail
            refine wp_region_grow (by kernel_rfl) (by kernel_rfl) ?_
            repeat (go_big_quiet_step (fail))
            refine wpQuiet_nil ?_
            intro w4 hw4
            have HO4 := Lib.hid (OwnS.grow HO.out hw4); have HM4 := Lib.hid (HM.out.step (Mod.of_grow hw4))
            have d1 : w4.cell? ⟨g, m, none⟩ = some (.int .i64 p) := (hw4.cell (p := ⟨g, m, none⟩) hgl).trans c1
            have d2 : w4.cell? ⟨g, m + 1, none⟩ = some (.int .i64 q) := (hw4.cell (p := ⟨g, m + 1, none⟩) hgl).trans c2
            have z1 : w4.frozen? ⟨g, m, none⟩ = false := (hw4.frozen (p := ⟨g, m, none⟩) hgl).trans (HZ.out m)
            have z2 : w4.frozen? ⟨g, m + 1, none⟩ = false := (hw4.frozen (p := ⟨g, m + 1, none⟩) hgl).trans (HZ.out (m + 1))
            have hgl4 := Nat.lt_of_lt_of_le hgl hw4.size
            clear c1 c2 hgl hw4 hb
            have HSW := Lib.hid (show IdsO ((w4.setCell ⟨g, m, none⟩ (.int .i64 q)).setCell ⟨g, m + 1, none⟩ (.int .i64 p)).drew (.slice (some ⟨g, 0, none⟩) n co) (swp l m p q) (some g) from OwnS.grow (IdsO.swap HO4.out m p q) ((Grow.rfl' _).drewd))
            have HMS := Lib.hid (show Mod (fun q => some g = some q) w3 ((w4.setCell ⟨g, m, none⟩ (.int .i64 q)).setCell ⟨g, m + 1, none⟩ (.int .i64 p)).drew from (((HM4.out).setd (p := ⟨g, m, none⟩) (.inl rfl) _).setd (p := ⟨g, m + 1, none⟩) (.inl rfl) _).drewd)
            have HLW := Lib.hid (show (swp l m p q).length = n by rw [swp_len, HLL.out])
            go_upto_region 8 with fail
            go_region
            go_wp2_with fail
            go_roundg m
            case measure => omega
            case rel => exact ⟨m, swp l m p q, by omega, rfl, by go_num, HLW.out, HPM.out, HSTEP.out, HSW.out, HMS.out⟩
    · have HPW := Lib.hid (show l.Pairwise (· ≤ ·) from by
        by_cases h : n ≤ 1
        · have h1 := HLL.out
          match l, h1 with
          | [], _ => exact .nil
          | [a], _ => exact List.pairwise_singleton _ _
          | a :: b :: t, h1 => simp at h1; omega
        · have h2 : i = l.length := by have := HLL.out; omega
          exact SrtTo.pw (h2 ▸ HST.out))
      have HFIN := Lib.hid (HL.out.sorted HS1.out HS2.out HP.out HPW.out)
      have HIW := Lib.hid (show IdsR (fun b => w.heap.size ≤ b) wr (.slice oa n co) l from IdsO.toR HO.out (fun q hq => Nat.le_trans HG1.out.size (HOB2.out q hq)))
      have HGW := Lib.hid (show Grow w wr from hG3.out.modd HM.out (fun q hq => Nat.le_trans HG1.out.size (HOB2.out q hq)))
      go_wp2
      go_ret
      exact ⟨_, l, rfl, HFIN.out, HIW.out, HGW.out⟩
end Go.Hg

namespace Go.Hg
open Go.RowKit Go.Proofs

/-- where something stands in a list, or -1 -/
def IdxAt {α : Type} (f : α → Int) (l : List α) (id r : Int) : Prop := (r = -1 ∧ (l.any fun y => decide (f y = id)) = false) ∨ ∃ (k : Nat) (x : α), r = k ∧ l[k]? = some x ∧ f x = id ∧ (l.any fun y => decide (f y = id)) = true
theorem IdxAt.neg {α : Type} {f : α → Int} {l : List α} {id r : Int} (h : IdxAt f l id r) : decide (r < 0) = !(l.any fun y => decide (f y = id)) := by
  rcases h with ⟨rfl, h⟩ | ⟨k, x, rfl, _, _, h⟩
  · rw [h]; rfl
  · rw [h]; simp
theorem IdxAt.pos {α : Type} {f : α → Int} {l : List α} {id r : Int} (h : IdxAt f l id r) : decide (0 ≤ r) = (l.any fun y => decide (f y = id)) := by
  rcases h with ⟨rfl, h⟩ | ⟨k, x, rfl, _, _, h⟩
  · rw [h]; rfl
  · rw [h]; simp
/-- the first place of an Id, or -1 -/
def idxZ {α : Type} (f : α → Int) (l : List α) (id : Int) : Int := match l.findIdx? fun y => decide (f y = id) with | some k => (k : Int) | none => -1
theorem idxZ_at {α : Type} (f : α → Int) (l : List α) (id : Int) : IdxAt f l id (idxZ f l id) := by
  unfold idxZ
  cases h : l.findIdx? fun y => decide (f y = id) with
  | none =>
    rw [List.findIdx?_eq_none_iff] at h
    exact .inl ⟨rfl, List.any_eq_false.2 (fun y hy => by have := h y hy; simpa using this)⟩
  | some k =>
    obtain ⟨hl, he, -⟩ := List.findIdx?_eq_some_iff_getElem.1 h
    exact .inr ⟨k, l[k], rfl, List.getElem?_eq_getElem hl, by simpa using he, List.any_eq_true.2 ⟨l[k], List.getElem_mem hl, he⟩⟩
theorem idxZ_hit {α : Type} {f : α → Int} {l : List α} {id : Int} {k : Nat} {x : α} (hx : l[k]? = some x) (hid : f x = id) (hall : ∀ y ∈ l.take k, f y ≠ id) : idxZ f l id = k := by
  obtain ⟨hl, rfl⟩ := List.getElem?_eq_some_iff.1 hx
  have h : (l.findIdx? fun y => decide (f y = id)) = some k := List.findIdx?_eq_some_iff_getElem.2 ⟨hl, by simpa using hid, fun j hj => by
    have := hall l[j] (List.mem_take_iff_getElem.2 ⟨j, by omega, rfl⟩)
    simpa using this⟩
  unfold idxZ
  rw [h]
theorem idxZ_miss {α : Type} {f : α → Int} {l : List α} {id : Int} (hall : ∀ y ∈ l, f y ≠ id) : idxZ f l id = -1 := by
  have h : (l.findIdx? fun y => decide (f y = id)) = none := List.findIdx?_eq_none_iff.2 fun y hy => by have := hall y hy; simpa using this
  unfold idxZ
  rw [h]

set_option maxRecDepth 100000 in
set_option maxHeartbeats 1000000 in
theorem refNode (S : Nat → Prop) (B : Nat) (G : PGraph) (id : Int) (w : World) (h : GraphRd 55 S w B G) :
    Calls Tryz.prog 98 #[.pointer (some ⟨B, 0, none⟩), .int .i64 id] w fun e w' => e = .returned (.int .i64 (idxZ (fun x : PNode => x.id) G.nodes id)) ∧ w' = w := by
  obtain ⟨na, nc, ea, ec, hB, g0, g1, g2, hn, -⟩ := h.read
  obtain ⟨_, _, hv, hal, hac, hA⟩ := SlR.open hn
  simp only [Value.slice.injEq, true_and] at hv
  obtain ⟨rfl, rfl⟩ := hv
  unfold maxLen at hac
  have HA := Lib.hid hA
  clear h hn hA
  generalize hll : G.nodes = l at *
  have HLL := Lib.hid hll
  clear hll
  go_enter Tryz.func98, Tryz.ntmps98
  go_wp2
  go_loopg [5] l.length (fun g i wr => ∃ k : Nat, k ≤ l.length ∧ g = l.length - k ∧ i = .int .i64 k ∧ (∀ y ∈ l.take k, y.id ≠ id) ∧ wr = w)
  case atStart => exact ⟨0, by omega, by omega, rfl, by simp, rfl⟩
  case round =>
    obtain ⟨k, hk, rfl, rfl, hall, rfl⟩ := hrel
    have HALL := Lib.hid hall; clear hall
    by_cases hkl : k < l.length
    · obtain ⟨ba, oa, ra, rfl, hSa, hba, hRa, hca⟩ := HA.out k l[k] (List.getElem?_eq_getElem hkl)
      obtain ⟨pva, hba', a0, a1, a2, hpa⟩ := hRa.at hba (Grow.rfl' _) hca
      clear hca hRa hSa hba hpa
      have HE := Lib.hid (show l[k]? = some l[k] from List.getElem?_eq_getElem hkl)
      have HT := Lib.hid (show l.take (k + 1) = l.take k ++ [l[k]] from List.take_succ_eq_append_getElem hkl)
      generalize l[k] = x at *
      by_cases hx : x.id = id
      · have hx' : (x.id == id) = true := by simpa using hx
        have HX := Lib.hid hx
        clear hx
        go_wp2
        go_ret
        exact ⟨by rw [idxZ_hit HE.out HX.out HALL.out]; rfl, rfl⟩
      · have hx' : (x.id == id) = false := by simpa using hx
        have HX := Lib.hid hx
        clear hx
        go_wp2_with fail
        go_roundg (l.length - (k + 1))
        case measure => omega
        case rel => exact ⟨k + 1, by omega, rfl, by go_num, by rw [HT.out]; intro y hy; rcases List.mem_append.1 hy with h | h; exact HALL.out y h; simp at h; subst h; exact HX.out, rfl⟩
    · have h1 : l.take k = l := List.take_of_length_le (by omega)
      have h2 := HALL.out
      rw [h1] at h2
      have H2 := Lib.hid h2
      clear h1 h2
      go_wp2
      go_ret
      exact ⟨by rw [idxZ_miss H2.out]; rfl, rfl⟩

set_option maxRecDepth 100000 in
set_option maxHeartbeats 1000000 in
theorem refEdge (S : Nat → Prop) (B : Nat) (G : PGraph) (id : Int) (w : World) (h : GraphRd 55 S w B G) :
    Calls Tryz.prog 100 #[.pointer (some ⟨B, 0, none⟩), .int .i64 id] w fun e w' => e = .returned (.int .i64 (idxZ (fun x : PEdge => x.id) G.edges id)) ∧ w' = w := by
  obtain ⟨na, nc, ea, ec, hB, g0, g1, g2, -, hn⟩ := h.read
  obtain ⟨_, _, hv, hal, hac, hA⟩ := SlR.open hn
  simp only [Value.slice.injEq, true_and] at hv
  obtain ⟨rfl, rfl⟩ := hv
  unfold maxLen at hac
  have HA := Lib.hid hA
  clear h hn hA
  generalize hll : G.edges = l at *
  have HLL := Lib.hid hll
  clear hll
  go_enter Tryz.func100, Tryz.ntmps100
  go_wp2
  go_loopg [5] l.length (fun g i wr => ∃ k : Nat, k ≤ l.length ∧ g = l.length - k ∧ i = .int .i64 k ∧ (∀ y ∈ l.take k, y.id ≠ id) ∧ wr = w)
  case atStart => exact ⟨0, by omega, by omega, rfl, by simp, rfl⟩
  case round =>
    obtain ⟨k, hk, rfl, rfl, hall, rfl⟩ := hrel
    have HALL := Lib.hid hall; clear hall
    by_cases hkl : k < l.length
    · obtain ⟨ba, oa, ra, rfl, hSa, hba, hRa, hca⟩ := HA.out k l[k] (List.getElem?_eq_getElem hkl)
      obtain ⟨pva, hba', a0, a1, a2, a3, a4, hpa⟩ := hRa.at hba (Grow.rfl' _) hca
      clear hca hRa hSa hba hpa
      have HE := Lib.hid (show l[k]? = some l[k] from List.getElem?_eq_getElem hkl)
      have HT := Lib.hid (show l.take (k + 1) = l.take k ++ [l[k]] from List.take_succ_eq_append_getElem hkl)
      generalize l[k] = x at *
      by_cases hx : x.id = id
      · have hx' : (x.id == id) = true := by simpa using hx
        have HX := Lib.hid hx
        clear hx
        go_wp2
        go_ret
        exact ⟨by rw [idxZ_hit HE.out HX.out HALL.out]; rfl, rfl⟩
      · have hx' : (x.id == id) = false := by simpa using hx
        have HX := Lib.hid hx
        clear hx
        go_wp2_with fail
        go_roundg (l.length - (k + 1))
        case measure => omega
        case rel => exact ⟨k + 1, by omega, rfl, by go_num, by rw [HT.out]; intro y hy; rcases List.mem_append.1 hy with h | h; exact HALL.out y h; simp at h; subst h; exact HX.out, rfl⟩
    · have h1 : l.take k = l := List.take_of_length_le (by omega)
      have h2 := HALL.out
      rw [h1] at h2
      have H2 := Lib.hid h2
      clear h1 h2
      go_wp2
      go_ret
      exact ⟨by rw [idxZ_miss H2.out]; rfl, rfl⟩
end Go.Hg

namespace Go.Hg
open Go.RowKit Go.Proofs

def atG (G : PGraph) (id : Int) : List Int := (G.edges.filter fun x => atE x id).map (·.id)
set_option maxRecDepth 100000 in
set_option maxHeartbeats 2000000 in
theorem refAt (S : Nat → Prop) (B : Nat) (G : PGraph) (id : Int) (w : World) (h : GraphRd 55 S w B G) (hb : G.edges.length ≤ 1099511627776) :
    Calls Tryz.prog 96 #[.pointer (some ⟨B, 0, none⟩), .int .i64 id] w (IdsPost (atG G id) w) := by
  obtain ⟨na, nc, ea, ec, hB, c0, c1, c2, -, hn⟩ := h.read
  obtain ⟨iP, hiP, hzP0, hzP1, hzP2⟩ := info_parts infoInt
  obtain ⟨_, _, hv, hal, hac, hA⟩ := SlR.open hn
  simp only [Value.slice.injEq, true_and] at hv
  obtain ⟨rfl, rfl⟩ := hv
  unfold maxLen at hac
  have HS := Lib.hid (show ∀ w', Grow w w' → B < w'.heap.size ∧ w'.cell? ⟨B, 1, none⟩ = some (.slice ea G.edges.length ec) from fun w' hg => ⟨Nat.lt_of_lt_of_le hB hg.size, (hg.cell (p := ⟨B, 1, none⟩) hB).trans c1⟩)
  have HA := Lib.hid hA; have HB := Lib.hid hb
  clear h hn hA hb c0 c2
  unfold atG
  generalize G.edges = l at *
  go_enter Tryz.func96, Tryz.ntmps96
  go_wp2
  go_loopg [5, 6] l.length (fun g vo i wr => ∃ (k : Nat) (ob : Option Nat), k ≤ l.length ∧ g = l.length - k ∧ i = .int .i64 k ∧ IdsO wr vo (((l.take k).filter fun x => atE x id).map (·.id)) ob ∧ (∀ b, ob = some b → w.heap.size ≤ b) ∧ Grow w wr)
  case atStart => exact ⟨0, none, by omega, by omega, rfl, OwnS.nil _ _ _, by simp, Grow.rfl' w⟩
  case round =>
    obtain ⟨k, ob, hk, rfl, rfl, hown, hob, hgr⟩ := hrel
    have HOWN := Lib.hid hown; have HOB := Lib.hid hob; have HGR := Lib.hid hgr
    obtain ⟨oo, co, rfl, -, -⟩ := hown.isSlice
    obtain ⟨hBr, c1r⟩ := HS.out _ HGR.out
    clear c1
    by_cases hkl : k < l.length
    · obtain ⟨ba, oa, ra, rfl, hSa, hba, hRa, hca⟩ := HA.out k l[k] (List.getElem?_eq_getElem hkl)
      obtain ⟨pva, hba', a0, a1, a2, a3, a4, hpa⟩ := hRa.at hba hgr hca
      clear hca hRa hSa hba hgr hown hob hpa
      have HT := Lib.hid (show l.take (k + 1) = l.take k ++ [l[k]] from List.take_succ_eq_append_getElem hkl)
      have HFL := Lib.hid (show ((l.take k).filter fun x => atE x id).length ≤ l.length from Nat.le_trans (List.length_filter_le _ _) (List.length_take_le' k l))
      generalize l[k] = p at *
      generalize hfl : ((l.take k).filter fun x => atE x id).map (·.id) = fl at *
      have hfll : ((l.take k).filter fun x => atE x id).length = fl.length := by rw [← hfl, List.length_map]
      rw [hfll] at HFL
      have HFF := Lib.hid hfl
      clear hfl hfll
      by_cases hp1 : p.from_ = id
      · have hq1 : (p.from_ == id) = true := by simpa using hp1
        have HATE := Lib.hid (show atE p id = true by unfold atE; simp [hp1])
        clear hp1
        have HW := Lib.hid (show ∀ o1, Grow wr (wr.alloc o1) from fun o1 => (Grow.rfl' wr).allocd o1)
        have hf1 : Hid (((l.take (k + 1)).filter fun x => atE x id).map (·.id) = fl ++ [p.id]) := Lib.hid (by rw [HT.out, List.filter_append, ← HFF.out]; simp [HATE.out])
        have HRD := Lib.hid (Rd.lit wr #[.int .i64 p.id] 2 1 1 rfl)
        go_wp2_with (at_builtin; go_must (refine wpList_append_S _ rfl (.tmp 38) (.tmp 47) 32 rfl 2 iP _ 1 8 Tryz.underlying32 hiP hzP0 hzP1 hzP2 rfl (by decide) (.slice oo fl.length co) fl.length _ ob rfl (HOWN.out.grow (HW.out _)) (.slice (some ⟨wr.heap.size, 0, none⟩) 1 1) rfl 1 _ HRD.out (one1 _ rfl) (by have := HB.out; have := HFL.out; unfold maxLen; omega) (by have := HB.out; have := HFL.out; omega) ?_))
        intro v' w5 ob' h1 h2 h3
        have hown5 : IdsO w5 v' (((l.take (k + 1)).filter fun x => atE x id).map (·.id)) ob' := by
          rw [hf1.out]
          unfold IdsO
          rw [List.length_append, List.map_append]
          exact h1
        have hsz := HGR.out.size
        have hob5 : ∀ b, ob' = some b → w.heap.size ≤ b := by
          intro b hb
          rcases h3 with h3 | ⟨g, h3, hge⟩
          · exact HOB.out b (by rw [← h3]; exact hb)
          · rw [h3] at hb; cases hb; first | omega | (simp at hge; omega)
        have hg5 : Grow w w5 := (HGR.out.step (HW.out _)).modd h2 (fun b hb => HOB.out b hb)
        have H5 := Lib.hid hown5; have HO5 := Lib.hid hob5; have HG5 := Lib.hid hg5
        clear h1 h2 h3 hown5 hob5 hg5 hsz
        go_wp2_with fail
        go_roundg (l.length - (k + 1))
        case measure => omega
        case rel => exact ⟨k + 1, ob', by omega, rfl, by go_num, H5.out, HO5.out, HG5.out⟩
      · have hq1 : (p.from_ == id) = false := by simpa using hp1
        by_cases hp2 : p.to_ = id
        · have hq2 : (p.to_ == id) = true := by simpa using hp2
          have HATE := Lib.hid (show atE p id = true by unfold atE; simp [hp2])
          clear hp1 hp2
          have HW := Lib.hid (show ∀ o1, Grow wr (wr.alloc o1) from fun o1 => (Grow.rfl' wr).allocd o1)
          have hf1 : Hid (((l.take (k + 1)).filter fun x => atE x id).map (·.id) = fl ++ [p.id]) := Lib.hid (by rw [HT.out, List.filter_append, ← HFF.out]; simp [HATE.out])
          have HRD := Lib.hid (Rd.lit wr #[.int .i64 p.id] 2 1 1 rfl)
          go_wp2_with (at_builtin; go_must (refine wpList_append_S _ rfl (.tmp 38) (.tmp 47) 32 rfl 2 iP _ 1 8 Tryz.underlying32 hiP hzP0 hzP1 hzP2 rfl (by decide) (.slice oo fl.length co) fl.length _ ob rfl (HOWN.out.grow (HW.out _)) (.slice (some ⟨wr.heap.size, 0, none⟩) 1 1) rfl 1 _ HRD.out (one1 _ rfl) (by have := HB.out; have := HFL.out; unfold maxLen; omega) (by have := HB.out; have := HFL.out; omega) ?_))
          intro v' w5 ob' h1 h2 h3
          have hown5 : IdsO w5 v' (((l.take (k + 1)).filter fun x => atE x id).map (·.id)) ob' := by
            rw [hf1.out]
            unfold IdsO
            rw [List.length_append, List.map_append]
            exact h1
          have hsz := HGR.out.size
          have hob5 : ∀ b, ob' = some b → w.heap.size ≤ b := by
            intro b hb
            rcases h3 with h3 | ⟨g, h3, hge⟩
            · exact HOB.out b (by rw [← h3]; exact hb)
            · rw [h3] at hb; cases hb; first | omega | (simp at hge; omega)
          have hg5 : Grow w w5 := (HGR.out.step (HW.out _)).modd h2 (fun b hb => HOB.out b hb)
          have H5 := Lib.hid hown5; have HO5 := Lib.hid hob5; have HG5 := Lib.hid hg5
          clear h1 h2 h3 hown5 hob5 hg5 hsz
          go_wp2_with fail
          go_roundg (l.length - (k + 1))
          case measure => omega
          case rel => exact ⟨k + 1, ob', by omega, rfl, by go_num, H5.out, HO5.out, HG5.out⟩
        · have hq2 : (p.to_ == id) = false := by simpa using hp2
          have HATE := Lib.hid (show atE p id = false by unfold atE; simp [hp1, hp2])
          clear hp1 hp2
          have hf1 : Hid (((l.take (k + 1)).filter fun x => atE x id).map (·.id) = fl) := Lib.hid (by rw [HT.out, List.filter_append, ← HFF.out]; simp [HATE.out])
          go_wp2_with fail
          go_roundg (l.length - (k + 1))
          case measure => omega
          case rel => exact ⟨k + 1, ob, by omega, rfl, by go_num, by rw [hf1.out]; exact HOWN.out, HOB.out, HGR.out⟩
    · have hkk : l.take k = l := List.take_of_length_le (by omega)
      rw [hkk] at HOWN
      clear hown hob hgr
      simp only [hkk]
      go_wp2
      go_ret
      exact ⟨_, ob, rfl, HOWN.out, HOB.out, HGR.out⟩

/-- what props tells -/
def RPropsPost (S : Nat → Prop) (G : PGraph) (id : Int) (w : World) (e : Ending) (w' : World) : Prop :=
  ((findP G id = none ∧ e = .returned (.tuple #[.slice none 0 0, .bool false])) ∨ ∃ ps pv, findP G id = some ps ∧ e = .returned (.tuple #[pv, .bool true]) ∧ PropsR S w pv ps) ∧ w' = w
theorem idxZ_none {α : Type} {f : α → Int} {l : List α} {id : Int} (h : (l.any fun y => decide (f y = id)) = false) : idxZ f l id = -1 :=
  idxZ_miss fun y hy => by have := List.any_eq_false.1 h y hy; simpa using this
theorem idxZ_some {α : Type} {f : α → Int} {l : List α} {id : Int} (h : (l.any fun y => decide (f y = id)) = true) : ∃ (k : Nat) (x : α), idxZ f l id = k ∧ k < l.length ∧ l[k]? = some x ∧ f x = id := by
  rcases idxZ_at f l id with ⟨-, h2⟩ | ⟨k, x, h1, h2, h3, -⟩
  · rw [h] at h2; cases h2
  · exact ⟨k, x, h1, (List.getElem?_eq_some_iff.1 h2).1, h2, h3⟩
theorem findP_node {G : PGraph} {id : Int} {k : Nat} {x : PNode} (hs : (G.nodes.map (·.id)).Pairwise (· < ·)) (hx : G.nodes[k]? = some x) (hid : x.id = id) : findP G id = some x.props := by
  unfold findP
  rw [find_idx (fun x : PNode => x.id) hs hx hid]
theorem findP_edge {G : PGraph} {id : Int} {k : Nat} {x : PEdge} (hn : hasN G id = false) (hs : (G.edges.map (·.id)).Pairwise (· < ·)) (hx : G.edges[k]? = some x) (hid : x.id = id) : findP G id = some x.props := by
  unfold findP
  rw [find_none (fun x : PNode => x.id) hn, find_idx (fun x : PEdge => x.id) hs hx hid]
theorem findP_no {G : PGraph} {id : Int} (hn : hasN G id = false) (he : hasE G id = false) : findP G id = none := by
  unfold findP
  rw [find_none (fun x : PNode => x.id) hn, find_none (fun x : PEdge => x.id) he]
set_option maxRecDepth 100000 in
set_option maxHeartbeats 2000000 in
theorem refProps (S : Nat → Prop) (B : Nat) (G : PGraph) (id : Int) (w : World) (h : GraphRd 55 S w B G) (hs : (G.nodes.map (·.id)).Pairwise (· < ·)) (hse : (G.edges.map (·.id)).Pairwise (· < ·)) :
    Calls Tryz.prog 142 #[.pointer (some ⟨B, 0, none⟩), .int .i64 id] w (RPropsPost S G id w) := by
  have HR := Lib.hid h; have HSN := Lib.hid hs; have HSE := Lib.hid hse
  obtain ⟨na, nc, ea, ec, hB, c0, c1, c2, hn, he⟩ := h.read
  obtain ⟨_, _, hv, hal, hac, hA⟩ := SlR.open hn
  simp only [Value.slice.injEq, true_and] at hv
  obtain ⟨rfl, rfl⟩ := hv
  obtain ⟨_, _, hv, hel, hec, hE⟩ := SlR.open he
  simp only [Value.slice.injEq, true_and] at hv
  obtain ⟨rfl, rfl⟩ := hv
  unfold maxLen at hac hec
  have HA := Lib.hid hA; have HE := Lib.hid hE
  clear h hn he hA hE hs hse
  go_enter Tryz.func142, Tryz.ntmps142
  go_wp2_with fail
  refine (refNode S B G id _ HR.out).mono ?_
  rintro e w2 ⟨rfl, rfl⟩
  cases hN : hasN G id
  · rw [idxZ_none (f := fun x : PNode => x.id) hN]
    have HN := Lib.hid hN; clear hN
    go_wp2_with fail
    refine (refEdge S B G id _ HR.out).mono ?_
    rintro e w2 ⟨rfl, rfl⟩
    cases hE : hasE G id
    · rw [idxZ_none (f := fun x : PEdge => x.id) hE]
      have HX := Lib.hid (findP_no HN.out hE); clear hE
      go_wp2
      go_ret2
      exact ⟨.inl ⟨HX.out, rfl⟩, rfl⟩
    · obtain ⟨k, x, hz, hkl, hx, hid⟩ := idxZ_some (f := fun x : PEdge => x.id) hE
      rw [hz]
      have HX := Lib.hid (findP_edge HN.out HSE.out hx hid)
      obtain ⟨ba, oa, ra, rfl, hSa, hba, hRa, hca⟩ := HE.out k x hx
      obtain ⟨pva, hba', a0, a1, a2, a3, a4, hpa⟩ := hRa.at hba (Grow.rfl' _) hca
      obtain ⟨pa, pc, rfl⟩ := hpa.isSlice
      have HPA := Lib.hid hpa
      have hk0 : decide ((0 : Int) ≤ (k : Int)) = true := by simp
      clear hE hz hx hid hca hRa hSa hba hpa
      go_wp2
      go_ret2
      exact ⟨.inr ⟨x.props, _, HX.out, rfl, HPA.out⟩, rfl⟩
  · obtain ⟨k, x, hz, hkl, hx, hid⟩ := idxZ_some (f := fun x : PNode => x.id) hN
    rw [hz]
    have HX := Lib.hid (findP_node HSN.out hx hid)
    obtain ⟨ba, oa, ra, rfl, hSa, hba, hRa, hca⟩ := HA.out k x hx
    obtain ⟨pva, hba', a0, a1, a2, hpa⟩ := hRa.at hba (Grow.rfl' _) hca
    obtain ⟨pa, pc, rfl⟩ := hpa.isSlice
    have HPA := Lib.hid hpa
    have hk0 : decide ((0 : Int) ≤ (k : Int)) = true := by simp
    clear hN hz hx hid hca hRa hSa hba hpa
    go_wp2
    go_ret2
    exact ⟨.inr ⟨x.props, _, HX.out, rfl, HPA.out⟩, rfl⟩
end Go.Hg

namespace Go.Hg
open Go.RowKit Go.Proofs

theorem ob_case {o o' : Option Nat} {n m : Nat} (h : o' = o ∨ ∃ g, o' = some g ∧ m ≤ g) (hn : n ≤ m) (ho : ∀ g, o = some g → n ≤ g) : ∀ g, o' = some g → n ≤ g := by
  intro g hg
  rcases h with h | ⟨g', h, hm⟩
  · exact ho g (h ▸ hg)
  · rw [h] at hg
    cases hg
    omega
theorem raddN_close {T : TypeId} {S R : Nat → Prop} {w wA w5 w6 : World} {B : Nat} {G : PGraph} {on oe on5 : Option Nat} {ev v5 : Value} {rows : List (List Value)} {o : POp}
    (h2 : S B) (h3 : ¬ R B) (h4 : ∀ b, R b → S b ∧ b < w.heap.size) (h5 : ∀ g, on = some g → S g ∧ ¬ R g ∧ g ≠ B ∧ g < w.heap.size ∧ oe ≠ some g) (h6 : ∀ g, oe = some g → S g ∧ ¬ R g ∧ g ≠ B ∧ g < w.heap.size ∧ on ≠ some g)
    (h8 : OwnL w 98 5 (REdge R w) ev G.edges oe) (r1 : rows.length = G.nodes.length) (r3 : ∀ (k : Nat) x r, G.nodes[k]? = some x → rows[k]? = some r → RNode R w x r ∧ r.length = 3)
    (hA : Mod (fun b => b = B) w wA) (k1 : OwnS w5 94 3 v5 (G.nodes.length + 1) (rows.flatten ++ [.int .i64 G.next, .string o.typ, .slice none 0 0]) on5) (k2 : Mod (fun k => on = some k) wA w5)
    (k3 : on5 = on ∨ ∃ g, on5 = some g ∧ wA.heap.size ≤ g) (m56 : Mod (fun b => b = B) w5 w6) (hb6 : w6.heap[B]? = some (.cells #[v5, ev, .int .i64 (G.next + 1)] T (0, 0))) (hBw : B < w.heap.size) :
    GraphOk T (fun b => S b ∨ w.heap.size ≤ b) w6 B (addNodeG o G) ∧ Mod S w w6 := by
  have m5 : Mod (fun b => b = B ∨ on = some b) w w5 := (hA.mono (fun _ h => .inl h)).step (k2.mono (fun _ h => .inr h))
  have m6 : Mod (fun b => b = B ∨ on = some b) w w6 := m5.step (m56.mono (fun _ h => .inl h))
  have hsz := hA.size
  have hR : ∀ b, R b → ¬ (b = B ∨ on = some b) := fun b hb h => h.elim (fun e => h3 (e ▸ hb)) (fun e => (h5 b e).2.1 hb)
  have h5B : ∀ g, on5 = some g → g ≠ B ∧ (S g ∨ w.heap.size ≤ g) ∧ ¬ R g := by
    intro g hg
    rcases k3 with k3 | ⟨g', k3, hge⟩
    · rw [k3] at hg
      exact ⟨(h5 g hg).2.2.1, .inl (h5 g hg).1, (h5 g hg).2.1⟩
    · rw [k3] at hg; cases hg
      exact ⟨by omega, .inr (by omega), fun hh => by have := (h4 _ hh).2; omega⟩
  refine ⟨⟨v5, ev, R, on5, oe, hb6, .inl h2, h3, fun b hb => ⟨.inl (h4 b hb).1, Nat.lt_of_lt_of_le (h4 b hb).2 m6.size⟩, fun g hg => (h5B g hg).2, fun g hg => ⟨.inl (h6 g hg).1, (h6 g hg).2.1⟩, ?_, ?_⟩, m6.mono (fun b hb => hb.elim (fun e => e ▸ h2) (fun e => (h5 b e).1))⟩
  · refine ⟨rows ++ [[.int .i64 G.next, .string o.typ, .slice none 0 0]], by show _ = (G.nodes ++ [_]).length; simp [r1], fun k y r hk hk' => ?_, ?_⟩
    · change (G.nodes ++ [_])[k]? = some y at hk
      by_cases hlt : k < G.nodes.length
      · rw [List.getElem?_append_left hlt] at hk
        rw [List.getElem?_append_left (by omega)] at hk'
        obtain ⟨a, b⟩ := r3 k y r hk hk'
        exact ⟨a.mod m6 hR, b⟩
      · rw [List.getElem?_append_right (by omega)] at hk
        rw [List.getElem?_append_right (by omega), r1] at hk'
        have e : k - G.nodes.length = 0 := by have := (List.getElem?_eq_some_iff.1 hk).1; simp at this; omega
        rw [e] at hk hk'
        simp at hk hk'
        subst hk; subst hk'
        exact ⟨⟨_, rfl, PropsR.nil _ _⟩, rfl⟩
    · have h := k1.keep (w' := w6) (fun g hg => m56.block g (k1.lt g hg) (h5B g hg).1)
      show OwnS _ _ _ _ (G.nodes ++ [_]).length _ _
      rw [List.length_append, List.length_singleton]
      simpa using h
  · exact h8.edgesMod m6 (fun g hg h => h.elim (h6 g hg).2.2.1 (h6 g hg).2.2.2.2) hR

theorem raddE_close {T : TypeId} {S R : Nat → Prop} {w wA w5 w6 : World} {B : Nat} {G : PGraph} {on oe on5 : Option Nat} {nv v5 : Value} {rows : List (List Value)} {o : POp}
    (h2 : S B) (h3 : ¬ R B) (h4 : ∀ b, R b → S b ∧ b < w.heap.size) (h5 : ∀ g, on = some g → S g ∧ ¬ R g ∧ g ≠ B ∧ g < w.heap.size ∧ oe ≠ some g) (h6 : ∀ g, oe = some g → S g ∧ ¬ R g ∧ g ≠ B ∧ g < w.heap.size ∧ on ≠ some g)
    (h7 : OwnL w 94 3 (RNode R w) nv G.nodes on) (r1 : rows.length = G.edges.length) (r3 : ∀ (k : Nat) x r, G.edges[k]? = some x → rows[k]? = some r → REdge R w x r ∧ r.length = 5)
    (hA : Mod (fun b => b = B) w wA) (k1 : OwnS w5 98 5 v5 (G.edges.length + 1) (rows.flatten ++ [.int .i64 G.next, .string o.typ, .int .i64 o.from_, .int .i64 o.to_, .slice none 0 0]) on5) (k2 : Mod (fun k => oe = some k) wA w5)
    (k3 : on5 = oe ∨ ∃ g, on5 = some g ∧ wA.heap.size ≤ g) (m56 : Mod (fun b => b = B) w5 w6) (hb6 : w6.heap[B]? = some (.cells #[nv, v5, .int .i64 (G.next + 1)] T (0, 0))) (hBw : B < w.heap.size) :
    GraphOk T (fun b => S b ∨ w.heap.size ≤ b) w6 B (addEdgeG o G) ∧ Mod S w w6 := by
  have m5 : Mod (fun b => b = B ∨ oe = some b) w w5 := (hA.mono (fun _ h => .inl h)).step (k2.mono (fun _ h => .inr h))
  have m6 : Mod (fun b => b = B ∨ oe = some b) w w6 := m5.step (m56.mono (fun _ h => .inl h))
  have hsz := hA.size
  have hR : ∀ b, R b → ¬ (b = B ∨ oe = some b) := fun b hb h => h.elim (fun e => h3 (e ▸ hb)) (fun e => (h6 b e).2.1 hb)
  have h5B : ∀ g, on5 = some g → g ≠ B ∧ (S g ∨ w.heap.size ≤ g) ∧ ¬ R g := by
    intro g hg
    rcases k3 with k3 | ⟨g', k3, hge⟩
    · rw [k3] at hg
      exact ⟨(h6 g hg).2.2.1, .inl (h6 g hg).1, (h6 g hg).2.1⟩
    · rw [k3] at hg; cases hg
      exact ⟨by omega, .inr (by omega), fun hh => by have := (h4 _ hh).2; omega⟩
  refine ⟨⟨nv, v5, R, on, on5, hb6, .inl h2, h3, fun b hb => ⟨.inl (h4 b hb).1, Nat.lt_of_lt_of_le (h4 b hb).2 m6.size⟩, fun g hg => ⟨.inl (h5 g hg).1, (h5 g hg).2.1⟩, fun g hg => (h5B g hg).2, ?_, ?_⟩, m6.mono (fun b hb => hb.elim (fun e => e ▸ h2) (fun e => (h6 b e).1))⟩
  · exact h7.nodesMod m6 (fun g hg h => h.elim (h5 g hg).2.2.1 (h5 g hg).2.2.2.2) hR
  · refine ⟨rows ++ [[.int .i64 G.next, .string o.typ, .int .i64 o.from_, .int .i64 o.to_, .slice none 0 0]], by show _ = (G.edges ++ [_]).length; simp [r1], fun k y r hk hk' => ?_, ?_⟩
    · change (G.edges ++ [_])[k]? = some y at hk
      by_cases hlt : k < G.edges.length
      · rw [List.getElem?_append_left hlt] at hk
        rw [List.getElem?_append_left (by omega)] at hk'
        obtain ⟨a, b⟩ := r3 k y r hk hk'
        exact ⟨a.mod m6 hR, b⟩
      · rw [List.getElem?_append_right (by omega)] at hk
        rw [List.getElem?_append_right (by omega), r1] at hk'
        have e : k - G.edges.length = 0 := by have := (List.getElem?_eq_some_iff.1 hk).1; simp at this; omega
        rw [e] at hk hk'
        simp at hk hk'
        subst hk; subst hk'
        exact ⟨⟨_, rfl, PropsR.nil _ _⟩, rfl⟩
    · have h := k1.keep (w' := w6) (fun g hg => m56.block g (k1.lt g hg) (h5B g hg).1)
      show OwnS _ _ _ _ (G.edges ++ [_]).length _ _
      rw [List.length_append, List.length_singleton]
      simpa using h

theorem rcutN_close {T : TypeId} {S R : Nat → Prop} {w w6 w7 : World} {B k : Nat} {G : PGraph} {on oe o6 : Option Nat} {ev v6 : Value} {rows : List (List Value)}
    (h2 : S B) (h3 : ¬ R B) (h4 : ∀ b, R b → S b ∧ b < w.heap.size) (_h5 : ∀ g, on = some g → S g ∧ ¬ R g ∧ g ≠ B ∧ g < w.heap.size ∧ oe ≠ some g) (h6 : ∀ g, oe = some g → S g ∧ ¬ R g ∧ g ≠ B ∧ g < w.heap.size ∧ on ≠ some g)
    (h8 : OwnL w 98 5 (REdge R w) ev G.edges oe) (r1 : rows.length = G.nodes.length) (r2 : ∀ r ∈ rows, r.length = 3) (r3 : ∀ (k : Nat) x r, G.nodes[k]? = some x → rows[k]? = some r → RNode R w x r ∧ r.length = 3)
    (hkl : k < G.nodes.length) (k1 : OwnS w6 94 3 v6 (G.nodes.length - 1) (rows.flatten.take (k * 3) ++ rows.flatten.drop ((k + 1) * 3)) o6) (k2 : Grow w w6)
    (k3 : ∀ g, o6 = some g → w.heap.size ≤ g) (m67 : Mod (fun b => b = B) w6 w7) (hb7 : w7.heap[B]? = some (.cells #[v6, ev, .int .i64 G.next] T (0, 0))) (hBw : B < w.heap.size) :
    GraphOk T (fun b => S b ∨ w.heap.size ≤ b) w7 B ⟨G.nodes.take k ++ G.nodes.drop (k + 1), G.edges, G.next⟩ ∧ Mod (fun b => b = B) w w7 := by
  have m7 : Mod (fun b => b = B) w w7 := (Mod.of_grow k2).step m67
  have hRB : ∀ b, R b → ¬ (b = B) := fun b hb e => h3 (e ▸ hb)
  refine ⟨⟨v6, ev, R, o6, oe, hb7, .inl h2, h3, fun b hb => ⟨.inl (h4 b hb).1, Nat.lt_of_lt_of_le (h4 b hb).2 m7.size⟩, fun g hg => ⟨.inr (k3 g hg), fun hh => by have := (h4 _ hh).2; have := k3 g hg; omega⟩, fun g hg => ⟨.inl (h6 g hg).1, (h6 g hg).2.1⟩, ?_, ?_⟩, m7⟩
  · refine OwnL.erase r1 r2 r3 (fun x r _ hR => hR.mod m7 hRB) hkl ?_
    exact k1.keep (fun g hg => m67.block g (k1.lt g hg) (fun e => by have := k3 g hg; omega))
  · exact h8.edgesMod m7 (fun g hg e => (h6 g hg).2.2.1 e) hRB

theorem rcutE_close {T : TypeId} {S R : Nat → Prop} {w w6 w7 : World} {B k : Nat} {G : PGraph} {on oe o6 : Option Nat} {nv v6 : Value} {rows : List (List Value)}
    (h2 : S B) (h3 : ¬ R B) (h4 : ∀ b, R b → S b ∧ b < w.heap.size) (h5 : ∀ g, on = some g → S g ∧ ¬ R g ∧ g ≠ B ∧ g < w.heap.size ∧ oe ≠ some g) (_h6 : ∀ g, oe = some g → S g ∧ ¬ R g ∧ g ≠ B ∧ g < w.heap.size ∧ on ≠ some g)
    (h7 : OwnL w 94 3 (RNode R w) nv G.nodes on) (r1 : rows.length = G.edges.length) (r2 : ∀ r ∈ rows, r.length = 5) (r3 : ∀ (k : Nat) x r, G.edges[k]? = some x → rows[k]? = some r → REdge R w x r ∧ r.length = 5)
    (hkl : k < G.edges.length) (k1 : OwnS w6 98 5 v6 (G.edges.length - 1) (rows.flatten.take (k * 5) ++ rows.flatten.drop ((k + 1) * 5)) o6) (k2 : Grow w w6)
    (k3 : ∀ g, o6 = some g → w.heap.size ≤ g) (m67 : Mod (fun b => b = B) w6 w7) (hb7 : w7.heap[B]? = some (.cells #[nv, v6, .int .i64 G.next] T (0, 0))) (hBw : B < w.heap.size) :
    GraphOk T (fun b => S b ∨ w.heap.size ≤ b) w7 B ⟨G.nodes, G.edges.take k ++ G.edges.drop (k + 1), G.next⟩ ∧ Mod (fun b => b = B) w w7 := by
  have m7 : Mod (fun b => b = B) w w7 := (Mod.of_grow k2).step m67
  have hRB : ∀ b, R b → ¬ (b = B) := fun b hb e => h3 (e ▸ hb)
  refine ⟨⟨nv, v6, R, on, o6, hb7, .inl h2, h3, fun b hb => ⟨.inl (h4 b hb).1, Nat.lt_of_lt_of_le (h4 b hb).2 m7.size⟩, fun g hg => ⟨.inl (h5 g hg).1, (h5 g hg).2.1⟩, fun g hg => ⟨.inr (k3 g hg), fun hh => by have := (h4 _ hh).2; have := k3 g hg; omega⟩, ?_, ?_⟩, m7⟩
  · exact h7.nodesMod m7 (fun g hg e => (h5 g hg).2.2.1 e) hRB
  · refine OwnL.erase r1 r2 r3 (fun x r _ hR => hR.mod m7 hRB) hkl ?_
    exact k1.keep (fun g hg => m67.block g (k1.lt g hg) (fun e => by have := k3 g hg; omega))

set_option maxRecDepth 100000 in
set_option maxHeartbeats 4000000 in
theorem refCut (S : Nat → Prop) (B : Nat) (G : PGraph) (id : Int) (w : World) (h : GraphOk 55 S w B G) (hi : G.edges.length ≤ 1024) (hs : (G.edges.map (·.id)).Pairwise (· < ·)) (hn : hasE G id = true) :
    Calls Tryz.prog 97 #[.pointer (some ⟨B, 0, none⟩), .int .i64 id] w fun e w' => (∃ v, e = .returned v) ∧ GraphOk 55 (fun b => S b ∨ w.heap.size ≤ b) w' B ⟨G.nodes, G.edges.filter (fun x => !decide (x.id = id)), G.next⟩ ∧ Mod (fun b => b = B) w w' := by
  obtain ⟨iP, hiP, hzP0, hzP1, hzP2⟩ := info_parts infoEdge
  have HRD := Lib.hid h.rd
  obtain ⟨nv, ev, R, on, oe, h1, h2, h3, h4, h5, h6, h7, h8⟩ := h.parts (by decide) (by decide)
  have H2 := Lib.hid h2; have H3 := Lib.hid h3; have H4 := Lib.hid h4; have H5 := Lib.hid h5; have H6 := Lib.hid h6; have H7 := Lib.hid h7; have H8 := Lib.hid h8
  have HLN := Lib.hid hi; have HS := Lib.hid hs
  have HBW := Lib.hid h1
  have hBW : B < w.heap.size := blk_lt h1
  obtain ⟨k, x, hz, hkl, hx, hid⟩ := idxZ_some (f := fun x : PEdge => x.id) hn
  have HZ := Lib.hid hz; have HX := Lib.hid hx; have HXI := Lib.hid hid
  clear h h1 h2 h3 h4 h5 h6 h7 h8 hi hs hn hz hx hid
  obtain ⟨rows, hr1, hr2, hr3, hos⟩ := H8.out.rowLen
  have HR1 := Lib.hid hr1; have HR2 := Lib.hid hr2; have HR3 := Lib.hid hr3
  have hxl := hos.1
  obtain ⟨g, cap, cur, hnv, hog, hblk, hnc, hcm, hcs, htk⟩ : ∃ g cap, ∃ cur : Array Value, ev = .slice (some ⟨g, 0, none⟩) G.edges.length cap ∧ oe = some g ∧ w.heap[g]? = some (.cells cur 98 (0, 0)) ∧ G.edges.length ≤ cap ∧ cap ≤ maxLen ∧ cur.size = cap * 5 ∧ cur.toList.take (G.edges.length * 5) = rows.flatten := by
    rcases hos.2 with ⟨_, _, h, _⟩ | ⟨g, cap, cur, h1, h2, h3, h4, h5, h6, h7⟩
    · omega
    · exact ⟨g, cap, cur, h1, h2, h3, h4, h5, h6, h7⟩
  subst hnv
  have hgw : g < w.heap.size := blk_lt hblk
  have hrd1 : ∀ w', Grow w w' → Rd w' 5 (.slice (some ⟨g, 0, none⟩) k cap) k (rows.flatten.take (k * 5)) := fun w' hg => ⟨by rw [List.length_take, hxl]; have := Nat.mul_le_mul_right 5 (Nat.le_of_lt hkl); omega, _, _, rfl, .inr ⟨_, rfl, fun j u hu => by
    rw [Addr.add_lit, blk_cell ((hg.heapEq hgw).trans hblk), ← Array.getElem?_toList]
    rw [← htk, List.take_take, List.getElem?_take] at hu
    split at hu
    · simpa using hu
    · cases hu⟩⟩
  have hrd2 : ∀ w' o c, Grow w w' → (cap = k + 1 ∨ o = (k + 1) * 5) → Rd w' 5 (.slice (some ⟨g, o, none⟩) (G.edges.length - (k + 1)) c) (G.edges.length - (k + 1)) (rows.flatten.drop ((k + 1) * 5)) := fun w' o c hg ho => ⟨by rw [List.length_drop, hxl, Nat.sub_mul], _, _, rfl, by
    rcases ho with ho | rfl
    · exact .inl (by omega)
    · exact .inr ⟨_, rfl, fun j u hu => by
        rw [Addr.add_lit, blk_cell ((hg.heapEq hgw).trans hblk), ← Array.getElem?_toList]
        rw [← htk, List.getElem?_drop, List.getElem?_take] at hu
        split at hu
        · exact hu
        · cases hu⟩⟩
  have HRD1 := Lib.hid hrd1; have HRD2 := Lib.hid hrd2
  have HOS0 := Lib.hid (OwnS.lit w.drew #[] 98 5 0 (by unfold maxLen; omega) (by simp))
  have HG1 := Lib.hid (show ∀ o1, Grow w (w.drew.alloc o1) from fun o1 => ((Grow.rfl' w).drewd).allocd o1)
  have HONE := Lib.hid (OwnL.one_flatE HR1.out HR3.out)
  have g0 : w.cell? ⟨B, 1, none⟩ = some (.slice (some ⟨g, 0, none⟩) G.edges.length cap) := by rw [blk_cell HBW.out]; rfl
  have f0 := blk_free HBW.out 1
  have hq1 : (0 : Int) ≤ (k : Int) + 1 := by omega
  have hq2 : (k : Int) ≤ (k : Int) + 1 := by omega
  have hq3 : (k : Int) + 1 ≤ (G.edges.length : Int) := by omega
  have hq4 : ((k : Int) + 1).toNat = k + 1 := by omega
  have hq5 : (G.edges.length : Int) ≤ (cap : Int) := by omega
  have hq6 : (k : Int) ≤ (cap : Int) := by omega
  have hq7 : IntKind.i64.wrap ((k : Int) + 1) = (k : Int) + 1 := by have := HLN.out; rw [IntKind.wrap_i64]; omega
  have HHOG := Lib.hid hog
  clear hr1 hr2 hr3 hos hxl hblk hcs htk hrd1 hrd2 hog
  unfold maxLen at hcm
  clear g0 f0
  go_enter Tryz.func97, Tryz.ntmps97
  go_wp2_with fail
  refine (refEdge S B G id _ HRD.out).mono ?_
  rintro e w2 ⟨rfl, hw2⟩
  rw [hw2, HZ.out]
  clear hw2 w2
  have g0 : w.cell? ⟨B, 1, none⟩ = some (.slice (some ⟨g, 0, none⟩) G.edges.length cap) := (blk_cell HBW.out 1).trans rfl
  have f0 := blk_free HBW.out 1
  by_cases hce : cap = k + 1
  · have hnk : G.edges.length = k + 1 := by omega
    have HRD3 := Lib.hid (show ∀ w', Grow w w' → Rd w' 5 (.slice (some ⟨g, 0, none⟩) 0 0) 0 (rows.flatten.drop ((k + 1) * 5)) from fun w' hg => by
      have := HRD2.out w' 0 0 hg (.inl hce)
      rwa [hnk, Nat.sub_self] at this)
    subst hce
    go_wp2_with fail
    go_region_law (first | (refine step_append_S rfl (.tmp 9) (.tmp 15) 39 rfl 98 iP _ 5 64 Tryz.underlying39 hiP hzP0 hzP1 hzP2 rfl (by decide) (.slice (some ⟨w.heap.size, 0, none⟩) 0 0) 0 [] (some w.heap.size) (by rfl) HOS0.out (.slice (some ⟨g, 0, none⟩) k (k + 1)) (by rfl) k _ (HRD1.out _ (HG1.out _)) (fun u hu => HONE.out u (List.mem_of_mem_take hu)) (by have := HLN.out; unfold maxLen; omega) (by have := HLN.out; omega) ?_; intro v5 w5 o5 k1 k2 k3 k4; rw [Nat.zero_add, List.nil_append] at k1; obtain ⟨oa5, cap5, rfl, -, -⟩ := k1.isSlice; have K1 := Lib.hid k1; have K2 := Lib.hid ((HG1.out _).modd k2 (fun b hb => by cases hb; exact Nat.le_refl _)); have K3 := Lib.hid (ob_case k3 (HG1.out _).size (fun g hg => by cases hg; exact Nat.le_refl _)); have hb5 := (K2.out.heapEq hBW).trans HBW.out; have HB5 := Lib.hid hb5; have hB5 := blk_lt hb5; have q0 : w5.cell? ⟨B, 1, none⟩ = some (.slice (some ⟨g, 0, none⟩) G.edges.length (k + 1)) := (blk_cell hb5 1).trans rfl; have qf := blk_free hb5 1; clear hb5 k1 k2 k3 k4) | (refine step_append_S rfl (.tmp 16) (.tmp 23) 39 rfl 98 iP _ 5 64 Tryz.underlying39 hiP hzP0 hzP1 hzP2 rfl (by decide) (.slice oa5 k cap5) k _ o5 (by rfl) K1.out (.slice (some ⟨g, 0, none⟩) 0 0) (by rfl) 0 _ (HRD3.out _ K2.out) (fun u hu => HONE.out u (List.mem_of_mem_drop hu)) (by have := HLN.out; unfold maxLen; omega) (by have := HLN.out; omega) ?_; intro v6 w6 o6 j1 j2 j3 j4; rw [show k + 0 = G.edges.length - 1 by omega] at j1; obtain ⟨oa6, cap6, rfl, -, -⟩ := j1.isSlice; have J1 := Lib.hid j1; have J2 := Lib.hid (K2.out.modd j2 (fun b hb => K3.out b hb)); have J3 := Lib.hid (ob_case j3 K2.out.size K3.out); have hb6 := (J2.out.heapEq hBW).trans HBW.out; have HB6 := Lib.hid hb6; have hB6 := blk_lt hb6; have r0 : w6.cell? ⟨B, 1, none⟩ = some (.slice (some ⟨g, 0, none⟩) G.edges.length (k + 1)) := (blk_cell hb6 1).trans rfl; have rf6 := blk_free hb6 1; clear hb6 j1 j2 j3 j4))
    all_goals
      go_wp2
      go_end0
      have hcl := rcutE_close H2.out H3.out H4.out H5.out H6.out H7.out HR1.out HR2.out HR3.out hkl J1.out J2.out J3.out ((Mod.rfl' (fun b => b = B) w6).setd (p := ⟨B, 1, none⟩) (.inl rfl) _) (heap_setCell_same w6 B 1 _ _ _ HB6.out) hBW
      try rw [show G.edges.length - 1 = k by omega] at hcl
      refine ⟨⟨_, rfl⟩, ?_, hcl.2⟩
      rw [filter_idx (fun x : PEdge => x.id) HS.out HX.out HXI.out]
      exact hcl.1
  · have hcd : ¬ cap = k + 1 := hce
    go_wp2_with fail
    go_region_law (first | (refine step_append_S rfl (.tmp 9) (.tmp 15) 39 rfl 98 iP _ 5 64 Tryz.underlying39 hiP hzP0 hzP1 hzP2 rfl (by decide) (.slice (some ⟨w.heap.size, 0, none⟩) 0 0) 0 [] (some w.heap.size) (by rfl) HOS0.out (.slice (some ⟨g, 0, none⟩) k cap) (by rfl) k _ (HRD1.out _ (HG1.out _)) (fun u hu => HONE.out u (List.mem_of_mem_take hu)) (by have := HLN.out; unfold maxLen; omega) (by have := HLN.out; omega) ?_; intro v5 w5 o5 k1 k2 k3 k4; rw [Nat.zero_add, List.nil_append] at k1; obtain ⟨oa5, cap5, rfl, -, -⟩ := k1.isSlice; have K1 := Lib.hid k1; have K2 := Lib.hid ((HG1.out _).modd k2 (fun b hb => by cases hb; exact Nat.le_refl _)); have K3 := Lib.hid (ob_case k3 (HG1.out _).size (fun g hg => by cases hg; exact Nat.le_refl _)); have hb5 := (K2.out.heapEq hBW).trans HBW.out; have HB5 := Lib.hid hb5; have hB5 := blk_lt hb5; have q0 : w5.cell? ⟨B, 1, none⟩ = some (.slice (some ⟨g, 0, none⟩) G.edges.length cap) := (blk_cell hb5 1).trans rfl; have qf := blk_free hb5 1; clear hb5 k1 k2 k3 k4) | (refine step_append_S rfl (.tmp 16) (.tmp 23) 39 rfl 98 iP _ 5 64 Tryz.underlying39 hiP hzP0 hzP1 hzP2 rfl (by decide) (.slice oa5 k cap5) k _ o5 (by rfl) K1.out (.slice (some ⟨g, ((k + 1) * 5), none⟩) (G.edges.length - (k + 1)) (cap - (k + 1))) (by rfl) (G.edges.length - (k + 1)) _ (HRD2.out _ _ _ K2.out (.inr rfl)) (fun u hu => HONE.out u (List.mem_of_mem_drop hu)) (by have := HLN.out; unfold maxLen; omega) (by have := HLN.out; omega) ?_; intro v6 w6 o6 j1 j2 j3 j4; rw [show k + (G.edges.length - (k + 1)) = G.edges.length - 1 by omega] at j1; obtain ⟨oa6, cap6, rfl, -, -⟩ := j1.isSlice; have J1 := Lib.hid j1; have J2 := Lib.hid (K2.out.modd j2 (fun b hb => K3.out b hb)); have J3 := Lib.hid (ob_case j3 K2.out.size K3.out); have hb6 := (J2.out.heapEq hBW).trans HBW.out; have HB6 := Lib.hid hb6; have hB6 := blk_lt hb6; have r0 : w6.cell? ⟨B, 1, none⟩ = some (.slice (some ⟨g, 0, none⟩) G.edges.length cap) := (blk_cell hb6 1).trans rfl; have rf6 := blk_free hb6 1; clear hb6 j1 j2 j3 j4))
    all_goals
      go_wp2
      go_end0
      have hcl := rcutE_close H2.out H3.out H4.out H5.out H6.out H7.out HR1.out HR2.out HR3.out hkl J1.out J2.out J3.out ((Mod.rfl' (fun b => b = B) w6).setd (p := ⟨B, 1, none⟩) (.inl rfl) _) (heap_setCell_same w6 B 1 _ _ _ HB6.out) hBW
      try rw [show G.edges.length - 1 = k by omega] at hcl
      refine ⟨⟨_, rfl⟩, ?_, hcl.2⟩
      rw [filter_idx (fun x : PEdge => x.id) HS.out HX.out HXI.out]
      exact hcl.1
end Go.Hg

namespace Go.Hg
open Go.RowKit Go.Proofs

theorem mayG_1 {c : PCat} {o : POp} {G : PGraph} (h : o.kind = 1) : mayG c o G = if memS o.typ c.nodes = false then 140 else if fullG G = true then 50 else 0 := by unfold mayG; rw [if_pos h]
theorem mayG_2 {c : PCat} {o : POp} {G : PGraph} (h : o.kind = 2) : mayG c o G = if hasN G o.id = false then 60 else if o.cascade = false ∧ (G.edges.any fun x => atE x o.id) = true then 160 else 0 := by
  unfold mayG; rw [if_neg (by omega), if_pos h]
theorem mayG_3 {c : PCat} {o : POp} {G : PGraph} (h : o.kind = 3) : mayG c o G = if memS o.typ c.edges = false then 140 else if hasN G o.from_ = false ∨ hasN G o.to_ = false then 141 else if fullG G = true then 50 else 0 := by
  unfold mayG; rw [if_neg (by omega), if_neg (by omega), if_pos h]
theorem mayG_4 {c : PCat} {o : POp} {G : PGraph} (h : o.kind = 4) : mayG c o G = if hasE G o.id = false then 60 else 0 := by
  unfold mayG; rw [if_neg (by omega), if_neg (by omega), if_neg (by omega), if_pos h]
theorem mayG_5b {c : PCat} {o : POp} {G : PGraph} (h : o.kind = 5) (hn : ¬ NameOk o.name ∨ (¬ GoodV o.v ∧ ¬ BlankV o.v)) : mayG c o G = 142 := by
  unfold mayG; rw [if_neg (by omega), if_neg (by omega), if_neg (by omega), if_neg (by omega), if_pos h, if_pos hn]
theorem mayG_5n {c : PCat} {o : POp} {G : PGraph} (h : o.kind = 5) (hn : ¬ (¬ NameOk o.name ∨ (¬ GoodV o.v ∧ ¬ BlankV o.v))) (hf : findP G o.id = none) : mayG c o G = 60 := by
  unfold mayG; rw [if_neg (by omega), if_neg (by omega), if_neg (by omega), if_neg (by omega), if_pos h, if_neg hn, hf]
theorem mayG_5s {c : PCat} {o : POp} {G : PGraph} {ps : List PProp} (h : o.kind = 5) (hn : ¬ (¬ NameOk o.name ∨ (¬ GoodV o.v ∧ ¬ BlankV o.v))) (hf : findP G o.id = some ps) : mayG c o G = if 8 < (setP ps o.name o.v).length then 3 else 0 := by
  unfold mayG; rw [if_neg (by omega), if_neg (by omega), if_neg (by omega), if_neg (by omega), if_pos h, if_neg hn, hf]
theorem mayG_0 {c : PCat} {o : POp} {G : PGraph} (h1 : o.kind ≠ 1) (h2 : o.kind ≠ 2) (h3 : o.kind ≠ 3) (h4 : o.kind ≠ 4) (h5 : o.kind ≠ 5) : mayG c o G = 150 := by
  unfold mayG; rw [if_neg h1, if_neg h2, if_neg h3, if_neg h4, if_neg h5]
theorem atG_pos (G : PGraph) (id : Int) : decide (0 < ((atG G id).length : Int)) = G.edges.any fun x => atE x id := by
  unfold atG
  rw [List.length_map]
  cases h : G.edges.any fun x => atE x id
  · rw [List.filter_eq_nil_iff.2 (fun x hx => by have := List.any_eq_false.1 h x hx; exact this)]; rfl
  · obtain ⟨x, hx, hp⟩ := List.any_eq_true.1 h
    have : x ∈ G.edges.filter fun x => atE x id := List.mem_filter.2 ⟨hx, hp⟩
    exact decide_eq_true (by have := List.length_pos_of_mem this; omega)
set_option maxRecDepth 100000 in
set_option maxHeartbeats 4000000 in
theorem rmay1 (S SC : Nat → Prop) (B : Nat) (G : PGraph) (nv ev rv iv : Value) (c : PCat) (o : POp) (w : World) (h : GraphRd 55 S w B G) (hG : GInv G) (hc : CatR SC w nv ev rv iv c) (hk : o.kind = 1) :
    Calls Tryz.prog 92 #[.pointer (some ⟨B, 0, none⟩), c.arg nv ev rv iv, o.args] w fun e w' => e = .returned (.int .i64 (mayG c o G)) ∧ Grow w w' := by
  have HGR := Lib.hid h; have HI := Lib.hid hG; have HC := Lib.hid hc
  have HM := Lib.hid (mayG_1 (c := c) (G := G) hk)
  obtain ⟨kind, id, typ, from_, to_, name, v, cascade⟩ := o
  subst hk
  obtain ⟨na, nc, ea, ec, ra, rc, ia, ic, rfl, rfl, rfl, rfl⟩ := hc.slices
  have HW := Lib.hid (show ∀ o1 o2, Grow w ((w.alloc o1).alloc o2) from fun o1 o2 => ((Grow.rfl' w).allocd o1).allocd o2)
  have HBX := Lib.hid (boxes w (.slice na c.nodes.length nc) (.slice ea c.edges.length ec) (.slice ra c.rules.length rc) (.slice ia c.indexes.length ic) c ⟨1, id, typ, from_, to_, name, v, cascade⟩)
  obtain ⟨gna, gnc, gea, gec, hB, g0, g1, g2, -, -⟩ := h.read
  have hB2 : B < w.heap.size + 1 + 1 := by omega
  have HLN := Lib.hid hG.items
  have hwr : IntKind.i64.wrap ((G.nodes.length : Int) + (G.edges.length : Int)) = (G.nodes.length : Int) + (G.edges.length : Int) := by have := hG.items; rw [IntKind.wrap_i64]; omega
  clear h hc hG
  go_enter Tryz.func92, Tryz.ntmps92
  obtain ⟨f, hfd⟩ : ∃ f, f = fullG G := ⟨_, rfl⟩
  have HF := Lib.hid hfd
  by_cases hs : 1024 ≤ G.nodes.length + G.edges.length
  case' pos =>
    have hd : decide (1024 ≤ (G.nodes.length : Int) + (G.edges.length : Int)) = true := decide_eq_true (by omega)
    obtain rfl : f = true := by rw [hfd]; unfold fullG; rw [decide_eq_true hs]; rfl
  case' neg =>
    have hd : decide (1024 ≤ (G.nodes.length : Int) + (G.edges.length : Int)) = false := decide_eq_false (by omega)
    have hf2 : decide (4611686018427387903 < G.next) = f := by rw [hfd]; unfold fullG; rw [decide_eq_false hs]; rfl
  all_goals
    clear hs hfd
    go_wp2_with fail
    refine wp_region_grow (by kernel_rfl) (by kernel_rfl) ?_
    repeat (go_big_quiet_step (fail))
    refine wpQuiet_nil ?_
    intro w2 hg2
    have HG2 := Lib.hid ((HW.out _ _).step hg2); have HA2 := Lib.hid hg2
    obtain ⟨hl1, k0, k1, k2, k3, k4⟩ := (HBX.out.1.grow hg2).at
    obtain ⟨hl2, c0, c1, c2, c3, c4, c5, c6, c7, c8, c9⟩ := (HBX.out.2.grow hg2).at
    clear hg2 g0 g1 g2 hB hB2 hd
    try clear hf2
    go_wp2_with fail
    refine (refHas SC _ _ _ _ c 1 typ _ (HC.out.grow (HG2.out))).mono ?_
    rintro e w3 ⟨rfl, hg⟩
    have HG3 := Lib.hid (HG2.out.step hg); clear hg
    cases ht : memS typ (c.typesOf 1)
    · have HX := Lib.hid (show mayG c ⟨1, id, typ, from_, to_, name, v, cascade⟩ G = 140 by rw [HM.out, if_pos (show memS typ c.nodes = false from ht)]); clear ht
      go_wp2
      go_ret
      exact ⟨by rw [HX.out]; rfl, HG3.out⟩
    · have HFX := Lib.hid (show ∀ b, fullG G = b → mayG c ⟨1, id, typ, from_, to_, name, v, cascade⟩ G = if b = true then 50 else 0 from fun b hb => by rw [HM.out, if_neg (by rw [show memS typ c.nodes = true from ht]; simp), hb]); clear ht
      first
      | (cases f
         · have HX := Lib.hid (HFX.out false HF.out.symm)
           go_wp2
           go_ret
           exact ⟨by rw [HX.out]; rfl, HG3.out⟩
         · have HX := Lib.hid (HFX.out true HF.out.symm)
           go_wp2
           go_ret
           exact ⟨by rw [HX.out]; rfl, HG3.out⟩)
      | (have HX := Lib.hid (HFX.out true HF.out.symm)
         go_wp2
         go_ret
         exact ⟨by rw [HX.out]; rfl, HG3.out⟩)

set_option maxRecDepth 100000 in
set_option maxHeartbeats 4000000 in
theorem rmay2 (S SC : Nat → Prop) (B : Nat) (G : PGraph) (nv ev rv iv : Value) (c : PCat) (o : POp) (w : World) (h : GraphRd 55 S w B G) (hG : GInv G) (hc : CatR SC w nv ev rv iv c) (hk : o.kind = 2) :
    Calls Tryz.prog 92 #[.pointer (some ⟨B, 0, none⟩), c.arg nv ev rv iv, o.args] w fun e w' => e = .returned (.int .i64 (mayG c o G)) ∧ Grow w w' := by
  have HGR := Lib.hid h; have HI := Lib.hid hG; have HC := Lib.hid hc
  have HM := Lib.hid (mayG_2 (c := c) (G := G) hk)
  obtain ⟨kind, id, typ, from_, to_, name, v, cascade⟩ := o
  subst hk
  obtain ⟨na, nc, ea, ec, ra, rc, ia, ic, rfl, rfl, rfl, rfl⟩ := hc.slices
  have HW := Lib.hid (show ∀ o1 o2, Grow w ((w.alloc o1).alloc o2) from fun o1 o2 => ((Grow.rfl' w).allocd o1).allocd o2)
  have HBX := Lib.hid (boxes w (.slice na c.nodes.length nc) (.slice ea c.edges.length ec) (.slice ra c.rules.length rc) (.slice ia c.indexes.length ic) c ⟨2, id, typ, from_, to_, name, v, cascade⟩)
  obtain ⟨gna, gnc, gea, gec, hB, g0, g1, g2, -, -⟩ := h.read
  have hB2 : B < w.heap.size + 1 + 1 := by omega
  have HLN := Lib.hid hG.items
  have hwr : IntKind.i64.wrap ((G.nodes.length : Int) + (G.edges.length : Int)) = (G.nodes.length : Int) + (G.edges.length : Int) := by have := hG.items; rw [IntKind.wrap_i64]; omega
  clear h hc hG
  go_enter Tryz.func92, Tryz.ntmps92
  obtain ⟨f, hfd⟩ : ∃ f, f = fullG G := ⟨_, rfl⟩
  have HF := Lib.hid hfd
  by_cases hs : 1024 ≤ G.nodes.length + G.edges.length
  case' pos =>
    have hd : decide (1024 ≤ (G.nodes.length : Int) + (G.edges.length : Int)) = true := decide_eq_true (by omega)
    obtain rfl : f = true := by rw [hfd]; unfold fullG; rw [decide_eq_true hs]; rfl
  case' neg =>
    have hd : decide (1024 ≤ (G.nodes.length : Int) + (G.edges.length : Int)) = false := decide_eq_false (by omega)
    have hf2 : decide (4611686018427387903 < G.next) = f := by rw [hfd]; unfold fullG; rw [decide_eq_false hs]; rfl
  all_goals
    clear hs hfd
    go_wp2_with fail
    refine wp_region_grow (by kernel_rfl) (by kernel_rfl) ?_
    repeat (go_big_quiet_step (fail))
    refine wpQuiet_nil ?_
    intro w2 hg2
    have HG2 := Lib.hid ((HW.out _ _).step hg2); have HA2 := Lib.hid hg2
    obtain ⟨hl1, k0, k1, k2, k3, k4⟩ := (HBX.out.1.grow hg2).at
    obtain ⟨hl2, c0, c1, c2, c3, c4, c5, c6, c7, c8, c9⟩ := (HBX.out.2.grow hg2).at
    clear hg2 g0 g1 g2 hB hB2 hd
    try clear hf2
    go_wp2_with fail
    refine (refNode S B G id _ (HGR.out.grow HG2.out)).mono ?_
    rintro e w3 ⟨rfl, rfl⟩
    cases hN : hasN G id
    · have HX := Lib.hid (show mayG c ⟨2, id, typ, from_, to_, name, v, cascade⟩ G = 60 by rw [HM.out, if_pos hN])
      rw [idxZ_none (f := fun x : PNode => x.id) hN]
      clear hN
      go_wp2
      go_ret
      exact ⟨by rw [HX.out]; rfl, HG2.out⟩
    · have HNN := Lib.hid hN
      obtain ⟨k, x, hz, hkl, hx, hid⟩ := idxZ_some (f := fun x : PNode => x.id) hN
      rw [hz]
      have hk0 : decide ((k : Int) < 0) = false := decide_eq_false (by omega)
      clear hN hz hkl hx hid
      go_wp2_with fail
      refine (refAt S B G id _ (HGR.out.grow HG2.out) (by have := HLN.out; omega)).mono ?_
      rintro e w4 ⟨v4, ob4, rfl, ho4, -, hg4⟩
      have HG4 := Lib.hid (HG2.out.step hg4)
      obtain ⟨o4, co4, rfl, -, -⟩ := ho4.isSlice
      obtain ⟨hl2', d0, d1, d2, d3, d4, d5, d6, d7, d8, d9⟩ := ((HBX.out.2.grow HA2.out).grow hg4).at
      have hpos := atG_pos G id
      have hposN : decide (0 < (atG G id).length) = G.edges.any fun x => atE x id := by rw [← hpos]; simp
      clear ho4 hg4 c0 c1 c2 c3 c4 c5 c6 c7 c8 c9
      cases ha : G.edges.any fun x => atE x id
      · rw [ha] at hpos hposN
        have HX := Lib.hid (show mayG c ⟨2, id, typ, from_, to_, name, v, cascade⟩ G = 0 by rw [HM.out, if_neg (by rw [HNN.out]; simp), if_neg (by rintro ⟨-, h⟩; rw [show (G.edges.any fun x => atE x id) = false from ha] at h; cases h)]); clear ha
        go_wp2
        go_ret
        exact ⟨by rw [HX.out]; rfl, HG4.out⟩
      · rw [ha] at hpos hposN
        cases hcs : cascade
        · subst hcs
          have HX := Lib.hid (show mayG c ⟨2, id, typ, from_, to_, name, v, false⟩ G = 160 by rw [HM.out, if_neg (by rw [HNN.out]; simp), if_pos ⟨rfl, ha⟩]); clear ha
          go_wp2
          go_ret
          exact ⟨by rw [HX.out]; rfl, HG4.out⟩
        · subst hcs
          have HX := Lib.hid (show mayG c ⟨2, id, typ, from_, to_, name, v, true⟩ G = 0 by rw [HM.out, if_neg (by rw [HNN.out]; simp), if_neg (by simp)]); clear ha
          go_wp2
          go_ret
          exact ⟨by rw [HX.out]; rfl, HG4.out⟩

set_option maxRecDepth 100000 in
set_option maxHeartbeats 4000000 in
theorem rmay3 (S SC : Nat → Prop) (B : Nat) (G : PGraph) (nv ev rv iv : Value) (c : PCat) (o : POp) (w : World) (h : GraphRd 55 S w B G) (hG : GInv G) (hc : CatR SC w nv ev rv iv c) (hk : o.kind = 3) :
    Calls Tryz.prog 92 #[.pointer (some ⟨B, 0, none⟩), c.arg nv ev rv iv, o.args] w fun e w' => e = .returned (.int .i64 (mayG c o G)) ∧ Grow w w' := by
  have HGR := Lib.hid h; have HI := Lib.hid hG; have HC := Lib.hid hc
  have HM := Lib.hid (mayG_3 (c := c) (G := G) hk)
  obtain ⟨kind, id, typ, from_, to_, name, v, cascade⟩ := o
  subst hk
  obtain ⟨na, nc, ea, ec, ra, rc, ia, ic, rfl, rfl, rfl, rfl⟩ := hc.slices
  have HW := Lib.hid (show ∀ o1 o2, Grow w ((w.alloc o1).alloc o2) from fun o1 o2 => ((Grow.rfl' w).allocd o1).allocd o2)
  have HBX := Lib.hid (boxes w (.slice na c.nodes.length nc) (.slice ea c.edges.length ec) (.slice ra c.rules.length rc) (.slice ia c.indexes.length ic) c ⟨3, id, typ, from_, to_, name, v, cascade⟩)
  obtain ⟨gna, gnc, gea, gec, hB, g0, g1, g2, -, -⟩ := h.read
  have hB2 : B < w.heap.size + 1 + 1 := by omega
  have HLN := Lib.hid hG.items
  have hwr : IntKind.i64.wrap ((G.nodes.length : Int) + (G.edges.length : Int)) = (G.nodes.length : Int) + (G.edges.length : Int) := by have := hG.items; rw [IntKind.wrap_i64]; omega
  clear h hc hG
  go_enter Tryz.func92, Tryz.ntmps92
  obtain ⟨f, hfd⟩ : ∃ f, f = fullG G := ⟨_, rfl⟩
  have HF := Lib.hid hfd
  by_cases hs : 1024 ≤ G.nodes.length + G.edges.length
  case' pos =>
    have hd : decide (1024 ≤ (G.nodes.length : Int) + (G.edges.length : Int)) = true := decide_eq_true (by omega)
    obtain rfl : f = true := by rw [hfd]; unfold fullG; rw [decide_eq_true hs]; rfl
  case' neg =>
    have hd : decide (1024 ≤ (G.nodes.length : Int) + (G.edges.length : Int)) = false := decide_eq_false (by omega)
    have hf2 : decide (4611686018427387903 < G.next) = f := by rw [hfd]; unfold fullG; rw [decide_eq_false hs]; rfl
  all_goals
    clear hs hfd
    go_wp2_with fail
    refine wp_region_grow (by kernel_rfl) (by kernel_rfl) ?_
    repeat (go_big_quiet_step (fail))
    refine wpQuiet_nil ?_
    intro w2 hg2
    have HG2 := Lib.hid ((HW.out _ _).step hg2); have HA2 := Lib.hid hg2
    obtain ⟨hl1, k0, k1, k2, k3, k4⟩ := (HBX.out.1.grow hg2).at
    obtain ⟨hl2, c0, c1, c2, c3, c4, c5, c6, c7, c8, c9⟩ := (HBX.out.2.grow hg2).at
    clear hg2 g0 g1 g2 hB hB2 hd
    try clear hf2
    go_wp2_with fail
    refine (refHas SC _ _ _ _ c 2 typ _ (HC.out.grow (HG2.out))).mono ?_
    rintro e w3 ⟨rfl, hg⟩
    have HG3 := Lib.hid (HG2.out.step hg); have HA3 := Lib.hid hg
    obtain ⟨hl2', d0, d1, d2, d3, d4, d5, d6, d7, d8, d9⟩ := ((HBX.out.2.grow HA2.out).grow hg).at
    clear hg c0 c1 c2 c3 c4 c5 c6 c7 c8 c9
    cases ht : memS typ (c.typesOf 2)
    · have HX := Lib.hid (show mayG c ⟨3, id, typ, from_, to_, name, v, cascade⟩ G = 140 by rw [HM.out, if_pos (show memS typ c.edges = false from ht)]); clear ht
      go_wp2
      go_ret
      exact ⟨by rw [HX.out]; rfl, HG3.out⟩
    · have HT := Lib.hid (show memS typ c.edges = true from ht); clear ht
      go_wp2_with fail
      refine (refNode S B G from_ _ (HGR.out.grow HG3.out)).mono ?_
      rintro e w4 ⟨rfl, rfl⟩
      cases hN : hasN G from_
      · have HX := Lib.hid (show mayG c ⟨3, id, typ, from_, to_, name, v, cascade⟩ G = 141 by rw [HM.out, if_neg (by rw [HT.out]; simp), if_pos (.inl hN)])
        rw [idxZ_none (f := fun x : PNode => x.id) hN]
        clear hN
        go_wp2
        go_ret
        exact ⟨by rw [HX.out]; rfl, HG3.out⟩
      · have HNN := Lib.hid hN
        obtain ⟨k, x, hz, hkl, hx, hid⟩ := idxZ_some (f := fun x : PNode => x.id) hN
        rw [hz]
        have hk0 : decide ((k : Int) < 0) = false := decide_eq_false (by omega)
        clear hN hz hkl hx hid
        go_wp2_with fail
        refine (refNode S B G to_ _ (HGR.out.grow HG3.out)).mono ?_
        rintro e w4 ⟨rfl, rfl⟩
        cases hN : hasN G to_
        · have HX := Lib.hid (show mayG c ⟨3, id, typ, from_, to_, name, v, cascade⟩ G = 141 by rw [HM.out, if_neg (by rw [HT.out]; simp), if_pos (.inr hN)])
          rw [idxZ_none (f := fun x : PNode => x.id) hN]
          clear hN
          go_wp2
          go_ret
          exact ⟨by rw [HX.out]; rfl, HG3.out⟩
        · have HFX := Lib.hid (show ∀ b, fullG G = b → mayG c ⟨3, id, typ, from_, to_, name, v, cascade⟩ G = if b = true then 50 else 0 from fun b hb => by rw [HM.out, if_neg (by rw [HT.out]; simp), if_neg (by rw [HNN.out, hN]; simp), hb])
          obtain ⟨k', x', hz, hkl, hx, hid⟩ := idxZ_some (f := fun x : PNode => x.id) hN
          rw [hz]
          have hk0' : decide ((k' : Int) < 0) = false := decide_eq_false (by omega)
          clear hN hz hkl hx hid
          first
          | (cases f
             · have HX := Lib.hid (HFX.out false HF.out.symm)
               go_wp2
               go_ret
               exact ⟨by rw [HX.out]; rfl, HG3.out⟩
             · have HX := Lib.hid (HFX.out true HF.out.symm)
               go_wp2
               go_ret
               exact ⟨by rw [HX.out]; rfl, HG3.out⟩)
          | (have HX := Lib.hid (HFX.out true HF.out.symm)
             go_wp2
             go_ret
             exact ⟨by rw [HX.out]; rfl, HG3.out⟩)

set_option maxRecDepth 100000 in
set_option maxHeartbeats 4000000 in
theorem rmay4 (S SC : Nat → Prop) (B : Nat) (G : PGraph) (nv ev rv iv : Value) (c : PCat) (o : POp) (w : World) (h : GraphRd 55 S w B G) (hG : GInv G) (hc : CatR SC w nv ev rv iv c) (hk : o.kind = 4) :
    Calls Tryz.prog 92 #[.pointer (some ⟨B, 0, none⟩), c.arg nv ev rv iv, o.args] w fun e w' => e = .returned (.int .i64 (mayG c o G)) ∧ Grow w w' := by
  have HGR := Lib.hid h; have HI := Lib.hid hG; have HC := Lib.hid hc
  have HM := Lib.hid (mayG_4 (c := c) (G := G) hk)
  obtain ⟨kind, id, typ, from_, to_, name, v, cascade⟩ := o
  subst hk
  obtain ⟨na, nc, ea, ec, ra, rc, ia, ic, rfl, rfl, rfl, rfl⟩ := hc.slices
  have HW := Lib.hid (show ∀ o1 o2, Grow w ((w.alloc o1).alloc o2) from fun o1 o2 => ((Grow.rfl' w).allocd o1).allocd o2)
  have HBX := Lib.hid (boxes w (.slice na c.nodes.length nc) (.slice ea c.edges.length ec) (.slice ra c.rules.length rc) (.slice ia c.indexes.length ic) c ⟨4, id, typ, from_, to_, name, v, cascade⟩)
  obtain ⟨gna, gnc, gea, gec, hB, g0, g1, g2, -, -⟩ := h.read
  have hB2 : B < w.heap.size + 1 + 1 := by omega
  have HLN := Lib.hid hG.items
  have hwr : IntKind.i64.wrap ((G.nodes.length : Int) + (G.edges.length : Int)) = (G.nodes.length : Int) + (G.edges.length : Int) := by have := hG.items; rw [IntKind.wrap_i64]; omega
  clear h hc hG
  go_enter Tryz.func92, Tryz.ntmps92
  obtain ⟨f, hfd⟩ : ∃ f, f = fullG G := ⟨_, rfl⟩
  have HF := Lib.hid hfd
  by_cases hs : 1024 ≤ G.nodes.length + G.edges.length
  case' pos =>
    have hd : decide (1024 ≤ (G.nodes.length : Int) + (G.edges.length : Int)) = true := decide_eq_true (by omega)
    obtain rfl : f = true := by rw [hfd]; unfold fullG; rw [decide_eq_true hs]; rfl
  case' neg =>
    have hd : decide (1024 ≤ (G.nodes.length : Int) + (G.edges.length : Int)) = false := decide_eq_false (by omega)
    have hf2 : decide (4611686018427387903 < G.next) = f := by rw [hfd]; unfold fullG; rw [decide_eq_false hs]; rfl
  all_goals
    clear hs hfd
    go_wp2_with fail
    refine wp_region_grow (by kernel_rfl) (by kernel_rfl) ?_
    repeat (go_big_quiet_step (fail))
    refine wpQuiet_nil ?_
    intro w2 hg2
    have HG2 := Lib.hid ((HW.out _ _).step hg2); have HA2 := Lib.hid hg2
    obtain ⟨hl1, k0, k1, k2, k3, k4⟩ := (HBX.out.1.grow hg2).at
    obtain ⟨hl2, c0, c1, c2, c3, c4, c5, c6, c7, c8, c9⟩ := (HBX.out.2.grow hg2).at
    clear hg2 g0 g1 g2 hB hB2 hd
    try clear hf2
    go_wp2_with fail
    refine (refEdge S B G id _ (HGR.out.grow HG2.out)).mono ?_
    rintro e w3 ⟨rfl, rfl⟩
    cases hN : hasE G id
    · have HX := Lib.hid (show mayG c ⟨4, id, typ, from_, to_, name, v, cascade⟩ G = 60 by rw [HM.out, if_pos hN])
      rw [idxZ_none (f := fun x : PEdge => x.id) hN]
      clear hN
      go_wp2
      go_ret
      exact ⟨by rw [HX.out]; rfl, HG2.out⟩
    · have HX := Lib.hid (show mayG c ⟨4, id, typ, from_, to_, name, v, cascade⟩ G = 0 by rw [HM.out, if_neg (by rw [show hasE G id = true from hN]; simp)])
      obtain ⟨k, x, hz, hkl, hx, hid⟩ := idxZ_some (f := fun x : PEdge => x.id) hN
      rw [hz]
      have hk0 : decide ((k : Int) < 0) = false := decide_eq_false (by omega)
      clear hN hz hkl hx hid
      go_wp2
      go_ret
      exact ⟨by rw [HX.out]; rfl, HG2.out⟩

theorem findP_len {G : PGraph} {id : Int} {ps : List PProp} (hG : GInv G) (h : findP G id = some ps) : ps.length ≤ 8 := by
  unfold findP at h
  cases hn : G.nodes.find? fun x => decide (x.id = id) with
  | some x => rw [hn] at h; simp only [Option.some.injEq] at h; subst h; exact (hG.nodesB x (List.mem_of_find?_eq_some hn)).2.2
  | none =>
    rw [hn] at h
    cases he : G.edges.find? fun x => decide (x.id = id) with
    | some x => rw [he] at h; simp only [Option.some.injEq] at h; subst h; exact (hG.edgesB x (List.mem_of_find?_eq_some he)).2.2
    | none => rw [he] at h; simp at h
set_option maxRecDepth 100000 in
set_option maxHeartbeats 4000000 in
theorem rmay5 (S SC : Nat → Prop) (B : Nat) (G : PGraph) (nv ev rv iv : Value) (c : PCat) (o : POp) (w : World) (h : GraphRd 55 S w B G) (hG : GInv G) (hc : CatR SC w nv ev rv iv c) (hk : o.kind = 5) :
    Calls Tryz.prog 92 #[.pointer (some ⟨B, 0, none⟩), c.arg nv ev rv iv, o.args] w fun e w' => e = .returned (.int .i64 (mayG c o G)) ∧ Grow w w' := by
  have HGR := Lib.hid h; have HI := Lib.hid hG; have HC := Lib.hid hc
  obtain ⟨kind, id, typ, from_, to_, name, v, cascade⟩ := o
  subst hk
  obtain ⟨na, nc, ea, ec, ra, rc, ia, ic, rfl, rfl, rfl, rfl⟩ := hc.slices
  have HW := Lib.hid (show ∀ o1 o2, Grow w ((w.alloc o1).alloc o2) from fun o1 o2 => ((Grow.rfl' w).allocd o1).allocd o2)
  have HBX := Lib.hid (boxes w (.slice na c.nodes.length nc) (.slice ea c.edges.length ec) (.slice ra c.rules.length rc) (.slice ia c.indexes.length ic) c ⟨5, id, typ, from_, to_, name, v, cascade⟩)
  obtain ⟨gna, gnc, gea, gec, hB, g0, g1, g2, -, -⟩ := h.read
  have hB2 : B < w.heap.size + 1 + 1 := by omega
  have HLN := Lib.hid hG.items
  have hwr : IntKind.i64.wrap ((G.nodes.length : Int) + (G.edges.length : Int)) = (G.nodes.length : Int) + (G.edges.length : Int) := by have := hG.items; rw [IntKind.wrap_i64]; omega
  clear h hc hG
  go_enter Tryz.func92, Tryz.ntmps92
  obtain ⟨f, hfd⟩ : ∃ f, f = fullG G := ⟨_, rfl⟩
  have HF := Lib.hid hfd
  by_cases hs : 1024 ≤ G.nodes.length + G.edges.length
  case' pos =>
    have hd : decide (1024 ≤ (G.nodes.length : Int) + (G.edges.length : Int)) = true := decide_eq_true (by omega)
    obtain rfl : f = true := by rw [hfd]; unfold fullG; rw [decide_eq_true hs]; rfl
  case' neg =>
    have hd : decide (1024 ≤ (G.nodes.length : Int) + (G.edges.length : Int)) = false := decide_eq_false (by omega)
    have hf2 : decide (4611686018427387903 < G.next) = f := by rw [hfd]; unfold fullG; rw [decide_eq_false hs]; rfl
  all_goals
    clear hs hfd
    go_wp2_with fail
    refine wp_region_grow (by kernel_rfl) (by kernel_rfl) ?_
    repeat (go_big_quiet_step (fail))
    refine wpQuiet_nil ?_
    intro w2 hg2
    have HG2 := Lib.hid ((HW.out _ _).step hg2); have HA2 := Lib.hid hg2
    obtain ⟨hl1, k0, k1, k2, k3, k4⟩ := (HBX.out.1.grow hg2).at
    obtain ⟨hl2, c0, c1, c2, c3, c4, c5, c6, c7, c8, c9⟩ := (HBX.out.2.grow hg2).at
    clear hg2 g0 g1 g2 hB hB2 hd
    try clear hf2
    go_wp2_with fail
    refine (refName name _).mono ?_
    rintro e w3 ⟨rfl, rfl⟩
    cases hN : decide (NameOk name)
    · have HX := Lib.hid (show mayG c ⟨5, id, typ, from_, to_, name, v, cascade⟩ G = 142 from mayG_5b rfl (.inl (of_decide_eq_false hN))); clear hN
      go_wp2
      go_ret
      exact ⟨by rw [HX.out]; rfl, HG2.out⟩
    · have HNN := Lib.hid (of_decide_eq_true hN); clear hN
      go_wp2_with fail
      refine (refGoodV v _).mono ?_
      rintro e w4 ⟨rfl, hg⟩
      have HG4 := Lib.hid (HG2.out.step hg); have HA4 := Lib.hid (HA2.out.step hg)
      obtain ⟨hl2', d0, d1, d2, d3, d4, d5, d6, d7, d8, d9⟩ := ((HBX.out.2.grow HA2.out).grow hg).at
      clear hg c0 c1 c2 c3 c4 c5 c6 c7 c8 c9
      cases hgd : decide (GoodV v)
      · have HGD := Lib.hid (of_decide_eq_false hgd); clear hgd
        go_wp2_with fail
        refine (refBlank v _).mono ?_
        rintro e w5 ⟨rfl, hg⟩
        have HG5 := Lib.hid (HG4.out.step hg)
        obtain ⟨hl3', e0, e1, e2, e3, e4, e5, e6, e7, e8, e9⟩ := ((HBX.out.2.grow HA4.out).grow hg).at
        clear hg d0 d1 d2 d3 d4 d5 d6 d7 d8 d9
        cases hbl : decide (BlankV v)
        · have HX := Lib.hid (show mayG c ⟨5, id, typ, from_, to_, name, v, cascade⟩ G = 142 from mayG_5b rfl (.inr ⟨HGD.out, of_decide_eq_false hbl⟩)); clear hbl
          go_wp2
          go_ret
          exact ⟨by rw [HX.out]; rfl, HG5.out⟩
        · have HBL := Lib.hid (of_decide_eq_true hbl); clear hbl
          have HIF := Lib.hid (show ¬ (¬ NameOk name ∨ (¬ GoodV v ∧ ¬ BlankV v)) from fun h => h.elim (fun h => h HNN.out) (fun h => h.2 HBL.out))
          go_wp2_with fail
          refine (refProps S B G id _ (HGR.out.grow HG5.out) HI.out.nodes HI.out.edges).mono ?_
          rintro e w6 ⟨hp, rfl⟩
          rcases hp with ⟨hf, rfl⟩ | ⟨ps, pv, hf, rfl, hp⟩
          · have HX := Lib.hid (show mayG c ⟨5, id, typ, from_, to_, name, v, cascade⟩ G = 60 from mayG_5n rfl HIF.out hf); clear hf
            go_wp2
            go_ret
            exact ⟨by rw [HX.out]; rfl, HG5.out⟩
          · have HP := Lib.hid hp
            obtain ⟨pa, pc, rfl⟩ := hp.isSlice
            have HL8 := Lib.hid (findP_len HI.out hf)
            have HX0 := Lib.hid (show mayG c ⟨5, id, typ, from_, to_, name, v, cascade⟩ G = if 8 < (setP ps name v).length then 3 else 0 from mayG_5s rfl HIF.out hf)
            clear hf hp
            go_wp2_with fail
            refine (refSet S _ ps name v _ HP.out (by have := HL8.out; omega)).mono ?_
            rintro e w7 ⟨v7, rfl, h7, hg7⟩
            have HG7 := Lib.hid (HG5.out.step hg7)
            obtain ⟨a7, k7, rfl⟩ := h7.isSlice
            clear h7 hg7
            by_cases h8 : 8 < (setP ps name v).length
            · have hd8 : decide ((8 : Int) < ((setP ps name v).length : Int)) = true := decide_eq_true (by omega)
              have HX := Lib.hid (show mayG c ⟨5, id, typ, from_, to_, name, v, cascade⟩ G = 3 by rw [HX0.out, if_pos h8]); clear h8
              go_wp2
              go_ret
              exact ⟨by rw [HX.out]; rfl, HG7.out⟩
            · have hd8 : decide ((8 : Int) < ((setP ps name v).length : Int)) = false := decide_eq_false (by omega)
              have HX := Lib.hid (show mayG c ⟨5, id, typ, from_, to_, name, v, cascade⟩ G = 0 by rw [HX0.out, if_neg h8]); clear h8
              go_wp2
              go_ret
              exact ⟨by rw [HX.out]; rfl, HG7.out⟩
      · have HGD := Lib.hid (of_decide_eq_true hgd); clear hgd
        have HIF := Lib.hid (show ¬ (¬ NameOk name ∨ (¬ GoodV v ∧ ¬ BlankV v)) from fun h => h.elim (fun h => h HNN.out) (fun h => h.1 HGD.out))
        go_wp2_with fail
        refine (refProps S B G id _ (HGR.out.grow HG4.out) HI.out.nodes HI.out.edges).mono ?_
        rintro e w6 ⟨hp, rfl⟩
        rcases hp with ⟨hf, rfl⟩ | ⟨ps, pv, hf, rfl, hp⟩
        · have HX := Lib.hid (show mayG c ⟨5, id, typ, from_, to_, name, v, cascade⟩ G = 60 from mayG_5n rfl HIF.out hf); clear hf
          go_wp2
          go_ret
          exact ⟨by rw [HX.out]; rfl, HG4.out⟩
        · have HP := Lib.hid hp
          obtain ⟨pa, pc, rfl⟩ := hp.isSlice
          have HL8 := Lib.hid (findP_len HI.out hf)
          have HX0 := Lib.hid (show mayG c ⟨5, id, typ, from_, to_, name, v, cascade⟩ G = if 8 < (setP ps name v).length then 3 else 0 from mayG_5s rfl HIF.out hf)
          clear hf hp
          go_wp2_with fail
          refine (refSet S _ ps name v _ HP.out (by have := HL8.out; omega)).mono ?_
          rintro e w7 ⟨v7, rfl, h7, hg7⟩
          have HG7 := Lib.hid (HG4.out.step hg7)
          obtain ⟨a7, k7, rfl⟩ := h7.isSlice
          clear h7 hg7
          by_cases h8 : 8 < (setP ps name v).length
          · have hd8 : decide ((8 : Int) < ((setP ps name v).length : Int)) = true := decide_eq_true (by omega)
            have HX := Lib.hid (show mayG c ⟨5, id, typ, from_, to_, name, v, cascade⟩ G = 3 by rw [HX0.out, if_pos h8]); clear h8
            go_wp2
            go_ret
            exact ⟨by rw [HX.out]; rfl, HG7.out⟩
          · have hd8 : decide ((8 : Int) < ((setP ps name v).length : Int)) = false := decide_eq_false (by omega)
            have HX := Lib.hid (show mayG c ⟨5, id, typ, from_, to_, name, v, cascade⟩ G = 0 by rw [HX0.out, if_neg h8]); clear h8
            go_wp2
            go_ret
            exact ⟨by rw [HX.out]; rfl, HG7.out⟩

set_option maxRecDepth 100000 in
set_option maxHeartbeats 4000000 in
theorem rmay0 (S SC : Nat → Prop) (B : Nat) (G : PGraph) (nv ev rv iv : Value) (c : PCat) (o : POp) (w : World) (h : GraphRd 55 S w B G) (hG : GInv G) (hc : CatR SC w nv ev rv iv c) (h1 : o.kind ≠ 1) (h2 : o.kind ≠ 2) (h3 : o.kind ≠ 3) (h4 : o.kind ≠ 4) (h5 : o.kind ≠ 5) :
    Calls Tryz.prog 92 #[.pointer (some ⟨B, 0, none⟩), c.arg nv ev rv iv, o.args] w fun e w' => e = .returned (.int .i64 (mayG c o G)) ∧ Grow w w' := by
  have HGR := Lib.hid h; have HI := Lib.hid hG; have HC := Lib.hid hc
  have HM := Lib.hid (mayG_0 (c := c) (G := G) h1 h2 h3 h4 h5)
  obtain ⟨kind, id, typ, from_, to_, name, v, cascade⟩ := o
  obtain ⟨na, nc, ea, ec, ra, rc, ia, ic, rfl, rfl, rfl, rfl⟩ := hc.slices
  have HW := Lib.hid (show ∀ o1 o2, Grow w ((w.alloc o1).alloc o2) from fun o1 o2 => ((Grow.rfl' w).allocd o1).allocd o2)
  have HBX := Lib.hid (boxes w (.slice na c.nodes.length nc) (.slice ea c.edges.length ec) (.slice ra c.rules.length rc) (.slice ia c.indexes.length ic) c ⟨kind, id, typ, from_, to_, name, v, cascade⟩)
  obtain ⟨gna, gnc, gea, gec, hB, g0, g1, g2, -, -⟩ := h.read
  have hB2 : B < w.heap.size + 1 + 1 := by omega
  have q1 : (kind == 1) = false := by simpa using h1
  have q2 : (kind == 2) = false := by simpa using h2
  have q3 : (kind == 3) = false := by simpa using h3
  have q4 : (kind == 4) = false := by simpa using h4
  have q5 : (kind == 5) = false := by simpa using h5
  have HLN := Lib.hid hG.items
  have hwr : IntKind.i64.wrap ((G.nodes.length : Int) + (G.edges.length : Int)) = (G.nodes.length : Int) + (G.edges.length : Int) := by have := hG.items; rw [IntKind.wrap_i64]; omega
  clear h hc hG h1 h2 h3 h4 h5
  go_enter Tryz.func92, Tryz.ntmps92
  obtain ⟨f, hfd⟩ : ∃ f, f = fullG G := ⟨_, rfl⟩
  have HF := Lib.hid hfd
  by_cases hs : 1024 ≤ G.nodes.length + G.edges.length
  case' pos =>
    have hd : decide (1024 ≤ (G.nodes.length : Int) + (G.edges.length : Int)) = true := decide_eq_true (by omega)
    obtain rfl : f = true := by rw [hfd]; unfold fullG; rw [decide_eq_true hs]; rfl
  case' neg =>
    have hd : decide (1024 ≤ (G.nodes.length : Int) + (G.edges.length : Int)) = false := decide_eq_false (by omega)
    have hf2 : decide (4611686018427387903 < G.next) = f := by rw [hfd]; unfold fullG; rw [decide_eq_false hs]; rfl
  all_goals
    clear hs hfd
    go_wp2_with fail
    refine wp_region_grow (by kernel_rfl) (by kernel_rfl) ?_
    repeat (go_big_quiet_step (fail))
    refine wpQuiet_nil ?_
    intro w2 hg2
    have HG2 := Lib.hid ((HW.out _ _).step hg2); have HA2 := Lib.hid hg2
    obtain ⟨hl1, k0, k1, k2, k3, k4⟩ := (HBX.out.1.grow hg2).at
    obtain ⟨hl2, c0, c1, c2, c3, c4, c5, c6, c7, c8, c9⟩ := (HBX.out.2.grow hg2).at
    clear hg2 g0 g1 g2 hB hB2 hd
    try clear hf2
    go_wp2
    go_ret
    exact ⟨by rw [HM.out]; rfl, HG2.out⟩

theorem refMay (S SC : Nat → Prop) (B : Nat) (G : PGraph) (nv ev rv iv : Value) (c : PCat) (o : POp) (w : World) (h : GraphRd 55 S w B G) (hG : GInv G) (hc : CatR SC w nv ev rv iv c) :
    Calls Tryz.prog 92 #[.pointer (some ⟨B, 0, none⟩), c.arg nv ev rv iv, o.args] w fun e w' => e = .returned (.int .i64 (mayG c o G)) ∧ Grow w w' := by
  by_cases h1 : o.kind = 1
  · exact rmay1 S SC B G nv ev rv iv c o w h hG hc h1
  by_cases h2 : o.kind = 2
  · exact rmay2 S SC B G nv ev rv iv c o w h hG hc h2
  by_cases h3 : o.kind = 3
  · exact rmay3 S SC B G nv ev rv iv c o w h hG hc h3
  by_cases h4 : o.kind = 4
  · exact rmay4 S SC B G nv ev rv iv c o w h hG hc h4
  by_cases h5 : o.kind = 5
  · exact rmay5 S SC B G nv ev rv iv c o w h hG hc h5
  exact rmay0 S SC B G nv ev rv iv c o w h hG hc h1 h2 h3 h4 h5
end Go.Hg
