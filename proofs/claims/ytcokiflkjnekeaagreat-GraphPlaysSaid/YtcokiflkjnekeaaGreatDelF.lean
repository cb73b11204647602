/- slices.DeleteFunc at edges whose row is one's own. Condition: at most 2^40 edges. -/
import Derived.Test.YtcokiflkjnekeaaGreatDel
import Derived.Test.YtcokiflkjnekeaaGreatSmall
import Derived.Test.YtcokiflkjnekeaaGreatGraphR
namespace Go.Hg
open Go.RowKit Go.Proofs

/-- a closure that asks of an edge, where only blocks of F change -/
def AsksM (F : Nat → Prop) (f : Nat) (c : Addr) (p : PEdge → Bool) (w : World) : Prop :=
  (∀ args w, (callFunc f args).run Tryz.prog w = .ok (.enter f args) w) ∧ ∀ (S : Nat → Prop) (x : PEdge) (pv : Value) (w' : World), Mod F w w' → PropsR S w' pv x.props → Calls Tryz.prog f #[x.args pv, .pointer (some c)] w' fun e w2 => e = .returned (.bool (p x)) ∧ Grow w' w2
theorem AsksM.asks {F : Nat → Prop} {f : Nat} {c : Addr} {p : PEdge → Bool} {w : World} (h : AsksM F f c p w) (S : Nat → Prop) : AsksE f c p S w :=
  ⟨h.1, fun x pv w' g hp => h.2 S x pv w' (Mod.of_grow g) hp⟩

theorem OwnS.clearTail {P : Program} {w : World} {E : TypeId} {sz : Nat} {v : Value} {n : Nat} {xs : List Value} {ob : Option Nat} (hown : OwnS w E sz v n xs ob) (t : TypeId) (z : Value)
    (ht : P.underlying t = some (.slice E)) (hz : ∀ w, (zeroValue E).run P w = .ok z w) (hzs : z.cells.size = sz) (h1 : ∀ v ∈ z.cells.toList, v.oneCell' = true) (i : Nat) (hi : i < n) :
    ∃ g cap w2, v = .slice (some ⟨g, 0, none⟩) n cap ∧ ob = some g ∧ n ≤ cap ∧ cap ≤ maxLen ∧
      (∀ ty, (Builtin.clear_ #[t] ty #[.slice (some ⟨g, i * sz, none⟩) (n - i) (cap - i)]).run P w = .ok (.tuple #[]) w2) ∧ OwnS w2 E sz (.slice (some ⟨g, 0, none⟩) i cap) i (xs.take (i * sz)) ob ∧ Mod (fun k => ob = some k) w w2 := by
  rcases hown.2 with ⟨_, _, h, _⟩ | ⟨g, cap, cur, rfl, rfl, hblk, hnc, hcm, hcs, htk⟩
  · omega
  have hsz : i * sz + (n - i) * sz ≤ cap * sz := by rw [← Nat.add_mul]; exact Nat.mul_le_mul_right _ (by omega)
  have hin : i * sz ≤ n * sz := Nat.mul_le_mul_right _ (by omega)
  have hnn : n * sz ≤ cap * sz := Nat.mul_le_mul_right _ hnc
  have hlc : cur.toList.length = cap * sz := by simpa using hcs
  obtain ⟨cs, hcsl, hcl⟩ := run_clear_row (P := P) w t 0 E z ht hz g (i * sz) (n - i) (cap - i) cur E hblk (by rw [hzs, hcs]; exact hsz) h1
  rw [hzs] at hcsl
  refine ⟨g, cap, _, rfl, rfl, hnc, hcm, fun ty => hcl, ⟨by rw [List.length_take, hown.1]; omega, .inr ⟨g, cap, _, rfl, rfl, setRow_heap w g cur _ E (0, 0) hblk, by omega, hcm, ?_, ?_⟩⟩, ⟨rfl, rfl, rfl, by simp, fun k hk hh => by rw [setRow_other _ _ _ _ (fun e => hh (by rw [e]))]⟩⟩
  · simp only [List.size_toArray, List.length_append, List.length_take, List.length_drop, hlc, hcsl]
    omega
  · rw [List.append_assoc]
    have e : (cur.toList.take (i * sz)).length = i * sz := by rw [List.length_take, hlc]; omega
    rw [show (cur.toList.take (i * sz) ++ (cs ++ cur.toList.drop (i * sz + cs.length))).toArray.toList.take (i * sz) = cur.toList.take (i * sz) by
      rw [List.toList_toArray, List.take_append_of_le_length (by omega), List.take_of_length_le (by omega)]]
    rw [← htk, List.take_take]
    congr 1
    omega

theorem flatten_set5 : ∀ (rows : List (List Value)) (k : Nat) (a b c d e : Value), (∀ r ∈ rows, r.length = 5) → k < rows.length →
    (((((rows.flatten.set (k * 5) a).set (k * 5 + 1) b).set (k * 5 + 2) c).set (k * 5 + 3) d).set (k * 5 + 4) e) = (rows.set k [a, b, c, d, e]).flatten
  | [], k, a, b, c, d, e, _, h => by simp at h
  | r :: rows, 0, a, b, c, d, e, h0, _ => by
    have h1 := h0 r (by simp)
    match r, h1 with
    | [r0, r1, r2, r3, r4], _ => simp
  | r :: rows, k + 1, a, b, c, d, e, h0, h => by
    have h1 := h0 r (by simp)
    have ih := flatten_set5 rows k a b c d e (fun r hr => h0 r (by simp [hr])) (by simpa using h)
    match r, h1 with
    | [r0, r1, r2, r3, r4], _ =>
      have q : (k + 1) * 5 = k * 5 + 5 := by omega
      have q1 : k * 5 + 5 + 1 = (k * 5 + 1) + 5 := by omega
      have q2 : k * 5 + 5 + 2 = (k * 5 + 2) + 5 := by omega
      have q3 : k * 5 + 5 + 3 = (k * 5 + 3) + 5 := by omega
      have q4 : k * 5 + 5 + 4 = (k * 5 + 4) + 5 := by omega
      rw [q, q1, q2, q3, q4]
      simp only [List.flatten_cons, List.set_cons_succ, List.cons_append, List.nil_append]
      rw [ih]

theorem OwnL.set5 {α : Type} {w w' : World} {E : TypeId} {R R' : α → List Value → Prop} {v : Value} {l : List α} {g k : Nat} {x : α} {a b c d e : Value} (h : OwnL w E 5 R v l (some g)) (hk : k < l.length)
    (hw : w' = (((((w.setCell ⟨g, k * 5, none⟩ a).setCell ⟨g, k * 5 + 1, none⟩ b).setCell ⟨g, k * 5 + 2, none⟩ c).setCell ⟨g, k * 5 + 3, none⟩ d).setCell ⟨g, k * 5 + 4, none⟩ e))
    (hx : R' x [a, b, c, d, e]) (hR : ∀ x r, x ∈ l → R x r → R' x r) : OwnL w' E 5 R' v (l.set k x) (some g) := by
  obtain ⟨rows, h1, hlen, h2, h3⟩ := h.rowLen
  refine ⟨rows.set k [a, b, c, d, e], by simp [h1], fun j y r hj hr => ?_, ?_⟩
  · rw [List.getElem?_set] at hj hr
    by_cases hjk : k = j
    · subst hjk
      rw [if_pos rfl] at hj hr
      rw [if_pos hk] at hj
      rw [if_pos (by omega)] at hr
      cases hj; cases hr
      exact ⟨hx, rfl⟩
    · rw [if_neg hjk] at hj hr
      obtain ⟨p, q⟩ := h2 j y r hj hr
      exact ⟨hR _ _ (List.mem_of_getElem? hj) p, q⟩
  · rw [← flatten_set5 rows k a b c d e hlen (by omega), hw, List.length_set]
    exact ((((h3.stored rfl _ _).stored rfl _ _).stored rfl _ _).stored rfl _ _).stored rfl _ _

theorem OwnL.row {α : Type} {w : World} {E : TypeId} {sz : Nat} {R : α → List Value → Prop} {v : Value} {l : List α} {g : Nat} (h : OwnL w E sz R v l (some g)) {k : Nat} {x : α} (hk : l[k]? = some x) :
    ∃ r, R x r ∧ r.length = sz ∧ ∀ (j : Nat) c, r[j]? = some c → w.cell? ⟨g, 0 + k * sz + j, none⟩ = some c := by
  obtain ⟨rows, h1, hlen, h2, h3⟩ := h.rowLen
  have hlt : k < l.length := (List.getElem?_eq_some_iff.1 hk).1
  obtain ⟨g', cap', hv, ho, hlt', hcell, _⟩ := h3.cell (by omega)
  cases ho
  have hr : rows[k]? = some (rows[k]'(by omega)) := List.getElem?_eq_getElem _
  refine ⟨_, (h2 k x _ hk hr).1, (h2 k x _ hk hr).2, fun j c hj => ?_⟩
  rw [Nat.zero_add]
  exact hcell _ _ (flatten_at rows sz k j _ c hlen hr hj)
theorem OwnL.slot {α : Type} {w : World} {E : TypeId} {sz : Nat} {R : α → List Value → Prop} {v : Value} {l : List α} {g : Nat} (h : OwnL w E sz R v l (some g)) {i t : Nat} (hi : i < l.length) (ht : t < sz) :
    (∃ u, w.cell? ⟨g, i * sz + t, none⟩ = some u) ∧ w.frozen? ⟨g, i * sz + t, none⟩ = false := by
  obtain ⟨_, _, _, h⟩ := h
  rcases h.2 with ⟨_, _, _, h, _⟩ | ⟨g', cap, cur, _, h, hh, hn, _, hc, _⟩
  · cases h
  · cases h
    refine ⟨?_, blk_free hh _⟩
    have : (i + 1) * sz ≤ cap * sz := Nat.mul_le_mul_right _ (by omega)
    rw [Nat.succ_mul] at this
    exact ⟨_, by rw [blk_cell hh]; exact Array.getElem?_eq_getElem (by omega)⟩
theorem Mod.set5 {F : Nat → Prop} {a w : World} (h : Mod F a w) {g : Nat} (hg : F g) (o0 o1 o2 o3 o4 : Nat) (v0 v1 v2 v3 v4 : Value) :
    Mod F a (((((w.setCell ⟨g, o0, none⟩ v0).setCell ⟨g, o1, none⟩ v1).setCell ⟨g, o2, none⟩ v2).setCell ⟨g, o3, none⟩ v3).setCell ⟨g, o4, none⟩ v4) :=
  ((((h.setd (p := ⟨g, o0, none⟩) (.inl hg) v0).setd (p := ⟨g, o1, none⟩) (.inl hg) v1).setd (p := ⟨g, o2, none⟩) (.inl hg) v2).setd (p := ⟨g, o3, none⟩) (.inl hg) v3).setd (p := ⟨g, o4, none⟩) (.inl hg) v4
theorem zeroEdge (w : World) : (zeroValue 79).run Tryz.prog w = .ok (.agg #[.int .i64 0, .string ByteArray.empty, .int .i64 0, .int .i64 0, .slice none 0 0]) w := by kernel_rfl

set_option maxRecDepth 100000 in
set_option maxHeartbeats 2000000 in
theorem deleteEdges (R : Nat → Prop) (v : Value) (l : List PEdge) (ob : Option Nat) (f : Nat) (c : Addr) (p : PEdge → Bool) (w : World) (hown : OwnL w 79 5 (REdge R w) v l ob) (hR : ∀ g, ob = some g → ¬ R g)
    (hp : AsksM (fun k => ob = some k) f c p w) (hb : l.length ≤ 1099511627776) :
    Calls Tryz.prog 79 #[v, .func (.func f) #[] #[.pointer (some c)]] w fun e w' =>
      ∃ v', e = .returned v' ∧ OwnL w' 79 5 (REdge R w') v' (l.filter fun x => !p x) ob ∧ Mod (fun k => ob = some k) w w' := by
  have HOWN := Lib.hid hown; have HR := Lib.hid hR; have HP := Lib.hid hp; have HB := Lib.hid hb
  have hcf := hp.1
  have hsl : EdgesR (fun b => ob = some b ∨ R b) w v l := SlR.sub (hown.toSl (S := fun b => ob = some b ∨ R b) (fun g hg => .inl hg)) (fun _ h => h) (fun x r _ hR => hR.sub (fun b hb => .inr hb))
  obtain ⟨oa, cap0, hv, hcap, hcm⟩ : ∃ oa cap, v = .slice oa l.length cap ∧ l.length ≤ cap ∧ cap ≤ maxLen := by obtain ⟨_, _, _, h⟩ := hown; exact h.isSlice
  have HSL := Lib.hid hsl
  have HI := Lib.hid (hp.asks (fun b => ob = some b ∨ R b))
  clear hown hR hp hsl hb
  subst hv
  unfold maxLen at hcm
  go_enter Tryz.func79, Tryz.ntmps79
  go_wp2_with fail
  refine (indexEdge (fun b => ob = some b ∨ R b) _ l f c p _ HSL.out HI.out).mono ?_
  rintro e w2 ⟨r, rfl, hr, hw2⟩
  rcases hr with ⟨rfl, hall⟩ | ⟨k, x0, rfl, hx, hpx, hk⟩
  · have HA := Lib.hid (show (l.filter fun x => !p x) = l from List.filter_eq_self.2 (fun x hx => by rw [hall x hx]; rfl))
    clear hall
    go_wp2
    go_ret
    refine ⟨_, rfl, ?_, Mod.of_grow hw2⟩
    rw [HA.out]
    exact HOWN.out.keep (fun g hg => hw2.heapEq (HOWN.out.lt g hg)) (fun x r _ hR => hR.mod (Mod.of_grow (F := fun _ => False) hw2) (fun _ _ => id))
  · obtain ⟨g, rfl⟩ : ∃ g, ob = some g := by
      rcases HOWN.out with ⟨_, _, _, _, ⟨_, _, h, _⟩ | ⟨g, _, _, _, h, _⟩⟩
      · rw [List.eq_nil_of_length_eq_zero h] at hx; simp at hx
      · exact ⟨g, h⟩
    have hkl : k < l.length := (List.getElem?_eq_some_iff.1 hx).1
    have hoa : oa = some ⟨g, 0, none⟩ := by
      rcases HOWN.out with ⟨_, _, _, _, ⟨_, _, _, h, _⟩ | ⟨g, _, _, h, h1, _⟩⟩
      · cases h
      · simp only [Value.slice.injEq] at h; cases h1; exact h.1
    subst hoa
    have hf0 : (l.take (k + 1)).filter (fun x => !p x) = l.take k := by
      have e : l.take (k + 1) = l.take k ++ [x0] := by rw [List.take_add_one, hx]; rfl
      rw [e, List.filter_append, List.filter_eq_self.2 (fun y hy => by rw [hk y hy]; rfl)]
      simp [hpx]
    have HF0 := Lib.hid hf0
    have HK0 := Lib.hid (show OwnL w2 79 5 (REdge R w2) (.slice (some ⟨g, 0, none⟩) l.length cap0) l (some g) from
      HOWN.out.keep (fun g hg => hw2.heapEq (HOWN.out.lt g hg)) (fun x r _ hR => hR.mod (Mod.of_grow (F := fun _ => False) hw2) (fun _ _ => id)))
    have HXX := Lib.hid hx
    have HM2 := Lib.hid (show Mod (fun k => some g = some k) w w2 from Mod.of_grow hw2)
    clear hx hpx hk hf0 hw2
    go_wp2
    go_loopg [5, 6] (l.length - (k + 1)) (fun gg vi vj wr => ∃ (di j : Nat) (mid : List PEdge), j ≤ l.length ∧ gg = l.length - j ∧ vi = .int .i64 di ∧ vj = .int .i64 j ∧ di + mid.length = j ∧ di = ((l.take j).filter fun x => !p x).length ∧ 0 < mid.length ∧
      OwnL wr 79 5 (REdge R wr) (.slice (some ⟨g, 0, none⟩) l.length cap0) (((l.take j).filter fun x => !p x) ++ mid ++ l.drop j) (some g) ∧ Mod (fun k => some g = some k) w wr)
    case atStart =>
      refine ⟨k, k + 1, [x0], by omega, by omega, rfl, by go_num, rfl, by rw [HF0.out, List.length_take]; omega, by simp, ?_, HM2.out⟩
      rw [HF0.out]
      have e : l.take k ++ [x0] ++ l.drop (k + 1) = l := by
        have e2 : l.drop k = x0 :: l.drop (k + 1) := by
          rw [List.drop_eq_getElem_cons hkl]
          congr 1
          have := HXX.out
          rw [List.getElem?_eq_getElem hkl] at this
          simpa using this
        rw [List.append_assoc, List.singleton_append, ← e2, List.take_append_drop]
      rw [e]
      exact HK0.out
    case round =>
      obtain ⟨di, j, mid, hj, rfl, rfl, rfl, hdm, hdi, hm0, hcur, hmod⟩ := hrel
      have HCUR := Lib.hid hcur; have HMOD := Lib.hid hmod; have HDI := Lib.hid hdi
      have hgb := hcur.lt g rfl
      have hlen : (((l.take j).filter fun x => !p x) ++ mid ++ l.drop j).length = l.length := by
        rw [List.length_append, List.length_append, List.length_drop, ← hdi]; omega
      by_cases hjl : j < l.length
      · have hlj : (((l.take j).filter fun x => !p x) ++ mid ++ l.drop j)[j]? = some l[j] := by
          rw [List.getElem?_append_right (by rw [List.length_append, ← hdi]; omega), List.length_append, ← hdi, hdm, Nat.sub_self, List.getElem?_drop, Nat.add_zero]
          exact List.getElem?_eq_getElem hjl
        obtain ⟨ra, hRa, -, hca⟩ := hcur.row hlj
        obtain ⟨pva, -, a0, a1, a2, a3, a4, hpa⟩ := hRa.at hgb (Grow.rfl' wr) hca
        have HT := Lib.hid (show l.take (j + 1) = l.take j ++ [l[j]] from List.take_succ_eq_append_getElem hjl)
        have HD := Lib.hid (show l.drop j = l[j] :: l.drop (j + 1) from List.drop_eq_getElem_cons hjl)
        have HLN := Lib.hid hlen
        clear hca hRa hcur hlj hmod hdi hlen
        simp only [Nat.zero_add] at a0 a1 a2 a3 a4
        generalize l[j] = x at *
        have HPA := Lib.hid hpa
        obtain ⟨pa, pc, rfl⟩ := hpa.isSlice
        clear hpa
        have hG : Grow wr (wr.alloc (.cells #[.int .i64 x.id, .string x.typ, .int .i64 x.from_, .int .i64 x.to_, .slice pa x.props.length pc] 79)) := (Grow.rfl' wr).allocd _
        have HG := Lib.hid hG
        cases hn : p x
        all_goals
          go_wp2_with fail
          refine (HP.out.2 R x _ _ (HMOD.out.step (Mod.of_grow HG.out)) (HPA.out.grow HG.out)).mono ?_
          rintro e w3 ⟨rfl, hw3⟩
          rw [hn]
        · have hg3 : Grow wr w3 := HG.out.step hw3
          have hown3 := HCUR.out.keep (R' := REdge R w3) (w' := w3) (fun g' hg' => hg3.heapEq (HCUR.out.lt g' hg')) (fun x r _ hR => hR.mod (Mod.of_grow (F := fun _ => False) hg3) (fun _ _ => id))
          have hsl : ∀ t, t < 5 → (∃ u, w3.cell? ⟨g, di * 5 + t, none⟩ = some u) ∧ w3.frozen? ⟨g, di * 5 + t, none⟩ = false := fun t ht => hown3.slot (by rw [HLN.out]; omega) ht
          obtain ⟨⟨u0, b0⟩, f0⟩ := hsl 0 (by omega)
          obtain ⟨⟨u1, b1⟩, f1⟩ := hsl 1 (by omega)
          obtain ⟨⟨u2, b2⟩, f2⟩ := hsl 2 (by omega)
          obtain ⟨⟨u3, b3⟩, f3⟩ := hsl 3 (by omega)
          obtain ⟨⟨u4, b4⟩, f4⟩ := hsl 4 (by omega)
          rw [Nat.add_zero] at b0 f0
          have hnb : w3.heap[wr.heap.size]? = some (.cells #[.int .i64 x.id, .string x.typ, .int .i64 x.from_, .int .i64 x.to_, .slice pa x.props.length pc] 79 (0, 0)) := by
            rw [hw3.heapEq (by simp)]; exact heap_alloc_new wr _
          have n0 : w3.cell? ⟨wr.heap.size, 0, none⟩ = some (.int .i64 x.id) := by rw [blk_cell hnb]; rfl
          have n1 : w3.cell? ⟨wr.heap.size, 1, none⟩ = some (.string x.typ) := by rw [blk_cell hnb]; rfl
          have n2 : w3.cell? ⟨wr.heap.size, 2, none⟩ = some (.int .i64 x.from_) := by rw [blk_cell hnb]; rfl
          have n3 : w3.cell? ⟨wr.heap.size, 3, none⟩ = some (.int .i64 x.to_) := by rw [blk_cell hnb]; rfl
          have n4 : w3.cell? ⟨wr.heap.size, 4, none⟩ = some (.slice pa x.props.length pc) := by rw [blk_cell hnb]; rfl
          have HOWN3 := Lib.hid hown3; have HG3 := Lib.hid hg3; have HPA3 := Lib.hid (HPA.out.grow (HG.out.step hw3))
          have hdl : di < l.length := by omega
          have HDM := Lib.hid hdm
          clear hown3 hg3 hsl hnb hw3
          go_wp2_with fail
          go_roundg (l.length - (j + 1))
          case measure => omega
          case rel =>
            obtain ⟨m0, mid', rfl⟩ : ∃ m0 mid', mid = m0 :: mid' := by
              cases mid with
              | nil => simp at hm0
              | cons a b => exact ⟨a, b, rfl⟩
            have hf : (l.take (j + 1)).filter (fun x => !p x) = (l.take j).filter (fun x => !p x) ++ [x] := by rw [HT.out, List.filter_append]; simp [hn]
            have hm : Mod (fun k => some g = some k) w w3 := HMOD.out.step (Mod.of_grow HG3.out)
            refine ⟨di + 1, j + 1, mid' ++ [x], by omega, rfl, by go_num, by go_num, by have := HDM.out; simp at this ⊢; omega, by rw [hf, List.length_append, ← HDI.out]; rfl, by simp, ?_, hm.set5 (g := g) rfl _ _ _ _ _ _ _ _ _ _⟩
            have hset : ((l.take j).filter (fun x => !p x) ++ (m0 :: mid') ++ l.drop j).set di x = (l.take (j + 1)).filter (fun x => !p x) ++ (mid' ++ [x]) ++ l.drop (j + 1) := by
              rw [hf, HD.out, HDI.out, List.append_assoc, List.set_append_right _ _ (Nat.le_refl _), Nat.sub_self]
              simp
            rw [← hset]
            have hk : ∀ b, R b → ¬ (fun k => some g = some k) b := fun b hb hh => HR.out b hh hb
            have hms : ∀ a b c d e, Mod (fun k => some g = some k) w3 (((((w3.setCell ⟨g, di * 5, none⟩ a).setCell ⟨g, di * 5 + 1, none⟩ b).setCell ⟨g, di * 5 + 2, none⟩ c).setCell ⟨g, di * 5 + 3, none⟩ d).setCell ⟨g, di * 5 + 4, none⟩ e) :=
              fun a b c d e => (Mod.rfl' (fun k => some g = some k) w3).set5 (g := g) rfl _ _ _ _ _ _ _ _ _ _
            exact HOWN3.out.set5 (by rw [HLN.out]; exact hdl) rfl ⟨_, rfl, HPA3.out.mod (hms _ _ _ _ _) hk⟩ (fun y r _ hR => hR.mod (hms _ _ _ _ _) hk)
        · go_wp2_with fail
          go_roundg (l.length - (j + 1))
          case measure => omega
          case rel =>
            have hg3 : Grow wr w3 := HG.out.step hw3
            have hf : (l.take (j + 1)).filter (fun x => !p x) = (l.take j).filter (fun x => !p x) := by rw [HT.out, List.filter_append]; simp [hn]
            have hown3 := HCUR.out.keep (R' := REdge R w3) (w' := w3) (fun g' hg' => hg3.heapEq (HCUR.out.lt g' hg')) (fun x r _ hR => hR.mod (Mod.of_grow (F := fun _ => False) hg3) (fun _ _ => id))
            refine ⟨di, j + 1, mid ++ [x], by omega, rfl, rfl, by go_num, by rw [List.length_append]; simp; omega, by rw [hf]; exact HDI.out, by simp, ?_, HMOD.out.step (Mod.of_grow hg3)⟩
            rw [HD.out] at hown3
            rw [hf]
            simpa using hown3
      · have hje : j = l.length := by omega
        subst hje
        have hL : OwnL wr 79 5 (REdge R wr) (.slice (some ⟨g, 0, none⟩) l.length cap0) ((l.filter fun x => !p x) ++ mid) (some g) := by
          have := hcur
          rw [List.take_length, List.drop_length, List.append_nil] at this
          exact this
        rw [List.take_length] at hdi
        have hln : ((l.filter fun x => !p x) ++ mid).length = l.length := by rw [List.length_append, ← hdi]; exact hdm
        obtain ⟨rows, hr1, hr2, hr3, hos⟩ := hL.rowLen
        obtain ⟨g', cap', w2, hv, ho, _, _, hcl, hos2, hm2⟩ := hos.clearTail (P := Tryz.prog) 66 _ Tryz.underlying66 zeroEdge rfl (by decide) di (by rw [hln]; omega)
        cases ho
        simp only [Value.slice.injEq, true_and] at hv
        obtain ⟨-, rfl⟩ := hv
        rw [hln] at hcl
        have HFIN := Lib.hid (show OwnL w2 79 5 (REdge R w2) (.slice (some ⟨g, 0, none⟩) di cap0) (l.filter fun x => !p x) (some g) by
          refine ⟨rows.take di, by rw [List.length_take, hr1, hln, ← hdi]; omega, fun k x r hk hr => ?_, ?_⟩
          · have hkd : k < di := by rw [hdi]; exact (List.getElem?_eq_some_iff.1 hk).1
            rw [List.getElem?_take, if_pos hkd] at hr
            obtain ⟨a, b⟩ := hr3 k x r (by rw [List.getElem?_append_left (by rw [← hdi]; exact hkd)]; exact hk) hr
            exact ⟨a.mod hm2 (fun b hb hh => HR.out b hh hb), b⟩
          · rw [← hdi]
            have e : (rows.take di).flatten = rows.flatten.take (di * 5) := by
              have h1 : rows.flatten = (rows.take di).flatten ++ (rows.drop di).flatten := by rw [← List.flatten_append, List.take_append_drop]
              have h2 : (rows.take di).flatten.length = di * 5 := by
                rw [flatten_len _ 5 (fun r hr => hr2 r (List.mem_of_mem_take hr)), List.length_take, hr1, hln]
                congr 1
                omega
              rw [h1, ← h2, List.take_left]
            rw [e]
            exact hos2)
        have HM := Lib.hid (show Mod (fun k => some g = some k) w w2 from HMOD.out.step hm2)
        have hc1 : ¬ cap0 = di := by omega
        have hc2 : ((di : Nat) : Int) ≤ ((l.length : Nat) : Int) := by omega
        have hc3 : ((di : Nat) : Int) ≤ ((cap0 : Nat) : Int) := by omega
        clear hL hln hr1 hr2 hr3 hos hos2 hm2 hcur hmod hdi
        go_wp2
        go_ret
        exact ⟨_, rfl, HFIN.out, HM.out⟩
end Go.Hg
