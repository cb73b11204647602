/- slices.IndexFunc, DeleteFunc at nodes whose row is one's own; graph.good: whether nodes and edges are a graph's; graph.acts: a kind's two functions. Conditions: those that each theorem names. -/
import Derived.WalkKit
import Derived.WalkSpells
import Derived.WalkLawsBesides
import Derived.Lib.Hide
import Derived.BigQuiet
import Derived.Deep.LoopGhost
import Derived.Test.YtfachjfohhhgeaaGreatRows
import Derived.Lib.SliceRun
import Derived.WideMake
import Derived.Deep.RegionLaw
import Derived.Lib.Overlaps
import Derived.Deep.RegionHeld3
import Derived.Laws.ResultCell
import Derived.Laws.EntriesVeiled
import Derived.Test.YtfachjfohhhgeaaGreatUdE
namespace Go.Hg
open Go.RowKit Go.Proofs

abbrev PNode.args (x : PNode) (pv : Value) : Value := .agg #[.int .i64 x.id, .string x.typ, pv]
def AsksN (f : Nat) (c : Addr) (p : PNode → Bool) (S : Nat → Prop) (w : World) : Prop :=
  (∀ args w, (callFunc f args).run Tryz.prog w = .ok (.enter f args) w) ∧ ∀ (x : PNode) (pv : Value) (w' : World), Grow w w' → PropsR S w' pv x.props → Calls Tryz.prog f #[x.args pv, .pointer (some c)] w' fun e w2 => e = .returned (.bool (p x)) ∧ Grow w' w2
theorem AsksN.grow {f : Nat} {c : Addr} {p : PNode → Bool} {S : Nat → Prop} {w w' : World} (h : AsksN f c p S w) (g : Grow w w') : AsksN f c p S w' := ⟨h.1, fun x pv w2 g2 hp => h.2 x pv w2 (g.step g2) hp⟩
def IdxN (l : List PNode) (p : PNode → Bool) (r : Int) : Prop :=
  (r = -1 ∧ ∀ x ∈ l, p x = false) ∨ ∃ (k : Nat) (x : PNode), r = k ∧ l[k]? = some x ∧ p x = true ∧ ∀ y ∈ l.take k, p y = false

set_option maxRecDepth 100000 in
set_option maxHeartbeats 1000000 in
theorem indexNode (S : Nat → Prop) (v : Value) (l : List PNode) (f : Nat) (c : Addr) (p : PNode → Bool) (w : World) (hl : NodesR S w v l) (hp : AsksN f c p S w) :
    Calls Tryz.prog 119 #[v, .func (.func f) #[] #[.pointer (some c)]] w fun e w' => ∃ r : Int, e = .returned (.int .i64 r) ∧ IdxN l p r ∧ Grow w w' := by
  obtain ⟨aa, ca, rfl, hal, hac, hA⟩ := SlR.open hl
  clear hl
  unfold maxLen at hac
  have HA := Lib.hid hA; clear hA
  have HP := Lib.hid hp.2; have hcf := hp.1; clear hp
  go_enter Tryz.func119, Tryz.ntmps119
  go_wp2
  go_loopg [8] l.length (fun g i wr => ∃ k : Nat, k ≤ l.length ∧ g = l.length - k ∧ i = .int .i64 k ∧ (∀ y ∈ l.take k, p y = false) ∧ Grow w wr)
  case atStart => exact ⟨0, by omega, by omega, rfl, by simp, Grow.rfl' w⟩
  case round =>
    obtain ⟨k, hk, rfl, rfl, hall, hgr⟩ := hrel
    have HALL := Lib.hid hall; clear hall
    by_cases hkl : k < l.length
    · obtain ⟨ba, oa, ra, rfl, hSa, hba, hRa, hca⟩ := HA.out k l[k] (List.getElem?_eq_getElem hkl)
      obtain ⟨pva, hba', a0, a1, a2, hpa⟩ := hRa.at hba hgr hca
      clear hca hRa hSa hba
      have HE := Lib.hid (show l[k]? = some l[k] from List.getElem?_eq_getElem hkl)
      have HT := Lib.hid (show l.take (k + 1) = l.take k ++ [l[k]] from List.take_succ_eq_append_getElem hkl)
      generalize l[k] = x at *
      have HPA := Lib.hid hpa
      obtain ⟨_, _, rfl⟩ := hpa.isSlice
      clear hpa
      cases hn : p x
      all_goals
        go_wp2_with fail
        refine (HP.out x _ _ hgr HPA.out).mono ?_
        rintro e w2 ⟨rfl, hw2⟩
        rw [hn]
        go_wp2
      · go_roundg (l.length - (k + 1))
        case measure => omega
        case rel => exact ⟨k + 1, by omega, rfl, by go_num, by rw [HT.out]; intro y hy; rcases List.mem_append.1 hy with h | h; exact HALL.out y h; simp at h; subst h; exact hn, hgr.step hw2⟩
      · go_ret
        exact ⟨_, rfl, .inr ⟨k, x, rfl, HE.out, hn, HALL.out⟩, hgr.step hw2⟩
    · have HX := Lib.hid (show l.take k = l from List.take_of_length_le (by omega))
      go_wp2
      go_ret
      exact ⟨_, rfl, .inl ⟨rfl, by rw [← HX.out]; exact HALL.out⟩, hgr⟩

def AsksMN (F : Nat → Prop) (f : Nat) (c : Addr) (p : PNode → Bool) (w : World) : Prop :=
  (∀ args w, (callFunc f args).run Tryz.prog w = .ok (.enter f args) w) ∧ ∀ (S : Nat → Prop) (x : PNode) (pv : Value) (w' : World), Mod F w w' → PropsR S w' pv x.props → Calls Tryz.prog f #[x.args pv, .pointer (some c)] w' fun e w2 => e = .returned (.bool (p x)) ∧ Grow w' w2
theorem AsksMN.asks {F : Nat → Prop} {f : Nat} {c : Addr} {p : PNode → Bool} {w : World} (h : AsksMN F f c p w) (S : Nat → Prop) : AsksN f c p S w :=
  ⟨h.1, fun x pv w' g hp => h.2 S x pv w' (Mod.of_grow g) hp⟩

theorem flatten_set3 : ∀ (rows : List (List Value)) (k : Nat) (a b c : Value), (∀ r ∈ rows, r.length = 3) → k < rows.length →
    (((rows.flatten.set (k * 3) a).set (k * 3 + 1) b).set (k * 3 + 2) c) = (rows.set k [a, b, c]).flatten
  | [], k, a, b, c, _, h => by simp at h
  | r :: rows, 0, a, b, c, h0, _ => by
    have h1 := h0 r (by simp)
    match r, h1 with
    | [r0, r1, r2], _ => simp
  | r :: rows, k + 1, a, b, c, h0, h => by
    have h1 := h0 r (by simp)
    have ih := flatten_set3 rows k a b c (fun r hr => h0 r (by simp [hr])) (by simpa using h)
    match r, h1 with
    | [r0, r1, r2], _ =>
      have q : (k + 1) * 3 = k * 3 + 3 := by omega
      have q1 : k * 3 + 3 + 1 = (k * 3 + 1) + 3 := by omega
      have q2 : k * 3 + 3 + 2 = (k * 3 + 2) + 3 := by omega
      rw [q, q1, q2]
      simp only [List.flatten_cons, List.set_cons_succ, List.cons_append, List.nil_append]
      rw [ih]

theorem OwnL.set3 {α : Type} {w w' : World} {E : TypeId} {R R' : α → List Value → Prop} {v : Value} {l : List α} {g k : Nat} {x : α} {a b c : Value} (h : OwnL w E 3 R v l (some g)) (hk : k < l.length)
    (hw : w' = (((w.setCell ⟨g, k * 3, none⟩ a).setCell ⟨g, k * 3 + 1, none⟩ b).setCell ⟨g, k * 3 + 2, none⟩ c))
    (hx : R' x [a, b, c]) (hR : ∀ x r, x ∈ l → R x r → R' x r) : OwnL w' E 3 R' v (l.set k x) (some g) := by
  obtain ⟨rows, h1, hlen, h2, h3⟩ := h.rowLen
  refine ⟨rows.set k [a, b, c], by simp [h1], fun j y r hj hr => ?_, ?_⟩
  · rw [List.getElem?_set] at hj hr
    by_cases hjk : k = j
    · subst hjk
      rw [if_pos rfl] at hj hr
      rw [if_pos hk] at hj
      rw [if_pos (by omega)] at hr
      cases hj; cases hr
      exact ⟨hx, rfl⟩
    · rw [if_neg hjk] at hj hr
      obtain ⟨p, q⟩ := h2 j y r hj hr
      exact ⟨hR _ _ (List.mem_of_getElem? hj) p, q⟩
  · rw [← flatten_set3 rows k a b c hlen (by omega), hw, List.length_set]
    exact ((h3.stored rfl _ _).stored rfl _ _).stored rfl _ _
theorem Mod.set3 {F : Nat → Prop} {a w : World} (h : Mod F a w) {g : Nat} (hg : F g) (o0 o1 o2 : Nat) (v0 v1 v2 : Value) :
    Mod F a (((w.setCell ⟨g, o0, none⟩ v0).setCell ⟨g, o1, none⟩ v1).setCell ⟨g, o2, none⟩ v2) :=
  ((h.setd (p := ⟨g, o0, none⟩) (.inl hg) v0).setd (p := ⟨g, o1, none⟩) (.inl hg) v1).setd (p := ⟨g, o2, none⟩) (.inl hg) v2
theorem zeroNode (w : World) : (zeroValue 89).run Tryz.prog w = .ok (.agg #[.int .i64 0, .string ByteArray.empty, .slice none 0 0]) w := by kernel_rfl

set_option maxRecDepth 100000 in
set_option maxHeartbeats 2000000 in
theorem deleteNodes (R : Nat → Prop) (v : Value) (l : List PNode) (ob : Option Nat) (f : Nat) (c : Addr) (p : PNode → Bool) (w : World) (hown : OwnL w 89 3 (RNode R w) v l ob) (hR : ∀ g, ob = some g → ¬ R g)
    (hp : AsksMN (fun k => ob = some k) f c p w) (hb : l.length ≤ 1099511627776) :
    Calls Tryz.prog 92 #[v, .func (.func f) #[] #[.pointer (some c)]] w fun e w' =>
      ∃ v', e = .returned v' ∧ OwnL w' 89 3 (RNode R w') v' (l.filter fun x => !p x) ob ∧ Mod (fun k => ob = some k) w w' := by
  have HOWN := Lib.hid hown; have HR := Lib.hid hR; have HP := Lib.hid hp; have HB := Lib.hid hb
  have hcf := hp.1
  have hsl : NodesR (fun b => ob = some b ∨ R b) w v l := SlR.sub (hown.toSl (S := fun b => ob = some b ∨ R b) (fun g hg => .inl hg)) (fun _ h => h) (fun x r _ hR => hR.sub (fun b hb => .inr hb))
  obtain ⟨oa, cap0, hv, hcap, hcm⟩ : ∃ oa cap, v = .slice oa l.length cap ∧ l.length ≤ cap ∧ cap ≤ maxLen := by obtain ⟨_, _, _, h⟩ := hown; exact h.isSlice
  have HSL := Lib.hid hsl
  have HI := Lib.hid (hp.asks (fun b => ob = some b ∨ R b))
  clear hown hR hp hsl hb
  subst hv
  unfold maxLen at hcm
  go_enter Tryz.func92, Tryz.ntmps92
  go_wp2_with fail
  refine (indexNode (fun b => ob = some b ∨ R b) _ l f c p _ HSL.out HI.out).mono ?_
  rintro e w2 ⟨r, rfl, hr, hw2⟩
  rcases hr with ⟨rfl, hall⟩ | ⟨k, x0, rfl, hx, hpx, hk⟩
  · have HA := Lib.hid (show (l.filter fun x => !p x) = l from List.filter_eq_self.2 (fun x hx => by rw [hall x hx]; rfl))
    clear hall
    go_wp2
    go_ret
    refine ⟨_, rfl, ?_, Mod.of_grow hw2⟩
    rw [HA.out]
    exact HOWN.out.keep (fun g hg => hw2.heapEq (HOWN.out.lt g hg)) (fun x r _ hR => hR.mod (Mod.of_grow (F := fun _ => False) hw2) (fun _ _ => id))
  · obtain ⟨g, rfl⟩ : ∃ g, ob = some g := by
      rcases HOWN.out with ⟨_, _, _, _, ⟨_, _, h, _⟩ | ⟨g, _, _, _, h, _⟩⟩
      · rw [List.eq_nil_of_length_eq_zero h] at hx; simp at hx
      · exact ⟨g, h⟩
    have hkl : k < l.length := (List.getElem?_eq_some_iff.1 hx).1
    have hoa : oa = some ⟨g, 0, none⟩ := by
      rcases HOWN.out with ⟨_, _, _, _, ⟨_, _, _, h, _⟩ | ⟨g, _, _, h, h1, _⟩⟩
      · cases h
      · simp only [Value.slice.injEq] at h; cases h1; exact h.1
    subst hoa
    have hf0 : (l.take (k + 1)).filter (fun x => !p x) = l.take k := by
      have e : l.take (k + 1) = l.take k ++ [x0] := by rw [List.take_add_one, hx]; rfl
      rw [e, List.filter_append, List.filter_eq_self.2 (fun y hy => by rw [hk y hy]; rfl)]
      simp [hpx]
    have HF0 := Lib.hid hf0
    have HK0 := Lib.hid (show OwnL w2 89 3 (RNode R w2) (.slice (some ⟨g, 0, none⟩) l.length cap0) l (some g) from
      HOWN.out.keep (fun g hg => hw2.heapEq (HOWN.out.lt g hg)) (fun x r _ hR => hR.mod (Mod.of_grow (F := fun _ => False) hw2) (fun _ _ => id)))
    have HXX := Lib.hid hx
    have HM2 := Lib.hid (show Mod (fun k => some g = some k) w w2 from Mod.of_grow hw2)
    clear hx hpx hk hf0 hw2
    go_wp2
    go_loopg [5, 6] (l.length - (k + 1)) (fun gg vi vj wr => ∃ (di j : Nat) (mid : List PNode), j ≤ l.length ∧ gg = l.length - j ∧ vi = .int .i64 di ∧ vj = .int .i64 j ∧ di + mid.length = j ∧ di = ((l.take j).filter fun x => !p x).length ∧ 0 < mid.length ∧
      OwnL wr 89 3 (RNode R wr) (.slice (some ⟨g, 0, none⟩) l.length cap0) (((l.take j).filter fun x => !p x) ++ mid ++ l.drop j) (some g) ∧ Mod (fun k => some g = some k) w wr)
    case atStart =>
      refine ⟨k, k + 1, [x0], by omega, by omega, rfl, by go_num, rfl, by rw [HF0.out, List.length_take]; omega, by simp, ?_, HM2.out⟩
      rw [HF0.out]
      have e : l.take k ++ [x0] ++ l.drop (k + 1) = l := by
        have e2 : l.drop k = x0 :: l.drop (k + 1) := by
          rw [List.drop_eq_getElem_cons hkl]
          congr 1
          have := HXX.out
          rw [List.getElem?_eq_getElem hkl] at this
          simpa using this
        rw [List.append_assoc, List.singleton_append, ← e2, List.take_append_drop]
      rw [e]
      exact HK0.out
    case round =>
      obtain ⟨di, j, mid, hj, rfl, rfl, rfl, hdm, hdi, hm0, hcur, hmod⟩ := hrel
      have HCUR := Lib.hid hcur; have HMOD := Lib.hid hmod; have HDI := Lib.hid hdi
      have hgb := hcur.lt g rfl
      have hlen : (((l.take j).filter fun x => !p x) ++ mid ++ l.drop j).length = l.length := by
        rw [List.length_append, List.length_append, List.length_drop, ← hdi]; omega
      by_cases hjl : j < l.length
      · have hlj : (((l.take j).filter fun x => !p x) ++ mid ++ l.drop j)[j]? = some l[j] := by
          rw [List.getElem?_append_right (by rw [List.length_append, ← hdi]; omega), List.length_append, ← hdi, hdm, Nat.sub_self, List.getElem?_drop, Nat.add_zero]
          exact List.getElem?_eq_getElem hjl
        obtain ⟨ra, hRa, -, hca⟩ := hcur.row hlj
        obtain ⟨pva, -, a0, a1, a2, hpa⟩ := hRa.at hgb (Grow.rfl' wr) hca
        have HT := Lib.hid (show l.take (j + 1) = l.take j ++ [l[j]] from List.take_succ_eq_append_getElem hjl)
        have HD := Lib.hid (show l.drop j = l[j] :: l.drop (j + 1) from List.drop_eq_getElem_cons hjl)
        have HLN := Lib.hid hlen
        clear hca hRa hcur hlj hmod hdi hlen
        simp only [Nat.zero_add] at a0 a1 a2
        generalize l[j] = x at *
        have HPA := Lib.hid hpa
        obtain ⟨pa, pc, rfl⟩ := hpa.isSlice
        clear hpa
        have hG : Grow wr (wr.alloc (.cells #[.int .i64 x.id, .string x.typ, .slice pa x.props.length pc] 89)) := (Grow.rfl' wr).allocd _
        have HG := Lib.hid hG
        cases hn : p x
        all_goals
          go_wp2_with fail
          refine (HP.out.2 R x _ _ (HMOD.out.step (Mod.of_grow HG.out)) (HPA.out.grow HG.out)).mono ?_
          rintro e w3 ⟨rfl, hw3⟩
          rw [hn]
        · have hg3 : Grow wr w3 := HG.out.step hw3
          have hown3 := HCUR.out.keep (R' := RNode R w3) (w' := w3) (fun g' hg' => hg3.heapEq (HCUR.out.lt g' hg')) (fun x r _ hR => hR.mod (Mod.of_grow (F := fun _ => False) hg3) (fun _ _ => id))
          have hsl : ∀ t, t < 3 → (∃ u, w3.cell? ⟨g, di * 3 + t, none⟩ = some u) ∧ w3.frozen? ⟨g, di * 3 + t, none⟩ = false := fun t ht => hown3.slot (by rw [HLN.out]; omega) ht
          obtain ⟨⟨u0, b0⟩, f0⟩ := hsl 0 (by omega)
          obtain ⟨⟨u1, b1⟩, f1⟩ := hsl 1 (by omega)
          obtain ⟨⟨u2, b2⟩, f2⟩ := hsl 2 (by omega)
          rw [Nat.add_zero] at b0 f0
          have hnb : w3.heap[wr.heap.size]? = some (.cells #[.int .i64 x.id, .string x.typ, .slice pa x.props.length pc] 89 (0, 0)) := by
            rw [hw3.heapEq (by simp)]; exact heap_alloc_new wr _
          have n0 : w3.cell? ⟨wr.heap.size, 0, none⟩ = some (.int .i64 x.id) := by rw [blk_cell hnb]; rfl
          have n1 : w3.cell? ⟨wr.heap.size, 1, none⟩ = some (.string x.typ) := by rw [blk_cell hnb]; rfl
          have n2 : w3.cell? ⟨wr.heap.size, 2, none⟩ = some (.slice pa x.props.length pc) := by rw [blk_cell hnb]; rfl
          have HOWN3 := Lib.hid hown3; have HG3 := Lib.hid hg3; have HPA3 := Lib.hid (HPA.out.grow (HG.out.step hw3))
          have hdl : di < l.length := by omega
          have HDM := Lib.hid hdm
          clear hown3 hg3 hsl hnb hw3
          go_wp2_with fail
          go_roundg (l.length - (j + 1))
          case measure => omega
          case rel =>
            obtain ⟨m0, mid', rfl⟩ : ∃ m0 mid', mid = m0 :: mid' := by
              cases mid with
              | nil => simp at hm0
              | cons a b => exact ⟨a, b, rfl⟩
            have hf : (l.take (j + 1)).filter (fun x => !p x) = (l.take j).filter (fun x => !p x) ++ [x] := by rw [HT.out, List.filter_append]; simp [hn]
            have hm : Mod (fun k => some g = some k) w w3 := HMOD.out.step (Mod.of_grow HG3.out)
            refine ⟨di + 1, j + 1, mid' ++ [x], by omega, rfl, by go_num, by go_num, by have := HDM.out; simp at this ⊢; omega, by rw [hf, List.length_append, ← HDI.out]; rfl, by simp, ?_, hm.set3 (g := g) rfl _ _ _ _ _ _⟩
            have hset : ((l.take j).filter (fun x => !p x) ++ (m0 :: mid') ++ l.drop j).set di x = (l.take (j + 1)).filter (fun x => !p x) ++ (mid' ++ [x]) ++ l.drop (j + 1) := by
              rw [hf, HD.out, HDI.out, List.append_assoc, List.set_append_right _ _ (Nat.le_refl _), Nat.sub_self]
              simp
            rw [← hset]
            have hk : ∀ b, R b → ¬ (fun k => some g = some k) b := fun b hb hh => HR.out b hh hb
            have hms : ∀ a b c, Mod (fun k => some g = some k) w3 (((w3.setCell ⟨g, di * 3, none⟩ a).setCell ⟨g, di * 3 + 1, none⟩ b).setCell ⟨g, di * 3 + 2, none⟩ c) :=
              fun a b c => (Mod.rfl' (fun k => some g = some k) w3).set3 (g := g) rfl _ _ _ _ _ _
            exact HOWN3.out.set3 (by rw [HLN.out]; exact hdl) rfl ⟨_, rfl, HPA3.out.mod (hms _ _ _) hk⟩ (fun y r _ hR => hR.mod (hms _ _ _) hk)
        · go_wp2_with fail
          go_roundg (l.length - (j + 1))
          case measure => omega
          case rel =>
            have hg3 : Grow wr w3 := HG.out.step hw3
            have hf : (l.take (j + 1)).filter (fun x => !p x) = (l.take j).filter (fun x => !p x) := by rw [HT.out, List.filter_append]; simp [hn]
            have hown3 := HCUR.out.keep (R' := RNode R w3) (w' := w3) (fun g' hg' => hg3.heapEq (HCUR.out.lt g' hg')) (fun x r _ hR => hR.mod (Mod.of_grow (F := fun _ => False) hg3) (fun _ _ => id))
            refine ⟨di, j + 1, mid ++ [x], by omega, rfl, rfl, by go_num, by rw [List.length_append]; simp; omega, by rw [hf]; exact HDI.out, by simp, ?_, HMOD.out.step (Mod.of_grow hg3)⟩
            rw [HD.out] at hown3
            rw [hf]
            simpa using hown3
      · have hje : j = l.length := by omega
        subst hje
        have hL : OwnL wr 89 3 (RNode R wr) (.slice (some ⟨g, 0, none⟩) l.length cap0) ((l.filter fun x => !p x) ++ mid) (some g) := by
          have := hcur
          rw [List.take_length, List.drop_length, List.append_nil] at this
          exact this
        rw [List.take_length] at hdi
        have hln : ((l.filter fun x => !p x) ++ mid).length = l.length := by rw [List.length_append, ← hdi]; exact hdm
        obtain ⟨rows, hr1, hr2, hr3, hos⟩ := hL.rowLen
        obtain ⟨g', cap', w2, hv, ho, _, _, hcl, hos2, hm2⟩ := hos.clearTail (P := Tryz.prog) 59 _ Tryz.underlying59 zeroNode rfl (by decide) di (by rw [hln]; omega)
        cases ho
        simp only [Value.slice.injEq, true_and] at hv
        obtain ⟨-, rfl⟩ := hv
        rw [hln] at hcl
        have HFIN := Lib.hid (show OwnL w2 89 3 (RNode R w2) (.slice (some ⟨g, 0, none⟩) di cap0) (l.filter fun x => !p x) (some g) by
          refine ⟨rows.take di, by rw [List.length_take, hr1, hln, ← hdi]; omega, fun k x r hk hr => ?_, ?_⟩
          · have hkd : k < di := by rw [hdi]; exact (List.getElem?_eq_some_iff.1 hk).1
            rw [List.getElem?_take, if_pos hkd] at hr
            obtain ⟨a, b⟩ := hr3 k x r (by rw [List.getElem?_append_left (by rw [← hdi]; exact hkd)]; exact hk) hr
            exact ⟨a.mod hm2 (fun b hb hh => HR.out b hh hb), b⟩
          · rw [← hdi]
            have e : (rows.take di).flatten = rows.flatten.take (di * 3) := by
              have h1 : rows.flatten = (rows.take di).flatten ++ (rows.drop di).flatten := by rw [← List.flatten_append, List.take_append_drop]
              have h2 : (rows.take di).flatten.length = di * 3 := by
                rw [flatten_len _ 3 (fun r hr => hr2 r (List.mem_of_mem_take hr)), List.length_take, hr1, hln]
                congr 1
                omega
              rw [h1, ← h2, List.take_left]
            rw [e]
            exact hos2)
        have HM := Lib.hid (show Mod (fun k => some g = some k) w w2 from HMOD.out.step hm2)
        have hc1 : ¬ cap0 = di := by omega
        have hc2 : ((di : Nat) : Int) ≤ ((l.length : Nat) : Int) := by omega
        have hc3 : ((di : Nat) : Int) ≤ ((cap0 : Nat) : Int) := by omega
        clear hL hln hr1 hr2 hr3 hos hos2 hm2 hcur hmod hdi
        go_wp2
        go_ret
        exact ⟨_, rfl, HFIN.out, HM.out⟩
end Go.Hg

namespace Go.Hg
open Go.RowKit Go.Proofs

noncomputable def goodNs (next : Int) : Int → List PNode → Bool
  | _, [] => true
  | last, x :: t => !decide (x.id ≤ last) && (!decide (next ≤ x.id) && (decide (NameOk x.typ) && (propsB x.props && goodNs next x.id t)))
noncomputable def goodEs (G : PGraph) : Int → List PEdge → Bool
  | _, [] => true
  | last, x :: t => !decide (x.id ≤ last) && (!decide (G.next ≤ x.id) && (!hasN G x.id && (hasN G x.from_ && (hasN G x.to_ && (decide (NameOk x.typ) && (propsB x.props && goodEs G x.id t))))))
def sizeOkG (G : PGraph) : Bool := !decide (G.next < 1) && (!decide (4611686018427387904 < G.next) && !decide (1024 < G.nodes.length + G.edges.length))
noncomputable def goodG (G : PGraph) : Bool := sizeOkG G && (goodNs G.next 0 G.nodes && goodEs G 0 G.edges)

theorem goodNs_all {next : Int} : ∀ {l : List PNode} {last : Int}, goodNs next last l = true → (l.map (·.id)).Pairwise (· < ·) ∧ ∀ x ∈ l, last < x.id ∧ x.id < next ∧ NameOk x.typ ∧ PropsOk x.props
  | [], _, _ => ⟨by simp, by simp⟩
  | x :: t, last, h => by
    unfold goodNs at h
    simp only [Bool.and_eq_true, Bool.not_eq_true', decide_eq_false_iff_not, decide_eq_true_eq, propsB_iff] at h
    obtain ⟨h1, h2, h3, h4, h5⟩ := h
    obtain ⟨ih1, ih2⟩ := goodNs_all h5
    refine ⟨?_, ?_⟩
    · rw [List.map_cons, List.pairwise_cons]
      exact ⟨fun y hy => by obtain ⟨z, hz, rfl⟩ := List.mem_map.1 hy; exact (ih2 z hz).1, ih1⟩
    · intro y hy
      rcases List.mem_cons.1 hy with rfl | hy
      · exact ⟨by omega, by omega, h3, h4⟩
      · have := ih2 y hy
        exact ⟨by omega, this.2⟩
theorem goodEs_all {G : PGraph} : ∀ {l : List PEdge} {last : Int}, goodEs G last l = true → (l.map (·.id)).Pairwise (· < ·) ∧ ∀ x ∈ l, last < x.id ∧ x.id < G.next ∧ hasN G x.id = false ∧ hasN G x.from_ = true ∧ hasN G x.to_ = true ∧ NameOk x.typ ∧ PropsOk x.props
  | [], _, _ => ⟨by simp, by simp⟩
  | x :: t, last, h => by
    unfold goodEs at h
    simp only [Bool.and_eq_true, Bool.not_eq_true', decide_eq_false_iff_not, decide_eq_true_eq, propsB_iff] at h
    obtain ⟨h1, h2, h3, h4, h5, h6, h7, h8⟩ := h
    obtain ⟨ih1, ih2⟩ := goodEs_all h8
    refine ⟨?_, ?_⟩
    · rw [List.map_cons, List.pairwise_cons]
      exact ⟨fun y hy => by obtain ⟨z, hz, rfl⟩ := List.mem_map.1 hy; exact (ih2 z hz).1, ih1⟩
    · intro y hy
      rcases List.mem_cons.1 hy with rfl | hy
      · exact ⟨by omega, by omega, h3, h4, h5, h6, h7⟩
      · have := ih2 y hy
        exact ⟨by omega, this.2⟩
theorem goodG_inv {G : PGraph} (h : goodG G = true) : GInv G := by
  unfold goodG sizeOkG at h
  simp only [Bool.and_eq_true, Bool.not_eq_true', decide_eq_false_iff_not] at h
  obtain ⟨⟨h1, h2, h3⟩, h4, h5⟩ := h
  obtain ⟨n1, n2⟩ := goodNs_all h4
  obtain ⟨e1, e2⟩ := goodEs_all h5
  refine ⟨by omega, by omega, by omega, n1, e1, fun x hx => ?_, fun x hx => ?_⟩
  · have := n2 x hx
    exact ⟨by omega, this.2.1, this.2.2.2.1⟩
  · have := e2 x hx
    exact ⟨by omega, this.2.1, this.2.2.2.2.2.2.1⟩

set_option maxRecDepth 100000 in
set_option maxHeartbeats 4000000 in
theorem graphGood (S : Nat → Prop) (B : Nat) (G : PGraph) (w : World) (h : GraphRd 101 S w B G) (hn40 : G.nodes.length ≤ 1099511627776) (he40 : G.edges.length ≤ 1099511627776) :
    Calls Tryz.prog 121 #[.pointer (some ⟨B, 0, none⟩)] w fun e w' => e = .returned (.bool (goodG G)) ∧ Grow w w' := by
  have HGR := Lib.hid h; have HN40 := Lib.hid hn40; have HE40 := Lib.hid he40
  obtain ⟨na, nc, ea, ec, hB, g0, g1, g2, hn, he⟩ := h.read
  obtain ⟨_, _, hv, hnl, hnc, hAN⟩ := SlR.open hn
  simp only [Value.slice.injEq, true_and] at hv
  obtain ⟨rfl, rfl⟩ := hv
  obtain ⟨_, _, hv, hel, hec, hAE⟩ := SlR.open he
  simp only [Value.slice.injEq, true_and] at hv
  obtain ⟨rfl, rfl⟩ := hv
  unfold maxLen at hnc hec
  have HAN := Lib.hid hAN; have HAE := Lib.hid hAE
  clear h hn he hAN hAE
  have hsum : IntKind.i64.wrap ((G.nodes.length : Int) + (G.edges.length : Int)) = (G.nodes.length : Int) + (G.edges.length : Int) := by rw [IntKind.wrap_i64]; omega
  have hd3 : decide ((1024 : Int) < (G.nodes.length : Int) + (G.edges.length : Int)) = decide (1024 < G.nodes.length + G.edges.length) := by
    by_cases h : 1024 < G.nodes.length + G.edges.length <;> simp [h] <;> omega
  clear hn40 he40
  cases q1 : decide (G.next < 1)
  rotate_left 1
  · have HX := Lib.hid (show goodG G = false by unfold goodG sizeOkG; rw [q1]; rfl)
    go_enter Tryz.func121, Tryz.ntmps121
    go_wp2_with fail
    refine wp_region_grow (by kernel_rfl) (by kernel_rfl) ?_
    repeat (go_big_quiet_step (fail))
    refine wpQuiet_nil ?_
    intro w2 hw2
    go_wp2
    go_ret
    exact ⟨by rw [HX.out]; rfl, hw2⟩
  cases q2 : decide (4611686018427387904 < G.next)
  rotate_left 1
  · have HX := Lib.hid (show goodG G = false by unfold goodG sizeOkG; rw [q1, q2]; rfl)
    go_enter Tryz.func121, Tryz.ntmps121
    go_wp2_with fail
    refine wp_region_grow (by kernel_rfl) (by kernel_rfl) ?_
    repeat (go_big_quiet_step (fail))
    refine wpQuiet_nil ?_
    intro w2 hw2
    go_wp2
    go_ret
    exact ⟨by rw [HX.out]; rfl, hw2⟩
  cases q3 : decide (1024 < G.nodes.length + G.edges.length)
  rotate_left 1
  · have HX := Lib.hid (show goodG G = false by unfold goodG sizeOkG; rw [q1, q2, q3]; rfl)
    rw [q3] at hd3
    go_enter Tryz.func121, Tryz.ntmps121
    go_wp2_with fail
    refine wp_region_grow (by kernel_rfl) (by kernel_rfl) ?_
    repeat (go_big_quiet_step (fail))
    refine wpQuiet_nil ?_
    intro w2 hw2
    go_wp2
    go_ret
    exact ⟨by rw [HX.out]; rfl, hw2⟩
  rw [q3] at hd3
  have HTOP := Lib.hid (show goodG G = (goodNs G.next 0 G.nodes && goodEs G 0 G.edges) by unfold goodG sizeOkG; rw [q1, q2, q3]; rfl)
  go_enter Tryz.func121, Tryz.ntmps121
  go_wp2_with fail
  refine wp_region_grow (by kernel_rfl) (by kernel_rfl) ?_
  repeat (go_big_quiet_step (fail))
  refine wpQuiet_nil ?_
  intro w1 hw1
  have hB1 : B < w1.heap.size := Nat.lt_of_lt_of_le hB hw1.size
  have k0 := (hw1.cell (p := ⟨B, 0, none⟩) hB).trans g0
  have k1 := (hw1.cell (p := ⟨B, 1, none⟩) hB).trans g1
  have k2 := (hw1.cell (p := ⟨B, 2, none⟩) hB).trans g2
  have HW1 := Lib.hid hw1
  have G2H := Lib.hid g2; have G1H := Lib.hid g1
  clear q1 q2 q3 hd3 hsum g0 g1 g2 hw1
  go_wp2
  go_loopg [3, 45] G.nodes.length (fun g vl i wr => ∃ (k : Nat) (last : Int), k ≤ G.nodes.length ∧ g = G.nodes.length - k ∧ vl = .int .i64 last ∧ i = .int .i64 k ∧ goodNs G.next 0 G.nodes = goodNs G.next last (G.nodes.drop k) ∧ Grow w wr)
  case atStart => exact ⟨0, 0, by omega, by omega, rfl, rfl, rfl, HW1.out⟩
  case round =>
    obtain ⟨k, last, hk, rfl, rfl, rfl, hgd, hgr⟩ := hrel
    have HGD := Lib.hid hgd; have HGW := Lib.hid hgr
    have hBr : B < wr.heap.size := Nat.lt_of_lt_of_le hB hgr.size
    by_cases hkl : k < G.nodes.length
    · obtain ⟨ba, oa, ra, rfl, hSa, hba, hRa, hca⟩ := HAN.out k G.nodes[k] (List.getElem?_eq_getElem hkl)
      obtain ⟨pva, hba', a0, a1, a2, hpa⟩ := hRa.at hba hgr hca
      have HPA := Lib.hid hpa
      obtain ⟨pa, pc, rfl⟩ := hpa.isSlice
      have HD := Lib.hid (show G.nodes.drop k = G.nodes[k] :: G.nodes.drop (k + 1) from List.drop_eq_getElem_cons hkl)
      have r2 := (hgr.cell (p := ⟨B, 2, none⟩) hB).trans G2H.out
      clear hca hRa hSa hba hgr hpa hgd
      generalize G.nodes[k] = x at *
      have HAG := Lib.hid (show Grow wr (wr.alloc (.cells #[.int .i64 x.id, .string x.typ, .slice pa x.props.length pc] 89)) from (Grow.rfl' wr).allocd _)
      have HUN := Lib.hid (show goodNs G.next 0 G.nodes = (!decide (x.id ≤ last) && (!decide (G.next ≤ x.id) && (decide (NameOk x.typ) && (propsB x.props && goodNs G.next x.id (G.nodes.drop (k + 1)))))) by rw [HGD.out, HD.out]; rfl)
      cases c0 : decide (x.id ≤ last)
      rotate_left 1
      · have HX := Lib.hid (show goodG G = false by rw [HTOP.out, HUN.out, c0]; rfl)
        go_wp2_with fail
        refine wp_region_grow (by kernel_rfl) (by kernel_rfl) ?_
        repeat (go_big_quiet_step (first | exact calls_gr ((valName x.typ _).mono fun e w' ⟨he, hw⟩ => ⟨he, by subst hw; exact Grow.rfl' _⟩) | exact calls_gr (valPropsOk S _ x.props _ (HPA.out.grow (by first | exact HAG.out.step (Gr.h _) | assumption)))))
        refine wpQuiet_nil ?_
        intro w2 hw2
        go_wp2
        go_ret
        exact ⟨by rw [HX.out]; rfl, (HGW.out.step HAG.out).step hw2⟩
      cases c1 : decide (G.next ≤ x.id)
      rotate_left 1
      · have HX := Lib.hid (show goodG G = false by rw [HTOP.out, HUN.out, c0, c1]; rfl)
        go_wp2_with fail
        refine wp_region_grow (by kernel_rfl) (by kernel_rfl) ?_
        repeat (go_big_quiet_step (first | exact calls_gr ((valName x.typ _).mono fun e w' ⟨he, hw⟩ => ⟨he, by subst hw; exact Grow.rfl' _⟩) | exact calls_gr (valPropsOk S _ x.props _ (HPA.out.grow (by first | exact HAG.out.step (Gr.h _) | assumption)))))
        refine wpQuiet_nil ?_
        intro w2 hw2
        go_wp2
        go_ret
        exact ⟨by rw [HX.out]; rfl, (HGW.out.step HAG.out).step hw2⟩
      cases c2 : decide (NameOk x.typ)
      · have HX := Lib.hid (show goodG G = false by rw [HTOP.out, HUN.out, c0, c1, c2]; rfl)
        go_wp2_with fail
        refine wp_region_grow (by kernel_rfl) (by kernel_rfl) ?_
        repeat (go_big_quiet_step (first | exact calls_gr ((valName x.typ _).mono fun e w' ⟨he, hw⟩ => ⟨he, by subst hw; exact Grow.rfl' _⟩) | exact calls_gr (valPropsOk S _ x.props _ (HPA.out.grow (by first | exact HAG.out.step (Gr.h _) | assumption)))))
        refine wpQuiet_nil ?_
        intro w2 hw2
        go_wp2
        go_ret
        exact ⟨by rw [HX.out]; rfl, (HGW.out.step HAG.out).step hw2⟩
      cases c3 : propsB x.props
      · have HX := Lib.hid (show goodG G = false by rw [HTOP.out, HUN.out, c0, c1, c2, c3]; rfl)
        go_wp2_with fail
        refine wp_region_grow (by kernel_rfl) (by kernel_rfl) ?_
        repeat (go_big_quiet_step (first | exact calls_gr ((valName x.typ _).mono fun e w' ⟨he, hw⟩ => ⟨he, by subst hw; exact Grow.rfl' _⟩) | exact calls_gr (valPropsOk S _ x.props _ (HPA.out.grow (by first | exact HAG.out.step (Gr.h _) | assumption)))))
        refine wpQuiet_nil ?_
        intro w2 hw2
        go_wp2
        go_ret
        exact ⟨by rw [HX.out]; rfl, (HGW.out.step HAG.out).step hw2⟩
      have HNX := Lib.hid (show goodNs G.next 0 G.nodes = goodNs G.next x.id (G.nodes.drop (k + 1)) by rw [HUN.out, c0, c1, c2, c3]; rfl)
      go_wp2_with fail
      refine wp_region_grow (by kernel_rfl) (by kernel_rfl) ?_
      repeat (go_big_quiet_step (first | exact calls_gr ((valName x.typ _).mono fun e w' ⟨he, hw⟩ => ⟨he, by subst hw; exact Grow.rfl' _⟩) | exact calls_gr (valPropsOk S _ x.props _ (HPA.out.grow (by first | exact HAG.out.step (Gr.h _) | assumption)))))
      refine wpQuiet_nil ?_
      intro w2 hw2
      have b0 : w2.cell? ⟨wr.heap.size, 0, none⟩ = some (.int .i64 x.id) := by
        have : w2.heap[wr.heap.size]? = some (.cells #[.int .i64 x.id, .string x.typ, .slice pa x.props.length pc] 89 (0, 0)) := by rw [hw2.heapEq (by simp)]; exact heap_alloc_new wr _
        rw [blk_cell this]; rfl
      have bl := cell_lt b0
      go_wp2_with fail
      go_roundg (G.nodes.length - (k + 1))
      case measure => omega
      case rel => exact ⟨k + 1, x.id, by omega, rfl, rfl, by go_num, HNX.out, (HGW.out.step HAG.out).step hw2⟩
    · have hkn : k = G.nodes.length := by omega
      subst hkn
      have HNT := Lib.hid (show goodNs G.next 0 G.nodes = true by rw [HGD.out, List.drop_length]; rfl)
      have HTP := Lib.hid (show goodG G = goodEs G 0 G.edges by rw [HTOP.out, HNT.out]; rfl)
      have HSO := Lib.hid (goodNs_all HNT.out).1
      have r1 := (hgr.cell (p := ⟨B, 1, none⟩) hB).trans G1H.out
      clear hgr hgd
      go_wp2
      generalize wr = wm at *
      go_loopg [3, 82] G.edges.length (fun g vl i wr => ∃ (k : Nat) (last : Int), k ≤ G.edges.length ∧ g = G.edges.length - k ∧ vl = .int .i64 last ∧ i = .int .i64 k ∧ goodEs G 0 G.edges = goodEs G last (G.edges.drop k) ∧ Grow w wr)
      case atStart => exact ⟨0, 0, by omega, by omega, rfl, rfl, rfl, HGW.out⟩
      case round =>
        obtain ⟨k, last, hk, rfl, rfl, rfl, hgd, hgr⟩ := hrel
        have HGD2 := Lib.hid hgd; have HGW2 := Lib.hid hgr
        have hBr2 : B < wr.heap.size := Nat.lt_of_lt_of_le hB hgr.size
        clear r1
        by_cases hkl : k < G.edges.length
        · obtain ⟨ba, oa, ra, rfl, hSa, hba, hRa, hca⟩ := HAE.out k G.edges[k] (List.getElem?_eq_getElem hkl)
          obtain ⟨pva, hba', a0, a1, a2, a3, a4, hpa⟩ := hRa.at hba hgr hca
          have HPA := Lib.hid hpa
          obtain ⟨pa, pc, rfl⟩ := hpa.isSlice
          have HD := Lib.hid (show G.edges.drop k = G.edges[k] :: G.edges.drop (k + 1) from List.drop_eq_getElem_cons hkl)
          clear hca hRa hSa hba hgr hpa hgd
          generalize G.edges[k] = x at *
          have HAL := Lib.hid (show Grow wr (wr.alloc (.cells #[.int .i64 x.id, .string x.typ, .int .i64 x.from_, .int .i64 x.to_, .slice pa x.props.length pc] 91)) from (Grow.rfl' wr).allocd _)
          have HUN := Lib.hid (show goodEs G 0 G.edges = (!decide (x.id ≤ last) && (!decide (G.next ≤ x.id) && (!hasN G x.id && (hasN G x.from_ && (hasN G x.to_ && (decide (NameOk x.typ) && (propsB x.props && goodEs G x.id (G.edges.drop (k + 1))))))))) by rw [HGD2.out, HD.out]; rfl)
          have HBK := Lib.hid (show ∀ w', Grow (wr.alloc (.cells #[.int .i64 x.id, .string x.typ, .int .i64 x.from_, .int .i64 x.to_, .slice pa x.props.length pc] 91)) w' → w'.heap[wr.heap.size]? = some (.cells #[.int .i64 x.id, .string x.typ, .int .i64 x.from_, .int .i64 x.to_, .slice pa x.props.length pc] 91 (0, 0)) from fun w' hg => by
            rw [hg.heapEq (by simp)]; exact heap_alloc_new wr _)
          go_wp2_with fail
          refine (graphNodeR S B G x.id _ (HGR.out.grow (HGW2.out.step HAL.out)) HSO.out HN40.out).mono ?_
          rintro e w3 ⟨i3, b3, rfl, hbs, hg3⟩
          have HB3 := Lib.hid (show hasN G x.id = b3 from (idx_any (fun x : PNode => x.id) hbs).symm)
          have HG3 := Lib.hid (HAL.out.step hg3); have HA3 := Lib.hid hg3
          have c2' : w3.cell? ⟨wr.heap.size, 2, none⟩ = some (.int .i64 x.from_) := by rw [blk_cell (HBK.out w3 hg3)]; rfl
          have cl3 := cell_lt c2'
          clear hbs hg3
          go_wp2_with fail
          refine (graphNodeR S B G x.from_ _ (HGR.out.grow (HGW2.out.step HG3.out)) HSO.out HN40.out).mono ?_
          rintro e w4 ⟨i4, b4, rfl, hbs, hg4⟩
          have HB4 := Lib.hid (show hasN G x.from_ = b4 from (idx_any (fun x : PNode => x.id) hbs).symm)
          have HG4 := Lib.hid (HG3.out.step hg4); have HA4 := Lib.hid (HA3.out.step hg4)
          have c3' : w4.cell? ⟨wr.heap.size, 3, none⟩ = some (.int .i64 x.to_) := by rw [blk_cell (HBK.out w4 HA4.out)]; rfl
          have cl4 := cell_lt c3'
          clear hbs hg4 c2' cl3
          go_wp2_with fail
          refine (graphNodeR S B G x.to_ _ (HGR.out.grow (HGW2.out.step HG4.out)) HSO.out HN40.out).mono ?_
          rintro e w5 ⟨i5, b5, rfl, hbs, hg5⟩
          have HB5 := Lib.hid (show hasN G x.to_ = b5 from (idx_any (fun x : PNode => x.id) hbs).symm)
          have HAG := Lib.hid (HG4.out.step hg5); have HA5 := Lib.hid (HA4.out.step hg5)
          have hb5 := HBK.out w5 HA5.out
          have d0 : w5.cell? ⟨wr.heap.size, 0, none⟩ = some (.int .i64 x.id) := by rw [blk_cell hb5]; rfl
          have d1 : w5.cell? ⟨wr.heap.size, 1, none⟩ = some (.string x.typ) := by rw [blk_cell hb5]; rfl
          have d4 : w5.cell? ⟨wr.heap.size, 4, none⟩ = some (.slice pa x.props.length pc) := by rw [blk_cell hb5]; rfl
          have dl := cell_lt d0
          have dB : B < w5.heap.size := Nat.lt_of_lt_of_le hB (HGW2.out.step HAG.out).size
          have dn : w5.cell? ⟨B, 2, none⟩ = some (.int .i64 G.next) := ((HGW2.out.step HAG.out).cell (p := ⟨B, 2, none⟩) hB).trans G2H.out
          clear hbs hg5 c3' cl4 hb5
          cases c0 : decide (x.id ≤ last)
          rotate_left 1
          · have HX := Lib.hid (show goodG G = false by rw [HTP.out, HUN.out, c0]; rfl)
            go_wp2_with fail
            refine wp_region_grow (by kernel_rfl) (by kernel_rfl) ?_
            repeat (go_big_quiet_step (first | exact calls_gr ((valName x.typ _).mono fun e w' ⟨he, hw⟩ => ⟨he, by subst hw; exact Grow.rfl' _⟩) | exact calls_gr (valPropsOk S _ x.props _ (HPA.out.grow (HAG.out.step (Gr.h _))))))
            refine wpQuiet_nil ?_
            intro w2 hw2
            go_wp2
            go_ret
            exact ⟨by rw [HX.out]; rfl, (HGW2.out.step HAG.out).step hw2⟩
          cases c1 : decide (G.next ≤ x.id)
          rotate_left 1
          · have HX := Lib.hid (show goodG G = false by rw [HTP.out, HUN.out, c0, c1]; rfl)
            go_wp2_with fail
            refine wp_region_grow (by kernel_rfl) (by kernel_rfl) ?_
            repeat (go_big_quiet_step (first | exact calls_gr ((valName x.typ _).mono fun e w' ⟨he, hw⟩ => ⟨he, by subst hw; exact Grow.rfl' _⟩) | exact calls_gr (valPropsOk S _ x.props _ (HPA.out.grow (HAG.out.step (Gr.h _))))))
            refine wpQuiet_nil ?_
            intro w2 hw2
            go_wp2
            go_ret
            exact ⟨by rw [HX.out]; rfl, (HGW2.out.step HAG.out).step hw2⟩
          cases b3
          rotate_left 1
          · have HX := Lib.hid (show goodG G = false by rw [HTP.out, HUN.out, c0, c1, HB3.out]; rfl)
            go_wp2_with fail
            refine wp_region_grow (by kernel_rfl) (by kernel_rfl) ?_
            repeat (go_big_quiet_step (first | exact calls_gr ((valName x.typ _).mono fun e w' ⟨he, hw⟩ => ⟨he, by subst hw; exact Grow.rfl' _⟩) | exact calls_gr (valPropsOk S _ x.props _ (HPA.out.grow (HAG.out.step (Gr.h _))))))
            refine wpQuiet_nil ?_
            intro w2 hw2
            go_wp2
            go_ret
            exact ⟨by rw [HX.out]; rfl, (HGW2.out.step HAG.out).step hw2⟩
          cases b4
          · have HX := Lib.hid (show goodG G = false by rw [HTP.out, HUN.out, c0, c1, HB3.out, HB4.out]; rfl)
            go_wp2_with fail
            refine wp_region_grow (by kernel_rfl) (by kernel_rfl) ?_
            repeat (go_big_quiet_step (first | exact calls_gr ((valName x.typ _).mono fun e w' ⟨he, hw⟩ => ⟨he, by subst hw; exact Grow.rfl' _⟩) | exact calls_gr (valPropsOk S _ x.props _ (HPA.out.grow (HAG.out.step (Gr.h _))))))
            refine wpQuiet_nil ?_
            intro w2 hw2
            go_wp2
            go_ret
            exact ⟨by rw [HX.out]; rfl, (HGW2.out.step HAG.out).step hw2⟩
          cases b5
          · have HX := Lib.hid (show goodG G = false by rw [HTP.out, HUN.out, c0, c1, HB3.out, HB4.out, HB5.out]; rfl)
            go_wp2_with fail
            refine wp_region_grow (by kernel_rfl) (by kernel_rfl) ?_
            repeat (go_big_quiet_step (first | exact calls_gr ((valName x.typ _).mono fun e w' ⟨he, hw⟩ => ⟨he, by subst hw; exact Grow.rfl' _⟩) | exact calls_gr (valPropsOk S _ x.props _ (HPA.out.grow (HAG.out.step (Gr.h _))))))
            refine wpQuiet_nil ?_
            intro w2 hw2
            go_wp2
            go_ret
            exact ⟨by rw [HX.out]; rfl, (HGW2.out.step HAG.out).step hw2⟩
          cases c5 : decide (NameOk x.typ)
          · have HX := Lib.hid (show goodG G = false by rw [HTP.out, HUN.out, c0, c1, HB3.out, HB4.out, HB5.out, c5]; rfl)
            go_wp2_with fail
            refine wp_region_grow (by kernel_rfl) (by kernel_rfl) ?_
            repeat (go_big_quiet_step (first | exact calls_gr ((valName x.typ _).mono fun e w' ⟨he, hw⟩ => ⟨he, by subst hw; exact Grow.rfl' _⟩) | exact calls_gr (valPropsOk S _ x.props _ (HPA.out.grow (HAG.out.step (Gr.h _))))))
            refine wpQuiet_nil ?_
            intro w2 hw2
            go_wp2
            go_ret
            exact ⟨by rw [HX.out]; rfl, (HGW2.out.step HAG.out).step hw2⟩
          cases c6 : propsB x.props
          · have HX := Lib.hid (show goodG G = false by rw [HTP.out, HUN.out, c0, c1, HB3.out, HB4.out, HB5.out, c5, c6]; rfl)
            go_wp2_with fail
            refine wp_region_grow (by kernel_rfl) (by kernel_rfl) ?_
            repeat (go_big_quiet_step (first | exact calls_gr ((valName x.typ _).mono fun e w' ⟨he, hw⟩ => ⟨he, by subst hw; exact Grow.rfl' _⟩) | exact calls_gr (valPropsOk S _ x.props _ (HPA.out.grow (HAG.out.step (Gr.h _))))))
            refine wpQuiet_nil ?_
            intro w2 hw2
            go_wp2
            go_ret
            exact ⟨by rw [HX.out]; rfl, (HGW2.out.step HAG.out).step hw2⟩
          have HNX := Lib.hid (show goodEs G 0 G.edges = goodEs G x.id (G.edges.drop (k + 1)) by rw [HUN.out, c0, c1, HB3.out, HB4.out, HB5.out, c5, c6]; rfl)
          go_wp2_with fail
          refine wp_region_grow (by kernel_rfl) (by kernel_rfl) ?_
          repeat (go_big_quiet_step (first | exact calls_gr ((valName x.typ _).mono fun e w' ⟨he, hw⟩ => ⟨he, by subst hw; exact Grow.rfl' _⟩) | exact calls_gr (valPropsOk S _ x.props _ (HPA.out.grow (by first | exact HAG.out.step (Gr.h _) | assumption)))))
          refine wpQuiet_nil ?_
          intro w2 hw2
          have b0 : w2.cell? ⟨wr.heap.size, 0, none⟩ = some (.int .i64 x.id) := (hw2.cell (p := ⟨wr.heap.size, 0, none⟩) dl).trans d0
          have bl := cell_lt b0
          go_wp2_with fail
          go_roundg (G.edges.length - (k + 1))
          case measure => omega
          case rel => exact ⟨k + 1, x.id, by omega, rfl, rfl, by go_num, HNX.out, (HGW2.out.step HAG.out).step hw2⟩
        · have hkn : k = G.edges.length := by omega
          subst hkn
          have HX := Lib.hid (show goodG G = true by rw [HTP.out, HGD2.out, List.drop_length]; rfl)
          clear hgd hgr
          go_wp2
          go_ret
          exact ⟨by rw [HX.out]; rfl, HGW2.out⟩
end Go.Hg

namespace Go.Hg
open Go.RowKit Go.Proofs

theorem zeroAct (w : World) : (zeroValue 118).run Tryz.prog w = .ok (.agg #[.nilFunc, .nilFunc]) w := by kernel_rfl

set_option maxRecDepth 100000 in
set_option maxHeartbeats 1000000 in
theorem acts1 (w : World) : Calls Tryz.prog 60 #[.int .i64 1] w fun e w' => e = .returned (.tuple #[.agg #[.func (.func 82) #[] #[], .func (.func 83) #[] #[]], .bool true]) ∧ Grow w w' := by
  have hsz : (w.alloc (.cells #[.nilFunc, .nilFunc] 118)).heap.size = w.heap.size + 1 := by simp
  have hT : Tryz.prog.underlying 142 = some (.map 3 118) := Tryz.underlying142
  have hI : Tryz.prog.underlying 3 = some (.int .i64) := Tryz.underlying3
  have i1 := run_ins _ _ hsz hT hI #[] 0 1 (.agg #[.func (.func 82) #[] #[], .func (.func 83) #[] #[]]) rfl
  have i2 := run_ins _ _ hsz hT hI #[{ key := .int .i64 1, val := .agg #[.func (.func 82) #[] #[], .func (.func 83) #[] #[]], born := 0 }] 1 2 (.agg #[.func (.func 84) #[] #[], .func (.func 85) #[] #[]]) rfl
  have i3 := run_ins _ _ hsz hT hI #[{ key := .int .i64 1, val := .agg #[.func (.func 82) #[] #[], .func (.func 83) #[] #[]], born := 0 }, { key := .int .i64 2, val := .agg #[.func (.func 84) #[] #[], .func (.func 85) #[] #[]], born := 1 }] 2 3 (.agg #[.func (.func 86) #[] #[], .func (.func 87) #[] #[]]) rfl
  have i4 := run_ins _ _ hsz hT hI #[{ key := .int .i64 1, val := .agg #[.func (.func 82) #[] #[], .func (.func 83) #[] #[]], born := 0 }, { key := .int .i64 2, val := .agg #[.func (.func 84) #[] #[], .func (.func 85) #[] #[]], born := 1 }, { key := .int .i64 3, val := .agg #[.func (.func 86) #[] #[], .func (.func 87) #[] #[]], born := 2 }] 3 4 (.agg #[.func (.func 88) #[] #[], .func (.func 89) #[] #[]]) rfl
  have i5 := run_ins _ _ hsz hT hI #[{ key := .int .i64 1, val := .agg #[.func (.func 82) #[] #[], .func (.func 83) #[] #[]], born := 0 }, { key := .int .i64 2, val := .agg #[.func (.func 84) #[] #[], .func (.func 85) #[] #[]], born := 1 }, { key := .int .i64 3, val := .agg #[.func (.func 86) #[] #[], .func (.func 87) #[] #[]], born := 2 }, { key := .int .i64 4, val := .agg #[.func (.func 88) #[] #[], .func (.func 89) #[] #[]], born := 3 }] 4 5 (.agg #[.func (.func 90) #[] #[], .func (.func 91) #[] #[]]) rfl
  simp only [List.push_toArray, List.cons_append, List.nil_append, Nat.reduceAdd] at i1 i2 i3 i4 i5
  have hmm := @run_makeMap Tryz.prog
  have HG := Lib.hid (show ∀ o1 o2 o3, Grow w (((w.alloc o1).alloc o2).alloc o3) from fun o1 o2 o3 => (((Grow.rfl' w).allocd o1).allocd o2).allocd o3)
  have lk := run_look_hit _ _ hsz hT hI #[{ key := .int .i64 1, val := .agg #[.func (.func 82) #[] #[], .func (.func 83) #[] #[]], born := 0 }, { key := .int .i64 2, val := .agg #[.func (.func 84) #[] #[], .func (.func 85) #[] #[]], born := 1 }, { key := .int .i64 3, val := .agg #[.func (.func 86) #[] #[], .func (.func 87) #[] #[]], born := 2 }, { key := .int .i64 4, val := .agg #[.func (.func 88) #[] #[], .func (.func 89) #[] #[]], born := 3 }, { key := .int .i64 5, val := .agg #[.func (.func 90) #[] #[], .func (.func 91) #[] #[]], born := 4 }] 5 1 0 _ rfl
  clear hsz
  go_enter Tryz.func60, Tryz.ntmps60
  go_wp2
  refine bodyPost_ret (v := .tuple #[.agg #[.func (.func 82) #[] #[], .func (.func 83) #[] #[]], .bool true]) ?_ rfl ⟨rfl, HG.out _ _ _⟩
  rw [results_cell_tmp rfl]
  go_simp

set_option maxRecDepth 100000 in
set_option maxHeartbeats 1000000 in
theorem acts2 (w : World) : Calls Tryz.prog 60 #[.int .i64 2] w fun e w' => e = .returned (.tuple #[.agg #[.func (.func 84) #[] #[], .func (.func 85) #[] #[]], .bool true]) ∧ Grow w w' := by
  have hsz : (w.alloc (.cells #[.nilFunc, .nilFunc] 118)).heap.size = w.heap.size + 1 := by simp
  have hT : Tryz.prog.underlying 142 = some (.map 3 118) := Tryz.underlying142
  have hI : Tryz.prog.underlying 3 = some (.int .i64) := Tryz.underlying3
  have i1 := run_ins _ _ hsz hT hI #[] 0 1 (.agg #[.func (.func 82) #[] #[], .func (.func 83) #[] #[]]) rfl
  have i2 := run_ins _ _ hsz hT hI #[{ key := .int .i64 1, val := .agg #[.func (.func 82) #[] #[], .func (.func 83) #[] #[]], born := 0 }] 1 2 (.agg #[.func (.func 84) #[] #[], .func (.func 85) #[] #[]]) rfl
  have i3 := run_ins _ _ hsz hT hI #[{ key := .int .i64 1, val := .agg #[.func (.func 82) #[] #[], .func (.func 83) #[] #[]], born := 0 }, { key := .int .i64 2, val := .agg #[.func (.func 84) #[] #[], .func (.func 85) #[] #[]], born := 1 }] 2 3 (.agg #[.func (.func 86) #[] #[], .func (.func 87) #[] #[]]) rfl
  have i4 := run_ins _ _ hsz hT hI #[{ key := .int .i64 1, val := .agg #[.func (.func 82) #[] #[], .func (.func 83) #[] #[]], born := 0 }, { key := .int .i64 2, val := .agg #[.func (.func 84) #[] #[], .func (.func 85) #[] #[]], born := 1 }, { key := .int .i64 3, val := .agg #[.func (.func 86) #[] #[], .func (.func 87) #[] #[]], born := 2 }] 3 4 (.agg #[.func (.func 88) #[] #[], .func (.func 89) #[] #[]]) rfl
  have i5 := run_ins _ _ hsz hT hI #[{ key := .int .i64 1, val := .agg #[.func (.func 82) #[] #[], .func (.func 83) #[] #[]], born := 0 }, { key := .int .i64 2, val := .agg #[.func (.func 84) #[] #[], .func (.func 85) #[] #[]], born := 1 }, { key := .int .i64 3, val := .agg #[.func (.func 86) #[] #[], .func (.func 87) #[] #[]], born := 2 }, { key := .int .i64 4, val := .agg #[.func (.func 88) #[] #[], .func (.func 89) #[] #[]], born := 3 }] 4 5 (.agg #[.func (.func 90) #[] #[], .func (.func 91) #[] #[]]) rfl
  simp only [List.push_toArray, List.cons_append, List.nil_append, Nat.reduceAdd] at i1 i2 i3 i4 i5
  have hmm := @run_makeMap Tryz.prog
  have HG := Lib.hid (show ∀ o1 o2 o3, Grow w (((w.alloc o1).alloc o2).alloc o3) from fun o1 o2 o3 => (((Grow.rfl' w).allocd o1).allocd o2).allocd o3)
  have lk := run_look_hit _ _ hsz hT hI #[{ key := .int .i64 1, val := .agg #[.func (.func 82) #[] #[], .func (.func 83) #[] #[]], born := 0 }, { key := .int .i64 2, val := .agg #[.func (.func 84) #[] #[], .func (.func 85) #[] #[]], born := 1 }, { key := .int .i64 3, val := .agg #[.func (.func 86) #[] #[], .func (.func 87) #[] #[]], born := 2 }, { key := .int .i64 4, val := .agg #[.func (.func 88) #[] #[], .func (.func 89) #[] #[]], born := 3 }, { key := .int .i64 5, val := .agg #[.func (.func 90) #[] #[], .func (.func 91) #[] #[]], born := 4 }] 5 2 1 _ rfl
  clear hsz
  go_enter Tryz.func60, Tryz.ntmps60
  go_wp2
  refine bodyPost_ret (v := .tuple #[.agg #[.func (.func 84) #[] #[], .func (.func 85) #[] #[]], .bool true]) ?_ rfl ⟨rfl, HG.out _ _ _⟩
  rw [results_cell_tmp rfl]
  go_simp

set_option maxRecDepth 100000 in
set_option maxHeartbeats 1000000 in
theorem acts3 (w : World) : Calls Tryz.prog 60 #[.int .i64 3] w fun e w' => e = .returned (.tuple #[.agg #[.func (.func 86) #[] #[], .func (.func 87) #[] #[]], .bool true]) ∧ Grow w w' := by
  have hsz : (w.alloc (.cells #[.nilFunc, .nilFunc] 118)).heap.size = w.heap.size + 1 := by simp
  have hT : Tryz.prog.underlying 142 = some (.map 3 118) := Tryz.underlying142
  have hI : Tryz.prog.underlying 3 = some (.int .i64) := Tryz.underlying3
  have i1 := run_ins _ _ hsz hT hI #[] 0 1 (.agg #[.func (.func 82) #[] #[], .func (.func 83) #[] #[]]) rfl
  have i2 := run_ins _ _ hsz hT hI #[{ key := .int .i64 1, val := .agg #[.func (.func 82) #[] #[], .func (.func 83) #[] #[]], born := 0 }] 1 2 (.agg #[.func (.func 84) #[] #[], .func (.func 85) #[] #[]]) rfl
  have i3 := run_ins _ _ hsz hT hI #[{ key := .int .i64 1, val := .agg #[.func (.func 82) #[] #[], .func (.func 83) #[] #[]], born := 0 }, { key := .int .i64 2, val := .agg #[.func (.func 84) #[] #[], .func (.func 85) #[] #[]], born := 1 }] 2 3 (.agg #[.func (.func 86) #[] #[], .func (.func 87) #[] #[]]) rfl
  have i4 := run_ins _ _ hsz hT hI #[{ key := .int .i64 1, val := .agg #[.func (.func 82) #[] #[], .func (.func 83) #[] #[]], born := 0 }, { key := .int .i64 2, val := .agg #[.func (.func 84) #[] #[], .func (.func 85) #[] #[]], born := 1 }, { key := .int .i64 3, val := .agg #[.func (.func 86) #[] #[], .func (.func 87) #[] #[]], born := 2 }] 3 4 (.agg #[.func (.func 88) #[] #[], .func (.func 89) #[] #[]]) rfl
  have i5 := run_ins _ _ hsz hT hI #[{ key := .int .i64 1, val := .agg #[.func (.func 82) #[] #[], .func (.func 83) #[] #[]], born := 0 }, { key := .int .i64 2, val := .agg #[.func (.func 84) #[] #[], .func (.func 85) #[] #[]], born := 1 }, { key := .int .i64 3, val := .agg #[.func (.func 86) #[] #[], .func (.func 87) #[] #[]], born := 2 }, { key := .int .i64 4, val := .agg #[.func (.func 88) #[] #[], .func (.func 89) #[] #[]], born := 3 }] 4 5 (.agg #[.func (.func 90) #[] #[], .func (.func 91) #[] #[]]) rfl
  simp only [List.push_toArray, List.cons_append, List.nil_append, Nat.reduceAdd] at i1 i2 i3 i4 i5
  have hmm := @run_makeMap Tryz.prog
  have HG := Lib.hid (show ∀ o1 o2 o3, Grow w (((w.alloc o1).alloc o2).alloc o3) from fun o1 o2 o3 => (((Grow.rfl' w).allocd o1).allocd o2).allocd o3)
  have lk := run_look_hit _ _ hsz hT hI #[{ key := .int .i64 1, val := .agg #[.func (.func 82) #[] #[], .func (.func 83) #[] #[]], born := 0 }, { key := .int .i64 2, val := .agg #[.func (.func 84) #[] #[], .func (.func 85) #[] #[]], born := 1 }, { key := .int .i64 3, val := .agg #[.func (.func 86) #[] #[], .func (.func 87) #[] #[]], born := 2 }, { key := .int .i64 4, val := .agg #[.func (.func 88) #[] #[], .func (.func 89) #[] #[]], born := 3 }, { key := .int .i64 5, val := .agg #[.func (.func 90) #[] #[], .func (.func 91) #[] #[]], born := 4 }] 5 3 2 _ rfl
  clear hsz
  go_enter Tryz.func60, Tryz.ntmps60
  go_wp2
  refine bodyPost_ret (v := .tuple #[.agg #[.func (.func 86) #[] #[], .func (.func 87) #[] #[]], .bool true]) ?_ rfl ⟨rfl, HG.out _ _ _⟩
  rw [results_cell_tmp rfl]
  go_simp

set_option maxRecDepth 100000 in
set_option maxHeartbeats 1000000 in
theorem acts4 (w : World) : Calls Tryz.prog 60 #[.int .i64 4] w fun e w' => e = .returned (.tuple #[.agg #[.func (.func 88) #[] #[], .func (.func 89) #[] #[]], .bool true]) ∧ Grow w w' := by
  have hsz : (w.alloc (.cells #[.nilFunc, .nilFunc] 118)).heap.size = w.heap.size + 1 := by simp
  have hT : Tryz.prog.underlying 142 = some (.map 3 118) := Tryz.underlying142
  have hI : Tryz.prog.underlying 3 = some (.int .i64) := Tryz.underlying3
  have i1 := run_ins _ _ hsz hT hI #[] 0 1 (.agg #[.func (.func 82) #[] #[], .func (.func 83) #[] #[]]) rfl
  have i2 := run_ins _ _ hsz hT hI #[{ key := .int .i64 1, val := .agg #[.func (.func 82) #[] #[], .func (.func 83) #[] #[]], born := 0 }] 1 2 (.agg #[.func (.func 84) #[] #[], .func (.func 85) #[] #[]]) rfl
  have i3 := run_ins _ _ hsz hT hI #[{ key := .int .i64 1, val := .agg #[.func (.func 82) #[] #[], .func (.func 83) #[] #[]], born := 0 }, { key := .int .i64 2, val := .agg #[.func (.func 84) #[] #[], .func (.func 85) #[] #[]], born := 1 }] 2 3 (.agg #[.func (.func 86) #[] #[], .func (.func 87) #[] #[]]) rfl
  have i4 := run_ins _ _ hsz hT hI #[{ key := .int .i64 1, val := .agg #[.func (.func 82) #[] #[], .func (.func 83) #[] #[]], born := 0 }, { key := .int .i64 2, val := .agg #[.func (.func 84) #[] #[], .func (.func 85) #[] #[]], born := 1 }, { key := .int .i64 3, val := .agg #[.func (.func 86) #[] #[], .func (.func 87) #[] #[]], born := 2 }] 3 4 (.agg #[.func (.func 88) #[] #[], .func (.func 89) #[] #[]]) rfl
  have i5 := run_ins _ _ hsz hT hI #[{ key := .int .i64 1, val := .agg #[.func (.func 82) #[] #[], .func (.func 83) #[] #[]], born := 0 }, { key := .int .i64 2, val := .agg #[.func (.func 84) #[] #[], .func (.func 85) #[] #[]], born := 1 }, { key := .int .i64 3, val := .agg #[.func (.func 86) #[] #[], .func (.func 87) #[] #[]], born := 2 }, { key := .int .i64 4, val := .agg #[.func (.func 88) #[] #[], .func (.func 89) #[] #[]], born := 3 }] 4 5 (.agg #[.func (.func 90) #[] #[], .func (.func 91) #[] #[]]) rfl
  simp only [List.push_toArray, List.cons_append, List.nil_append, Nat.reduceAdd] at i1 i2 i3 i4 i5
  have hmm := @run_makeMap Tryz.prog
  have HG := Lib.hid (show ∀ o1 o2 o3, Grow w (((w.alloc o1).alloc o2).alloc o3) from fun o1 o2 o3 => (((Grow.rfl' w).allocd o1).allocd o2).allocd o3)
  have lk := run_look_hit _ _ hsz hT hI #[{ key := .int .i64 1, val := .agg #[.func (.func 82) #[] #[], .func (.func 83) #[] #[]], born := 0 }, { key := .int .i64 2, val := .agg #[.func (.func 84) #[] #[], .func (.func 85) #[] #[]], born := 1 }, { key := .int .i64 3, val := .agg #[.func (.func 86) #[] #[], .func (.func 87) #[] #[]], born := 2 }, { key := .int .i64 4, val := .agg #[.func (.func 88) #[] #[], .func (.func 89) #[] #[]], born := 3 }, { key := .int .i64 5, val := .agg #[.func (.func 90) #[] #[], .func (.func 91) #[] #[]], born := 4 }] 5 4 3 _ rfl
  clear hsz
  go_enter Tryz.func60, Tryz.ntmps60
  go_wp2
  refine bodyPost_ret (v := .tuple #[.agg #[.func (.func 88) #[] #[], .func (.func 89) #[] #[]], .bool true]) ?_ rfl ⟨rfl, HG.out _ _ _⟩
  rw [results_cell_tmp rfl]
  go_simp

set_option maxRecDepth 100000 in
set_option maxHeartbeats 1000000 in
theorem acts5 (w : World) : Calls Tryz.prog 60 #[.int .i64 5] w fun e w' => e = .returned (.tuple #[.agg #[.func (.func 90) #[] #[], .func (.func 91) #[] #[]], .bool true]) ∧ Grow w w' := by
  have hsz : (w.alloc (.cells #[.nilFunc, .nilFunc] 118)).heap.size = w.heap.size + 1 := by simp
  have hT : Tryz.prog.underlying 142 = some (.map 3 118) := Tryz.underlying142
  have hI : Tryz.prog.underlying 3 = some (.int .i64) := Tryz.underlying3
  have i1 := run_ins _ _ hsz hT hI #[] 0 1 (.agg #[.func (.func 82) #[] #[], .func (.func 83) #[] #[]]) rfl
  have i2 := run_ins _ _ hsz hT hI #[{ key := .int .i64 1, val := .agg #[.func (.func 82) #[] #[], .func (.func 83) #[] #[]], born := 0 }] 1 2 (.agg #[.func (.func 84) #[] #[], .func (.func 85) #[] #[]]) rfl
  have i3 := run_ins _ _ hsz hT hI #[{ key := .int .i64 1, val := .agg #[.func (.func 82) #[] #[], .func (.func 83) #[] #[]], born := 0 }, { key := .int .i64 2, val := .agg #[.func (.func 84) #[] #[], .func (.func 85) #[] #[]], born := 1 }] 2 3 (.agg #[.func (.func 86) #[] #[], .func (.func 87) #[] #[]]) rfl
  have i4 := run_ins _ _ hsz hT hI #[{ key := .int .i64 1, val := .agg #[.func (.func 82) #[] #[], .func (.func 83) #[] #[]], born := 0 }, { key := .int .i64 2, val := .agg #[.func (.func 84) #[] #[], .func (.func 85) #[] #[]], born := 1 }, { key := .int .i64 3, val := .agg #[.func (.func 86) #[] #[], .func (.func 87) #[] #[]], born := 2 }] 3 4 (.agg #[.func (.func 88) #[] #[], .func (.func 89) #[] #[]]) rfl
  have i5 := run_ins _ _ hsz hT hI #[{ key := .int .i64 1, val := .agg #[.func (.func 82) #[] #[], .func (.func 83) #[] #[]], born := 0 }, { key := .int .i64 2, val := .agg #[.func (.func 84) #[] #[], .func (.func 85) #[] #[]], born := 1 }, { key := .int .i64 3, val := .agg #[.func (.func 86) #[] #[], .func (.func 87) #[] #[]], born := 2 }, { key := .int .i64 4, val := .agg #[.func (.func 88) #[] #[], .func (.func 89) #[] #[]], born := 3 }] 4 5 (.agg #[.func (.func 90) #[] #[], .func (.func 91) #[] #[]]) rfl
  simp only [List.push_toArray, List.cons_append, List.nil_append, Nat.reduceAdd] at i1 i2 i3 i4 i5
  have hmm := @run_makeMap Tryz.prog
  have HG := Lib.hid (show ∀ o1 o2 o3, Grow w (((w.alloc o1).alloc o2).alloc o3) from fun o1 o2 o3 => (((Grow.rfl' w).allocd o1).allocd o2).allocd o3)
  have lk := run_look_hit _ _ hsz hT hI #[{ key := .int .i64 1, val := .agg #[.func (.func 82) #[] #[], .func (.func 83) #[] #[]], born := 0 }, { key := .int .i64 2, val := .agg #[.func (.func 84) #[] #[], .func (.func 85) #[] #[]], born := 1 }, { key := .int .i64 3, val := .agg #[.func (.func 86) #[] #[], .func (.func 87) #[] #[]], born := 2 }, { key := .int .i64 4, val := .agg #[.func (.func 88) #[] #[], .func (.func 89) #[] #[]], born := 3 }, { key := .int .i64 5, val := .agg #[.func (.func 90) #[] #[], .func (.func 91) #[] #[]], born := 4 }] 5 5 4 _ rfl
  clear hsz
  go_enter Tryz.func60, Tryz.ntmps60
  go_wp2
  refine bodyPost_ret (v := .tuple #[.agg #[.func (.func 90) #[] #[], .func (.func 91) #[] #[]], .bool true]) ?_ rfl ⟨rfl, HG.out _ _ _⟩
  rw [results_cell_tmp rfl]
  go_simp

set_option maxRecDepth 100000 in
set_option maxHeartbeats 1000000 in
theorem acts0 (k : Int) (w : World) (h1 : k ≠ 1) (h2 : k ≠ 2) (h3 : k ≠ 3) (h4 : k ≠ 4) (h5 : k ≠ 5) : Calls Tryz.prog 60 #[.int .i64 k] w fun e w' => e = .returned (.tuple #[.agg #[.nilFunc, .nilFunc], .bool false]) ∧ Grow w w' := by
  have hsz : (w.alloc (.cells #[.nilFunc, .nilFunc] 118)).heap.size = w.heap.size + 1 := by simp
  have hT : Tryz.prog.underlying 142 = some (.map 3 118) := Tryz.underlying142
  have hI : Tryz.prog.underlying 3 = some (.int .i64) := Tryz.underlying3
  have i1 := run_ins _ _ hsz hT hI #[] 0 1 (.agg #[.func (.func 82) #[] #[], .func (.func 83) #[] #[]]) rfl
  have i2 := run_ins _ _ hsz hT hI #[{ key := .int .i64 1, val := .agg #[.func (.func 82) #[] #[], .func (.func 83) #[] #[]], born := 0 }] 1 2 (.agg #[.func (.func 84) #[] #[], .func (.func 85) #[] #[]]) rfl
  have i3 := run_ins _ _ hsz hT hI #[{ key := .int .i64 1, val := .agg #[.func (.func 82) #[] #[], .func (.func 83) #[] #[]], born := 0 }, { key := .int .i64 2, val := .agg #[.func (.func 84) #[] #[], .func (.func 85) #[] #[]], born := 1 }] 2 3 (.agg #[.func (.func 86) #[] #[], .func (.func 87) #[] #[]]) rfl
  have i4 := run_ins _ _ hsz hT hI #[{ key := .int .i64 1, val := .agg #[.func (.func 82) #[] #[], .func (.func 83) #[] #[]], born := 0 }, { key := .int .i64 2, val := .agg #[.func (.func 84) #[] #[], .func (.func 85) #[] #[]], born := 1 }, { key := .int .i64 3, val := .agg #[.func (.func 86) #[] #[], .func (.func 87) #[] #[]], born := 2 }] 3 4 (.agg #[.func (.func 88) #[] #[], .func (.func 89) #[] #[]]) rfl
  have i5 := run_ins _ _ hsz hT hI #[{ key := .int .i64 1, val := .agg #[.func (.func 82) #[] #[], .func (.func 83) #[] #[]], born := 0 }, { key := .int .i64 2, val := .agg #[.func (.func 84) #[] #[], .func (.func 85) #[] #[]], born := 1 }, { key := .int .i64 3, val := .agg #[.func (.func 86) #[] #[], .func (.func 87) #[] #[]], born := 2 }, { key := .int .i64 4, val := .agg #[.func (.func 88) #[] #[], .func (.func 89) #[] #[]], born := 3 }] 4 5 (.agg #[.func (.func 90) #[] #[], .func (.func 91) #[] #[]]) rfl
  simp only [List.push_toArray, List.cons_append, List.nil_append, Nat.reduceAdd] at i1 i2 i3 i4 i5
  have hmm := @run_makeMap Tryz.prog
  have HG := Lib.hid (show ∀ o1 o2 o3, Grow w (((w.alloc o1).alloc o2).alloc o3) from fun o1 o2 o3 => (((Grow.rfl' w).allocd o1).allocd o2).allocd o3)
  have lk := run_look_miss _ _ hsz hT hI #[{ key := .int .i64 1, val := .agg #[.func (.func 82) #[] #[], .func (.func 83) #[] #[]], born := 0 }, { key := .int .i64 2, val := .agg #[.func (.func 84) #[] #[], .func (.func 85) #[] #[]], born := 1 }, { key := .int .i64 3, val := .agg #[.func (.func 86) #[] #[], .func (.func 87) #[] #[]], born := 2 }, { key := .int .i64 4, val := .agg #[.func (.func 88) #[] #[], .func (.func 89) #[] #[]], born := 3 }, { key := .int .i64 5, val := .agg #[.func (.func 90) #[] #[], .func (.func 91) #[] #[]], born := 4 }] 5 k _ zeroAct (by simp [Instr.findNow, Instr.sameNow, beq_eq_false_iff_ne.2 h1, beq_eq_false_iff_ne.2 h2, beq_eq_false_iff_ne.2 h3, beq_eq_false_iff_ne.2 h4, beq_eq_false_iff_ne.2 h5])
  clear hsz h1 h2 h3 h4 h5
  go_enter Tryz.func60, Tryz.ntmps60
  go_wp2
  refine bodyPost_ret (v := .tuple #[.agg #[.nilFunc, .nilFunc], .bool false]) ?_ rfl ⟨rfl, HG.out _ _ _⟩
  rw [results_cell_tmp rfl]
  go_simp
end Go.Hg
