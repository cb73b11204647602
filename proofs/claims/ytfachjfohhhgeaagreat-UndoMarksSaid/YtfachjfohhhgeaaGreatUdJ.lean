/- A drawn region whose last operation z may turn what the others read: S is asked of the others alone; what z waits for may be taken first; (undo.Trail).cut, Undo: changes are taken back; (undo.Trail).find, Undo; slices.Delete of one mark; a drawn region that ends in a store: an operation that the store waits for by way of another. Conditions: those that each theorem names. -/
import Derived.WalkKit
import Derived.WalkSpells
import Derived.WalkLawsBesides
import Derived.Lib.Hide
import Derived.BigQuiet
import Derived.Deep.LoopGhost
import Derived.Maps.OwnOps
import Derived.Maps.OwnSet
import Derived.Carry
import Derived.Test.YtfachjfohhhgeaaGreatRows
import Derived.Lib.SlKeysI
import Derived.Lib.SliceRun
import Derived.WideMake
import Derived.Deep.RegionLaw
import Derived.Lib.Overlaps
import Derived.Deep.RegionHeld3
import Derived.Laws.ResultCell
import Derived.Shelf.SlSortCmp.WholeK
import Derived.Laws.EntriesVeiled
import Derived.Test.YtfachjfohhhgeaaGreatUdI
namespace Go.Hg
open Go.RowKit Go.Proofs

section
variable {P : Program} {ops : Array Oper} {Q : Exit → Act → World → Prop} {md : Region.Mode} {S : World → Prop}

def waitsOn (md : Region.Mode) (ops : Array Oper) (z i : Nat) : Bool := (ops[z]?).any fun o => o.after.any fun e => Region.binds md e && e.on == i
def wpAnyZ (P : Program) (md : Region.Mode) (ops : Array Oper) (Q : Exit → Act → World → Prop) (S : World → Prop) (z : Nat) : Nat → Array Bool → Act → World → Prop
  | 0, done, a, w => Region.ready md ops done = [] ∧ Q .normal a w
  | n + 1, done, a, w => (Region.ready md ops done = [] → Q .normal a w) ∧ ∀ i ∈ Region.ready md ops done, wpOp P ops Q i (fun a' w' => (i ≠ z → S w') ∧ wpAnyZ P md ops Q S z n (done.setIfInBounds i true) a' w') a w
theorem wpAnyZ.any {z : Nat} : ∀ {n : Nat} {done : Array Bool} {a : Act} {w : World}, wpAnyZ P md ops Q S z n done a w → wpAny P md ops Q n done a w
  | 0, _, _, _, h => h
  | _ + 1, _, _, _, h => ⟨h.1, fun i hi => wpOp_mono (fun _ _ h' => h'.2.any) (h.2 i hi)⟩
theorem ready_off {i : Nat} {done : Array Bool} (h : i ∈ Region.ready md ops done) {j : Nat} {oj : Oper} (hj : ops[j]? = some oj) (hr : j ∈ Region.ready md ops done) : ∀ e ∈ oj.after, Region.binds md e = true → e.on ≠ i := by
  obtain ⟨-, o2, ho2, hall⟩ := mem_ready.1 hr
  obtain rfl : oj = o2 := Option.some.inj (hj.symm.trans ho2)
  rintro e he hb rfl
  have h1 := hall e he hb
  have h0 := (mem_ready.1 h).1
  rcases Nat.lt_or_ge e.on done.size with h' | h'
  · simp [h'] at h0 h1; rw [h0] at h1; cases h1
  · simp [Array.getElem?_eq_none h'] at h1
theorem not_last {z i : Nat} (hz : waitsOn md ops z i = true) {done : Array Bool} (h : i ∈ Region.ready md ops done) : z ∉ Region.ready md ops done := by
  intro hr
  unfold waitsOn at hz
  cases ho : ops[z]? with
  | none => rw [ho] at hz; cases hz
  | some o =>
    rw [ho] at hz
    obtain ⟨e, he, h2⟩ := Array.any_eq_true'.1 hz
    rw [Bool.and_eq_true] at h2
    exact ready_off h ho hr e he h2.1 (by simpa using h2.2)
theorem wpAnyZ_front {z i : Nat} {oi : Oper} {v : Value} (hz : waitsOn md ops z i = true) (hi : ops[i]? = some oi) (hsel : ∀ (j : Nat) (o : Oper) cs b, ops[j]? = some o → o.op ≠ .select cs b)
    (hQ : ∀ c a w, Q (.panic c) (a.put oi.dst v) w → Q (.panic c) a w) (n : Nat) : ∀ (done : Array Bool) (a : Act) (w : World),
      (∀ j oj, ops[j]? = some oj → j ≠ i → done.getD j true = false → (∀ e ∈ oj.after, Region.binds md e = true → e.on ≠ i) → oi.apart ops oj = true) →
      i ∈ Region.ready md ops done → YieldsIf P ops S oi v a → S w → wpAnyZ P md ops Q S z n (done.setIfInBounds i true) (a.put oi.dst v) w → wpAnyZ P md ops Q S z (n + 1) done a w := by
  induction n with
  | zero =>
    intro done a w _ hr hy hS H
    refine ⟨fun h => absurd (h ▸ hr) (by simp), fun j hj => ?_⟩
    by_cases hji : j = i
    · subst hji; exact hy.wpOp hi hS ⟨fun _ => hS, H⟩
    · exact absurd (H.1 ▸ ready_mono hj hji) (by simp)
  | succ n ih =>
    intro done a w hfree hr hy hS H
    refine ⟨fun h => absurd (h ▸ hr) (by simp), fun j hj => ?_⟩
    by_cases hji : j = i
    · subst hji; exact hy.wpOp hi hS ⟨fun _ => hS, H⟩
    · have hjz : j ≠ z := fun e => not_last hz hr (e ▸ hj)
      obtain ⟨hun, oj, hoj, -⟩ := mem_ready.1 hj
      have h2 := wpOp_putIf hoj (hfree j oj hoj hji hun (ready_off hr hoj hj)) (fun cs b => hsel i oi cs b hi) (fun cs b => hsel j oj cs b hoj) hQ hy (H.2 j (ready_mono hj hji))
      refine wpOp_mono (fun a' w' h3 => ⟨h3.2.1, ih (done.setIfInBounds j true) a' w' (fun k ok hk hki hu hno => hfree k ok hk hki ?_ hno) (ready_mono hr (Ne.symm hji)) h3.1 (h3.2.1 hjz) ?_⟩) h2
      · by_cases hjk : j = k
        · subst hjk; exact hun
        · rwa [getD_set_ne true hjk] at hu
      · rw [Array.setIfInBounds_comm _ _ hji]
        exact h3.2.2
theorem wpAnyZ_take {z i : Nat} {oi : Oper} {v : Value} {n : Nat} {done : Array Bool} {a : Act} {w : World} (hz : waitsOn md ops z i = true) (hi : ops[i]? = some oi)
    (hs : Region.noSelect ops = true) (hf : Region.free md ops done i = true) (hr : (Region.ready md ops done).contains i = true)
    (hQ : ∀ c a w, Q (.panic c) (a.put oi.dst v) w → Q (.panic c) a w) (hy : YieldsIf P ops S oi v a) (hS : S w)
    (h : wpAnyZ P md ops Q S z n (done.setIfInBounds i true) (a.put oi.dst v) w) : wpAnyZ P md ops Q S z (n + 1) done a w :=
  wpAnyZ_front hz hi (Region.noSelect_spec hs) hQ n done a w (Region.free_spec hi hf) (by simpa using hr) hy hS h
def AllZ (P : Program) (md : Region.Mode) (ops : Array Oper) (Q : Exit → Act → World → Prop) (S : World → Prop) (z n : Nat) (done : Array Bool) (a : Act) (w : World) (rs : List Nat) : Prop :=
  ∀ i ∈ rs, wpOp P ops Q i (fun a' w' => (i ≠ z → S w') ∧ wpAnyZ P md ops Q S z n (done.setIfInBounds i true) a' w') a w
theorem AllZ.nil {z n : Nat} {done : Array Bool} {a : Act} {w : World} : AllZ P md ops Q S z n done a w [] := fun _ h => by cases h
theorem AllZ.cons {z n : Nat} {done : Array Bool} {a : Act} {w : World} {i : Nat} {o : Oper} {rs : List Nat} (ho : ops[i]? = some o)
    (h : ∀ K' : Act → World → Prop, Shut (∀ a w, S w → (S w → wpAnyZ P md ops Q S z n (done.setIfInBounds i true) a w) → K' a w) → if Region.wanted o (yielded ops a.tmps) = true then Oper.wp P o a w K' Q else K' (a.put o.dst undef) w)
    (hs : AllZ P md ops Q S z n done a w rs) : AllZ P md ops Q S z n done a w (i :: rs) := fun j hj => by
  rcases List.mem_cons.1 hj with rfl | hj
  · exact wpOp_step ho (fun K' hK => h K' (fun a w hS hW => hK a w ⟨fun _ => hS, hW hS⟩))
  · exact hs j hj
theorem AllZ.last {z n : Nat} {done : Array Bool} {a : Act} {w : World} {o : Oper} (ho : ops[z]? = some o)
    (h : ∀ K' : Act → World → Prop, Shut (∀ a w, wpAnyZ P md ops Q S z n (done.setIfInBounds z true) a w → K' a w) → if Region.wanted o (yielded ops a.tmps) = true then Oper.wp P o a w K' Q else K' (a.put o.dst undef) w) :
    AllZ P md ops Q S z n done a w [z] := fun j hj => by
  obtain rfl : j = z := by simpa using hj
  exact wpOp_step ho (fun K' hK => h K' (fun a w hW => hK a w ⟨fun e => absurd rfl e, hW⟩))
theorem wpAnyZ_ready {rs : List Nat} {z n : Nat} {done : Array Bool} {a : Act} {w : World} (hr : Region.ready md ops done = rs) (hne : rs ≠ []) (h : AllZ P md ops Q S z n done a w rs) : wpAnyZ P md ops Q S z (n + 1) done a w :=
  ⟨fun h0 => absurd (hr ▸ h0) hne, hr ▸ h⟩
theorem wpAnyZ_done {z : Nat} {done : Array Bool} {a : Act} {w : World} (hr : Region.ready md ops done = []) (h : Q .normal a w) : ∀ n, wpAnyZ P md ops Q S z n done a w
  | 0 => ⟨hr, h⟩
  | _ + 1 => ⟨fun _ => h, by rw [hr]; simp⟩
theorem wp_region_Z {id z : Nat} {a : Act} {w : World} (hm : P.follows .mixedOrders = true) (hS : S w.drew)
    (h : S w.drew → wpAnyZ P .any ops Q S z ops.size (Array.replicate ops.size false) a w.drew) : (Code.region id ops true).wp P Q a w :=
  wp_region_any hm (h hS).any
theorem exec_takeS {o : Oper} {a : Act} {w : World} (s hi : Operand) (t e : TypeId) (hop : o.op = Op.slice t s none (some hi) none) (ht : P.underlying t = some (.slice e)) (sz : Nat) (hsz : ∀ w, (sizeOf e).run P w = .ok sz w)
    (av : Option Addr) (n cap k : Nat) (hs : a.eval s = .slice av n cap) (hhi : a.eval hi = .int .i64 k) (hk : k ≤ cap) : (execOp a.eval o).run P w = .ok (.value (.slice av k cap)) w := by
  have he : P.elem t = e := by unfold Program.elem; rw [ht]
  have ht' : P.underlying t = some (.slice (P.elem t)) := by rw [he]; exact ht
  have hr : (Instr.sliceAt t (.slice av n cap) none (some (.int .i64 (k : Int))) none).run P w = .ok (.slice av k cap) w := by
    rw [run_sliceAt_slice _ _ _ _ _ _ ht', run_slice_h _ _ _ _ _ ht' _ _ (by omega) (by omega), he, hsz]
    have e : Go.sliced av 0 (k : Int).toNat cap sz = .slice av k cap := by
      unfold Go.sliced
      by_cases hc : cap = 0
      · rw [if_pos hc]; simp
      · rw [if_neg hc]
        cases av with
        | none => simp
        | some x => cases x; simp [Addr.add]
    simp only [Result.andThen, e]
  simp [execOp, hop, hs, hhi, hr, Result.andThen]
end
end Go.Hg

namespace Go.Hg
open Go.RowKit Go.Proofs

theorem sizeChg : ∀ w, (sizeOf 78).run Tryz.prog w = .ok 11 w := by intro w; kernel_rfl
theorem OwnL.take {α : Type} {w : World} {E : TypeId} {sz n cap g : Nat} {a : Option Addr} {R : α → List Value → Prop} {l : List α} (h : OwnL w E sz R (.slice a n cap) l (some g)) (k : Nat) (hk : k ≤ l.length) : OwnL w E sz R (.slice a k cap) (l.take k) (some g) := by
  obtain ⟨rows, h1, h2, h3, h4⟩ := h
  rcases h4 with ⟨_, _, _, h, _⟩ | ⟨g', cap', cur, hv, hg, hb, k1, k2, k3, k4⟩
  · cases h
  cases hg
  simp only [Value.slice.injEq] at hv
  obtain ⟨rfl, rfl, rfl⟩ := hv
  have hrl : ∀ r ∈ rows.take k, r.length = sz := fun r hr => by
    obtain ⟨i, hi⟩ := List.getElem?_of_mem (List.mem_of_mem_take hr)
    have hil := (List.getElem?_eq_some_iff.1 hi).1
    exact (h2 i _ r (List.getElem?_eq_getElem (by omega)) hi).2
  have e : (rows.take k).flatten = rows.flatten.take (k * sz) := by
    have hh : rows.flatten = (rows.take k).flatten ++ (rows.drop k).flatten := by rw [← List.flatten_append, List.take_append_drop]
    have hl : (rows.take k).flatten.length = k * sz := by rw [flatten_len _ sz hrl, List.length_take, h1, Nat.min_eq_left hk]
    rw [hh, ← hl, List.take_left]
  have hlen : (l.take k).length = k := by rw [List.length_take]; omega
  refine ⟨rows.take k, by rw [List.length_take, List.length_take, h1], fun i x r hx hr => ?_, ?_⟩
  · rw [List.getElem?_take] at hx hr
    split at hx
    · rename_i hlt
      rw [if_pos hlt] at hr
      exact h2 i x r hx hr
    · cases hx
  · rw [hlen, e]
    refine ⟨by rw [List.length_take, h3, Nat.min_eq_left (Nat.mul_le_mul_right _ hk)], .inr ⟨g, cap, cur, rfl, rfl, hb, by omega, k2, k3, ?_⟩⟩
    rw [← k4, List.take_take, Nat.min_eq_left (Nat.mul_le_mul_right _ hk)]

set_option maxRecDepth 100000 in
set_option maxHeartbeats 4000000 in
theorem undoCut (S K : Nat → Prop) (ol om : Option Nat) (A B : Nat) (T : PTrail) (n : Nat) (w : World) (h : TrailAt S K ol om w A B T) (hT : TInv T) (hn : n ≤ 64) :
    Calls Tryz.prog 45 #[capU A, .int .i64 n] w fun e w' => e = .returned (.tuple #[]) ∧ ∃ S' : Nat → Prop, TrailAt S' K ol om w' A B (cutT T n) ∧ (∀ b, S' b → S b ∨ w.heap.size ≤ b) ∧ Mod (fun b => S b ∨ b = A) w w' := by
  have HT := Lib.hid hT; have HAT := Lib.hid h
  have hlen := hT.len
  clear h hT
  go_enter Tryz.func45, Tryz.ntmps45
  go_wp2
  go_loopg [] T.l.length (fun gg wr => ∃ (j : Nat) (S' : Nat → Prop), j ≤ T.l.length ∧ (j = T.l.length ∨ n ≤ j) ∧ j = gg ∧ TrailAt S' K ol om wr A B (cutT T j) ∧ (∀ b, S' b → S b ∨ w.heap.size ≤ b) ∧ Mod (fun b => S b ∨ b = A) w wr)
  case atStart => exact ⟨T.l.length, S, Nat.le_refl _, .inl rfl, rfl, by rw [cutT_none (Nat.le_refl _)]; exact HAT.out, fun b hb => .inl hb, Mod.rfl' _ _⟩
  case round =>
    obtain ⟨j, S', hj, hjn, rfl, hat, hS', hmod⟩ := hrel
    have HATR := Lib.hid hat; have HS' := Lib.hid hS'; have HMOD := Lib.hid hmod
    have hln : (cutT T j).l.length = j := by unfold cutT; rw [List.length_take]; omega
    obtain ⟨la, lc, ma, mc, hA, hAl, c0, c1, c2, q2, q3⟩ := hat.read
    rw [hln] at hA c1 q2
    by_cases hjn2 : n < j
    · obtain ⟨i, rfl⟩ : ∃ i, j = i + 1 := ⟨j - 1, by omega⟩
      have hil : i < T.l.length := by omega
      obtain ⟨⟨o, g⟩, hl⟩ : ∃ x, T.l[i]? = some x := ⟨_, List.getElem?_eq_getElem hil⟩
      obtain ⟨hgood, hmay, hdo⟩ := HT.out.chain i o g hl
      have hl2 : (cutT T (i + 1)).l[i]? = some (o, g) := by unfold cutT; rw [List.getElem?_take, if_pos (by omega)]; exact hl
      obtain ⟨g0, rfl⟩ : ∃ g0, ol = some g0 := by
        obtain ⟨_, _, _, h⟩ := q2
        rcases h.2 with ⟨_, _, h, _⟩ | ⟨g0, _, _, _, h, _⟩
        · omega
        · exact ⟨g0, h⟩
      have hla : la = some ⟨g0, 0, none⟩ := by
        obtain ⟨_, _, _, h⟩ := q2
        rcases h.2 with ⟨_, _, _, h, _⟩ | ⟨g1, _, _, h, h1, _⟩
        · cases h
        · simp only [Value.slice.injEq] at h; cases h1; exact h.1
      subst hla
      obtain ⟨r, ⟨fv, rfl, hbv⟩, -, hcell⟩ := q2.row hl2
      have hgl := q2.lt g0 rfl
      have hd : Grow wr wr.drew := (Grow.rfl' wr).drewd
      have hatd : TrailAt S' K (some g0) om wr.drew A B (cutT T (i + 1)) := hat.keep (Mod.of_grow (F := fun _ => False) hd) (fun h => h) (fun _ _ h => h) (fun _ _ h => h) (fun _ _ h => h) (fun _ _ h => h)
      have hokd : GraphOk 101 S' wr.drew B (doG o g) := by
        rw [hdo]
        obtain ⟨_, _, _, _, _, h, _⟩ := hatd
        exact h
      obtain ⟨f, caps, rfl, hcf, hcall⟩ := backCall S' K B o g fv wr.drew (hbv.mod (Mod.of_grow (F := fun _ => False) hd) (fun _ _ h => h)) hokd hgood hmay
      have cf : wr.cell? ⟨g0, i * 11 + 10, none⟩ = some (.func (.func f) #[] caps) := by
        have h := hcell 10 (.func (.func f) #[] caps) rfl
        rwa [Nat.zero_add] at h
      obtain ⟨_, _, _, _, _, _, d5, d6, d7, d8, d9⟩ := hat
      have D5 := Lib.hid d5; have D6 := Lib.hid d6; have D7 := Lib.hid d7; have D8 := Lib.hid d8; have D9 := Lib.hid d9
      have HCALL := Lib.hid hcall; have HATD := Lib.hid hatd; have HL2 := Lib.hid hl2; have HL := Lib.hid hl; have HDO := Lib.hid hdo; have Q2 := Lib.hid q2; have Q3 := Lib.hid q3; have HAB := Lib.hid hA
      have HSK := Lib.hid (show ∀ w', Mod S' wr.drew w' → w'.cell? ⟨A, 1, none⟩ = some (.slice (some ⟨g0, 0, none⟩) (i + 1) lc) ∧ w'.cell? ⟨g0, i * 11 + 10, none⟩ = some (.func (.func f) #[] caps) from fun w' m =>
        ⟨by rw [World.cell?_of_block (w := wr.drew) (m.block A (Nat.lt_of_lt_of_le hAl hd.size) (fun hh => (d5 A hh).2.1 rfl))]; exact c1,
         by rw [World.cell?_of_block (w := wr.drew) (m.block g0 (Nat.lt_of_lt_of_le hgl hd.size) (fun hh => (d5 g0 hh).2.2.1 rfl))]; exact cf⟩)
      clear hcall hatd hokd hl2 hl hdo hgood hmay hbv hcell d5 d6 d7 d8 d9 hS' hmod q2 q3 hA hd
      have hw1 : IntKind.i64.wrap (i : Int) = (i : Int) := by rw [IntKind.wrap_i64]; omega
      have hw4 : (0 : Int) ≤ (i : Int) := by omega
      have hw5 : (i : Int) < (i : Int) + 1 := by omega
      have hw6 : (i : Int) ≤ (i : Int) + 1 := by omega
      have hw7 : IntKind.i64.wrap ((i : Int) + 1) = (i : Int) + 1 := by rw [IntKind.wrap_i64]; omega
      go_wp2
      go_region_held3 (fun w' => w'.cell? ⟨A, 1, none⟩ = some (.slice (some ⟨g0, 0, none⟩) (i + 1) lc) ∧ w'.cell? ⟨g0, i * 11 + 10, none⟩ = some (.func (.func f) #[] caps)) (first | exact ⟨c1, cf⟩ | exact HSK.out _ hm2) (first | (refine HCALL.out.mono ?_; rintro e w2 ⟨rfl, hok2, hm2⟩))
      have e1 := (HSK.out _ hm2).1
      have HOK2 := Lib.hid hok2.cut; have HM2 := Lib.hid hm2
      have HB2 := Lib.hid (show w2.heap[A]? = some (.cells #[capU B, .slice (some ⟨g0, 0, none⟩) (i + 1) lc, .slice ma (cutT T (i + 1)).marks.length mc] 74 (0, 0)) from (hm2.block A hAl (fun hh => (D5.out A hh).2.1 rfl)).trans HAB.out)
      have hA2 := blk_lt HB2.out
      have hf2 : w2.frozen? ⟨A, 1, none⟩ = false := blk_free HB2.out 1
      have hlc : i + 1 ≤ lc := by obtain ⟨_, _, _, h⟩ := Q2.out; obtain ⟨_, _, h1, h2, _⟩ := h.isSlice; simp only [Value.slice.injEq] at h1; omega
      clear hok2 hm2 c0 c1 c2 cf
      rename_i hold
      clear hold
      go_wp2
      refine wp_region_noPanic ?_
      refine wp_region_Z (S := fun w' => w'.cell? ⟨A, 1, none⟩ = some (.slice (some ⟨g0, 0, none⟩) (i + 1) lc)) (z := 14) (by kernel_rfl) ?_ (fun hHeld => ?_)
      · exact e1
      refine' wpAnyZ_take (i := 0) (oi := ?o1) (v := _) (by kernel_rfl) (by simp only [List.getElem?_toArray, List.getElem?_cons_zero]; rfl) (by kernel_rfl) (by kernel_rfl) (by kernel_rfl) (fun _ _ _ h => h) (Or.inl ⟨by rfl, ?y1⟩) (by assumption) ?r1
      case y1 =>
        intro wS hSw
        try dsimp only at hSw
        go_simp
        all_goals with_reducible rfl
      simp only [Act.put, List.setIfInBounds_toArray, List.set_cons_zero, List.set_cons_succ]
      refine' wpAnyZ_take (i := 1) (oi := ?o2) (v := _) (by kernel_rfl) (by simp only [List.getElem?_toArray, List.getElem?_cons_succ, List.getElem?_cons_zero]; rfl) (by kernel_rfl) (by kernel_rfl) (by kernel_rfl) (fun _ _ _ h => h) (Or.inl ⟨by rfl, ?y2⟩) (by assumption) ?r2
      case y2 =>
        intro wS hSw
        try dsimp only at hSw
        go_simp
        all_goals with_reducible rfl
      simp only [Act.put, List.setIfInBounds_toArray, List.set_cons_zero, List.set_cons_succ]
      refine' wpAnyZ_take (i := 2) (oi := ?o3) (v := _) (by kernel_rfl) (by simp only [List.getElem?_toArray, List.getElem?_cons_succ, List.getElem?_cons_zero]; rfl) (by kernel_rfl) (by kernel_rfl) (by kernel_rfl) (fun _ _ _ h => h) (Or.inl ⟨by rfl, ?y3⟩) (by assumption) ?r3
      case y3 =>
        intro wS hSw
        try dsimp only at hSw
        go_simp
        all_goals with_reducible rfl
      simp only [Act.put, List.setIfInBounds_toArray, List.set_cons_zero, List.set_cons_succ]
      refine' wpAnyZ_take (i := 3) (oi := ?o4) (v := _) (by kernel_rfl) (by simp only [List.getElem?_toArray, List.getElem?_cons_succ, List.getElem?_cons_zero]; rfl) (by kernel_rfl) (by kernel_rfl) (by kernel_rfl) (fun _ _ _ h => h) (Or.inl ⟨by rfl, ?y4⟩) (by assumption) ?r4
      case y4 =>
        intro wS hSw
        try dsimp only at hSw
        go_simp
        all_goals with_reducible rfl
      simp only [Act.put, List.setIfInBounds_toArray, List.set_cons_zero, List.set_cons_succ]
      refine' wpAnyZ_take (i := 4) (oi := ?o5) (v := _) (by kernel_rfl) (by simp only [List.getElem?_toArray, List.getElem?_cons_succ, List.getElem?_cons_zero]; rfl) (by kernel_rfl) (by kernel_rfl) (by kernel_rfl) (fun _ _ _ h => h) (Or.inl ⟨by rfl, ?y5⟩) (by assumption) ?r5
      case y5 =>
        intro wS hSw
        try dsimp only at hSw
        go_simp
        all_goals with_reducible rfl
      simp only [Act.put, List.setIfInBounds_toArray, List.set_cons_zero, List.set_cons_succ]
      refine' wpAnyZ_take (i := 5) (oi := ?o6) (v := _) (by kernel_rfl) (by simp only [List.getElem?_toArray, List.getElem?_cons_succ, List.getElem?_cons_zero]; rfl) (by kernel_rfl) (by kernel_rfl) (by kernel_rfl) (fun _ _ _ h => h) (Or.inl ⟨by rfl, ?y6⟩) (by assumption) ?r6
      case y6 =>
        intro wS hSw
        try dsimp only at hSw
        go_simp
        all_goals with_reducible rfl
      simp only [Act.put, List.setIfInBounds_toArray, List.set_cons_zero, List.set_cons_succ]
      refine' wpAnyZ_take (i := 6) (oi := ?o7) (v := _) (by kernel_rfl) (by simp only [List.getElem?_toArray, List.getElem?_cons_succ, List.getElem?_cons_zero]; rfl) (by kernel_rfl) (by kernel_rfl) (by kernel_rfl) (fun _ _ _ h => h) (Or.inl ⟨by rfl, ?y7⟩) (by assumption) ?r7
      case y7 =>
        intro wS hSw
        try dsimp only at hSw
        go_simp
        all_goals with_reducible rfl
      simp only [Act.put, List.setIfInBounds_toArray, List.set_cons_zero, List.set_cons_succ]
      refine' wpAnyZ_take (i := 7) (oi := ?o8) (v := _) (by kernel_rfl) (by simp only [List.getElem?_toArray, List.getElem?_cons_succ, List.getElem?_cons_zero]; rfl) (by kernel_rfl) (by kernel_rfl) (by kernel_rfl) (fun _ _ _ h => h) (Or.inl ⟨by rfl, ?y8⟩) (by assumption) ?r8
      case y8 =>
        intro wS hSw
        try dsimp only at hSw
        go_simp
        all_goals with_reducible rfl
      simp only [Act.put, List.setIfInBounds_toArray, List.set_cons_zero, List.set_cons_succ]
      refine' wpAnyZ_take (i := 8) (oi := ?o9) (v := _) (by kernel_rfl) (by simp only [List.getElem?_toArray, List.getElem?_cons_succ, List.getElem?_cons_zero]; rfl) (by kernel_rfl) (by kernel_rfl) (by kernel_rfl) (fun _ _ _ h => h) (Or.inl ⟨by rfl, ?y9⟩) (by assumption) ?r9
      case y9 =>
        intro wS hSw
        try dsimp only at hSw
        go_simp
        all_goals with_reducible rfl
      simp only [Act.put, List.setIfInBounds_toArray, List.set_cons_zero, List.set_cons_succ]
      refine' wpAnyZ_take (i := 9) (oi := ?o10) (v := _) (by kernel_rfl) (by simp only [List.getElem?_toArray, List.getElem?_cons_succ, List.getElem?_cons_zero]; rfl) (by kernel_rfl) (by kernel_rfl) (by kernel_rfl) (fun _ _ _ h => h) (Or.inl ⟨by rfl, ?y10⟩) (by assumption) ?r10
      case y10 =>
        intro wS hSw
        try dsimp only at hSw
        go_simp
        all_goals with_reducible rfl
      simp only [Act.put, List.setIfInBounds_toArray, List.set_cons_zero, List.set_cons_succ]
      refine' wpAnyZ_take (i := 10) (oi := ?o11) (v := _) (by kernel_rfl) (by simp only [List.getElem?_toArray, List.getElem?_cons_succ, List.getElem?_cons_zero]; rfl) (by kernel_rfl) (by kernel_rfl) (by kernel_rfl) (fun _ _ _ h => h) (Or.inl ⟨by rfl, ?y11⟩) (by assumption) ?r11
      case y11 =>
        intro wS hSw
        try dsimp only at hSw
        go_simp
        all_goals with_reducible rfl
      simp only [Act.put, List.setIfInBounds_toArray, List.set_cons_zero, List.set_cons_succ]
      refine' wpAnyZ_take (i := 11) (oi := ?o12) (v := .slice (some ⟨g0, 0, none⟩) i lc) (by kernel_rfl) (by simp only [List.getElem?_toArray, List.getElem?_cons_succ, List.getElem?_cons_zero]; rfl) (by kernel_rfl) (by kernel_rfl) (by kernel_rfl) (fun _ _ _ h => h) (Or.inl ⟨by rfl, fun wS hSw => exec_takeS (.tmp 29) (.tmp 35) 71 78 (by rfl) Tryz.underlying71 11 sizeChg (some ⟨g0, 0, none⟩) (i + 1) lc i (by rfl) (by rfl) (by omega)⟩) (by assumption) ?r12
      simp only [Act.put, List.setIfInBounds_toArray, List.set_cons_zero, List.set_cons_succ]
      refine wpAnyZ_ready (rs := [12]) (by kernel_rfl) (by simp) ?_
      refine' AllZ.cons (o := ?o13) (by simp only [List.getElem?_toArray, List.getElem?_cons_succ, List.getElem?_cons_zero]; rfl) (fun K hK => ?s13) ?m13
      case m13 => exact AllZ.nil
      go_simp
      refine hK.out _ _ ?_ (fun hHeld => ?_)
      · exact e1
      clear hK K
      try simp only [Act.put, List.setIfInBounds_toArray, List.set_cons_zero, List.set_cons_succ]
      refine wpAnyZ_ready (rs := [13]) (by kernel_rfl) (by simp) ?_
      refine' AllZ.cons (o := ?o14) (by simp only [List.getElem?_toArray, List.getElem?_cons_succ, List.getElem?_cons_zero]; rfl) (fun K hK => ?s14) ?m14
      case m14 => exact AllZ.nil
      go_simp
      refine hK.out _ _ ?_ (fun hHeld => ?_)
      · exact e1
      clear hK K
      try simp only [Act.put, List.setIfInBounds_toArray, List.set_cons_zero, List.set_cons_succ]
      refine wpAnyZ_ready (rs := [14]) (by kernel_rfl) (by simp) ?_
      refine' AllZ.last (o := ?o15) (by simp only [List.getElem?_toArray, List.getElem?_cons_succ, List.getElem?_cons_zero]; rfl) (fun K hK => ?s15)
      go_simp
      refine hK.out _ _ ?_
      clear hK K
      try simp only [Act.put, List.setIfInBounds_toArray, List.set_cons_zero, List.set_cons_succ]
      refine wpAnyZ_done (by kernel_rfl) ?_ _
      refine NoPanic.normal ?_
      go_wp2
      go_roundg i
      case measure => omega
      case rel =>
        have m23 : Mod (fun b => b = A) w2 (w2.drew.setCell ⟨A, 1, none⟩ (.slice (some ⟨g0, 0, none⟩) i lc)) := ((Mod.rfl' (fun b => b = A) w2).drewd).setd (p := ⟨A, 1, none⟩) (.inl rfl) _
        have m : Mod (fun b => S' b ∨ b = A) wr (w2.drew.setCell ⟨A, 1, none⟩ (.slice (some ⟨g0, 0, none⟩) i lc)) := ((Mod.of_grow ((Grow.rfl' wr).drewd)).step (HM2.out.mono (fun b hb => .inl hb))).step (m23.mono (fun b hb => .inr hb))
        have hsw := HMOD.out.size
        have hs2 : wr.heap.size ≤ w2.heap.size := HM2.out.size
        have hg0 := Q2.out.lt g0 rfl
        have hgi : (cutT T i).g = g := by unfold cutT; rw [HL.out]; rfl
        refine ⟨i, fun b => (S' b ∨ wr.heap.size ≤ b) ∧ b < w2.heap.size, by omega, .inr (by omega), rfl, ⟨_, _, heap_setCell_same w2.drew A 1 _ _ _ HB2.out, ?_, ?_, ?_, ?_, D6.out, D7.out, D8.out, fun b hb => Nat.lt_of_lt_of_le (D9.out b hb) m.size⟩, ?_, ?_⟩
        · have h1 := OwnL.take (Q2.out.keep (R' := RChg K (w2.drew.setCell ⟨A, 1, none⟩ (.slice (some ⟨g0, 0, none⟩) i lc)) B) (fun g' hg' => m.block g' (Q2.out.lt g' hg') (fun hh => hh.elim (fun h => (D5.out g' h).2.2.1 hg') (fun h => (D7.out g' hg').2.1 h))) (fun x r _ hR => by
            obtain ⟨fv, hr, hb⟩ := hR
            exact ⟨fv, hr, hb.mod m (fun b hb hh => hh.elim (fun h => (D5.out b h).1 hb) (fun h => D6.out (h ▸ hb)))⟩)) i (by unfold cutT; rw [List.length_take]; omega)
          have h2 : (cutT T (i + 1)).l.take i = (cutT T i).l := by unfold cutT; rw [List.take_take, Nat.min_eq_left (by omega)]
          rw [h2] at h1
          exact h1
        · exact Q3.out.keep (fun g' hg' => m.block g' (Q3.out.lt g' hg') (fun hh => hh.elim (fun h => (D5.out g' h).2.2.2.1 hg') (fun h => (D8.out g' hg').2 h))) (fun _ _ _ h => h)
        · rw [hgi]
          exact HOK2.out.keep m23 (fun b hb hh => by subst hh; exact hb.1.elim (fun h => (D5.out _ h).2.1 rfl) (fun h => by have : wr.heap.size ≤ _ := h; omega))
        · rintro b ⟨hb | hb, hlt⟩
          · obtain ⟨p1, p2, p3, p4, p5⟩ := D5.out b hb
            exact ⟨p1, p2, p3, p4, Nat.lt_of_lt_of_le hlt m23.size⟩
          · exact ⟨fun h => by have := D9.out b h; omega, by omega, fun h => by cases h; omega, fun h => by have := Q3.out.lt b h; omega, Nat.lt_of_lt_of_le hlt m23.size⟩
        · rintro b ⟨hb | hb, -⟩
          · exact HS'.out b hb
          · exact .inr (by omega)
        · exact HMOD.out.step' m (fun x hx => hx.elim (fun h => (HS'.out x h).imp (fun h => .inl h) id) (fun h => .inl (.inr h)))
    · have hjn3 : n = j ∨ j = T.l.length := by omega
      have hc : cutT T j = cutT T n := by
        rcases hjn3 with h | h
        · rw [h]
        · rw [h, cutT_none (Nat.le_refl _), cutT_none (by omega)]
      have HC := Lib.hid hc
      clear hc hat hS' hmod
      go_wp2
      go_end0
      exact ⟨rfl, S', by rw [← HC.out]; exact HATR.out, HS'.out, HMOD.out⟩
end Go.Hg

namespace Go.Hg
open Go.RowKit Go.Proofs

theorem TrailAt.setM {S K : Nat → Prop} {ol om om' : Option Nat} {w : World} {A B : Nat} {T : PTrail} {mv' : Value} {m' : List (ByteArray × Nat)} (h : TrailAt S K ol om w A B T) (hm : OwnL w 81 2 RMark mv' m' om') (h1 : ∀ g, om' = some g → ¬ K g ∧ g ≠ A ∧ ¬ S g ∧ ol ≠ some g) :
    TrailAt S K ol om' (w.setCell ⟨A, 2, none⟩ mv') A B ⟨T.g, T.l, m'⟩ := by
  have m : Mod (fun b => b = A) w (w.setCell ⟨A, 2, none⟩ mv') := (Mod.rfl' (fun b => b = A) w).setd (p := ⟨A, 2, none⟩) (.inl rfl) _
  obtain ⟨lv, mv, q1, q2, q3, q4, q5, q6, q7, q8, q9⟩ := h
  refine ⟨lv, mv', heap_setCell_same w A 2 _ _ _ q1, q2.keep (fun g hg => m.block g (q2.lt g hg) (q7 g hg).2.1) (fun x r _ hR => ?_), hm.keep (fun g hg => m.block g (hm.lt g hg) (h1 g hg).2.1) (fun _ _ _ h => h), q4.keep m (fun b hb => (q5 b hb).2.1), fun b hb => ?_, q6, fun g hg => ⟨(q7 g hg).1, (q7 g hg).2.1, fun h => (h1 g h).2.2.2 hg⟩, fun g hg => ⟨(h1 g hg).1, (h1 g hg).2.1⟩, fun b hb => Nat.lt_of_lt_of_le (q9 b hb) m.size⟩
  · obtain ⟨fv, hr, hb⟩ := hR
    exact ⟨fv, hr, hb.mod m (fun b hb hh => q6 (hh ▸ hb))⟩
  · obtain ⟨a, b, c, d, e⟩ := q5 b hb
    exact ⟨a, b, c, fun h => (h1 _ h).2.2.1 hb, Nat.lt_of_lt_of_le e m.size⟩
def IdxM (l : List (ByteArray × Nat)) (name : ByteArray) (r : Int) : Prop :=
  (r = -1 ∧ ∀ x ∈ l, x.1 ≠ name) ∨ ∃ (k : Nat) (x : ByteArray × Nat), r = k ∧ l[k]? = some x ∧ x.1 = name ∧ ∀ y ∈ l.take k, y.1 ≠ name
set_option maxHeartbeats 400000 in
theorem find1 (x : ByteArray × Nat) (c : Nat) (name : ByteArray) (w : World) (hc : w.cell? ⟨c, 0, none⟩ = some (.string name)) :
    Calls Tryz.prog 72 #[.agg #[.string x.1, .int .i64 x.2], capU c] w fun e w' => e = .returned (.bool (decide (x.1 = name))) ∧ Grow w w' := by
  obtain ⟨n, k⟩ := x
  have hlt := cell_lt hc
  have hc2 : ∀ o, (w.alloc o).cell? ⟨c, 0, none⟩ = some (.string name) := fun o => ((Grow.rfl' w).allocd o).cell (p := ⟨c, 0, none⟩) hlt |>.trans hc
  have HG := Lib.hid (show ∀ o1, Grow w (w.alloc o1) from fun o1 => (Grow.rfl' w).allocd o1)
  clear hc
  go_enter Tryz.func72, Tryz.ntmps72
  go_wp2
  go_ret
  exact ⟨rfl, HG.out _⟩
set_option maxRecDepth 100000 in
set_option maxHeartbeats 1000000 in
theorem indexMark (S : Nat → Prop) (v : Value) (l : List (ByteArray × Nat)) (c : Nat) (name : ByteArray) (w : World) (hl : SlR S w 2 RMark v l) (hc : w.cell? ⟨c, 0, none⟩ = some (.string name)) :
    Calls Tryz.prog 71 #[v, .func (.func 72) #[] #[capU c]] w fun e w' => ∃ r : Int, e = .returned (.int .i64 r) ∧ IdxM l name r ∧ Grow w w' := by
  obtain ⟨aa, ca, rfl, hal, hac, hA⟩ := SlR.open hl
  clear hl
  unfold maxLen at hac
  have HA := Lib.hid hA; clear hA
  have hlt := cell_lt hc
  have HC := Lib.hid (show ∀ w', Grow w w' → w'.cell? ⟨c, 0, none⟩ = some (.string name) from fun w' g => (g.cell (p := ⟨c, 0, none⟩) hlt).trans hc)
  clear hc
  go_enter Tryz.func71, Tryz.ntmps71
  go_wp2
  go_loopg [8] l.length (fun g i wr => ∃ k : Nat, k ≤ l.length ∧ g = l.length - k ∧ i = .int .i64 k ∧ (∀ y ∈ l.take k, y.1 ≠ name) ∧ Grow w wr)
  case atStart => exact ⟨0, by omega, by omega, rfl, by simp, Grow.rfl' w⟩
  case round =>
    obtain ⟨k, hk, rfl, rfl, hall, hgr⟩ := hrel
    have HALL := Lib.hid hall; clear hall
    by_cases hkl : k < l.length
    · obtain ⟨ba, oa, ra, rfl, hSa, hba, hRa, hca⟩ := HA.out k l[k] (List.getElem?_eq_getElem hkl)
      have hbr : ba < wr.heap.size := Nat.lt_of_lt_of_le hba hgr.size
      unfold RMark at hRa
      subst hRa
      have a0 : wr.cell? ⟨ba, oa + k * 2, none⟩ = some (.string l[k].1) := by
        rw [World.cell?_of_block (w := w) (hgr.heapEq hba)]; exact hca 0 _ rfl
      have a1 : wr.cell? ⟨ba, oa + k * 2 + 1, none⟩ = some (.int .i64 l[k].2) := by
        rw [World.cell?_of_block (w := w) (hgr.heapEq hba)]; exact hca 1 _ rfl
      clear hca hSa hba
      have HE := Lib.hid (show l[k]? = some l[k] from List.getElem?_eq_getElem hkl)
      have HT := Lib.hid (show l.take (k + 1) = l.take k ++ [l[k]] from List.take_succ_eq_append_getElem hkl)
      generalize l[k] = x at *
      cases hn : decide (x.1 = name)
      all_goals
        have HN := Lib.hid hn
        go_wp2_with fail
        refine (find1 x c name _ (HC.out _ hgr)).mono ?_
        rintro e w2 ⟨rfl, hw2⟩
        rw [HN.out]
        clear hn
        go_wp2
      · go_roundg (l.length - (k + 1))
        case measure => omega
        case rel => exact ⟨k + 1, by omega, rfl, by go_num, by rw [HT.out]; intro y hy; rcases List.mem_append.1 hy with h | h; exact HALL.out y h; simp at h; subst h; simpa using HN.out, hgr.step hw2⟩
      · go_ret
        exact ⟨_, rfl, .inr ⟨k, x, rfl, HE.out, by simpa using HN.out, HALL.out⟩, hgr.step hw2⟩
    · have HX := Lib.hid (show l.take k = l from List.take_of_length_le (by omega))
      go_wp2
      go_ret
      exact ⟨_, rfl, .inl ⟨rfl, by rw [← HX.out]; exact HALL.out⟩, hgr⟩
set_option maxRecDepth 100000 in
set_option maxHeartbeats 1000000 in
theorem undoFind (S K : Nat → Prop) (ol om : Option Nat) (A B : Nat) (T : PTrail) (name : ByteArray) (w : World) (h : TrailAt S K ol om w A B T) :
    Calls Tryz.prog 43 #[capU A, .string name] w fun e w' => ∃ r : Int, e = .returned (.int .i64 r) ∧ IdxM T.marks name r ∧ Grow w w' := by
  obtain ⟨la, lc, ma, mc, hA, hAl, c0, c1, c2, -, q3⟩ := h.read
  have hsl : SlR (fun _ => True) w 2 RMark (.slice ma T.marks.length mc) T.marks := q3.toSl (S := fun _ => True) (fun _ _ => trivial)
  have HSL := Lib.hid (show ∀ o1, SlR (fun _ => True) (w.alloc o1) 2 RMark (.slice ma T.marks.length mc) T.marks from fun o1 => hsl.keep (fun b _ hb => ((Grow.rfl' w).allocd o1).heapEq hb) (((Grow.rfl' w).allocd o1).size) (fun _ _ _ h => h))
  have HB := Lib.hid (show ∀ T, (w.alloc (.cells #[.string name] T)).cell? ⟨w.heap.size, 0, none⟩ = some (.string name) from fun T => (blk_cell (heap_alloc_new w _) 0).trans rfl)
  have HG := Lib.hid (show ∀ o1, Grow w (w.alloc o1) from fun o1 => (Grow.rfl' w).allocd o1)
  clear h q3 hsl hA
  go_enter Tryz.func43, Tryz.ntmps43
  go_wp2_with fail
  refine (indexMark (fun _ => True) _ T.marks w.heap.size name _ (HSL.out _) (HB.out _)).mono ?_
  rintro e w2 ⟨r, rfl, hr, hg⟩
  have HR := Lib.hid hr
  clear hr
  go_wp2
  go_ret
  exact ⟨r, rfl, HR.out, (HG.out _).step hg⟩
end Go.Hg

namespace Go.Hg
open Go.RowKit Go.Proofs

theorem infoMark : (Tryz.prog.info? 81).map (fun i => (i.zero, i.size, i.bytes)) = some (some (.agg #[.string ByteArray.empty, .int .i64 0]), 2, 24) := by kernel_rfl
theorem infoChg : (Tryz.prog.info? 78).map (fun i => (i.zero, i.size, i.bytes)) = some (some (.agg #[.int .i64 0, .int .i64 0, .string ByteArray.empty, .int .i64 0, .int .i64 0, .string ByteArray.empty, .int .i64 0, .int .i64 0, .string ByteArray.empty, .bool false, .nilFunc]), 11, 112) := by kernel_rfl

set_option maxRecDepth 100000 in
set_option maxHeartbeats 2000000 in
theorem deleteMark (v : Value) (n : Nat) (xs : List Value) (ob : Option Nat) (i : Nat) (w : World) (hown : OwnS w 81 2 v n xs ob) (hn : n ≤ 1099511627776)
    (hi : i < n) (h1x : ∀ u ∈ xs, u.oneCell' = true) :
    Calls Tryz.prog 44 #[v, .int .i64 i, .int .i64 (i + 1)] w fun e w' =>
      ∃ v', e = .returned v' ∧ OwnS w' 81 2 v' (n - 1) (xs.take (i * 2) ++ xs.drop ((i + 1) * 2)) ob ∧ Mod (fun k => ob = some k) w w' := by
  obtain ⟨iP, hiP, hzP0, hzP1, hzP2⟩ := info_parts infoMark
  have hxl := hown.1
  rcases hown.2 with ⟨_, _, h, _⟩ | ⟨g, cap, cur, rfl, rfl, hblk, hnc, hcm, hcs, htk⟩
  · omega
  have hTP : Tryz.prog.underlying 72 = some (.slice 81) := Tryz.underlying72
  have hlt : g < w.heap.size := blk_lt hblk
  have hlc : cur.toList.length = cap * 2 := by simpa using hcs
  unfold maxLen at hcm
  obtain ⟨cur1, hcur1⟩ : ∃ c1, c1 = cur.toList.take (i * 2) ++ xs.drop ((i + 1) * 2) ++ cur.toList.drop (i * 2 + (xs.drop ((i + 1) * 2)).length) := ⟨_, rfl⟩
  have hrd : ∀ o : Nat, (cap = i + 1 ∨ o = (i + 1) * 2) → ∀ w' : World, w'.heap[g]? = w.heap[g]? → ∀ j u, (xs.drop ((i + 1) * 2))[j]? = some u → w'.cell? ((⟨g, o, none⟩ : Addr).add j) = some u := by
    intro o ho w' hw' j u hu
    rcases ho with ho | rfl
    · rw [List.drop_of_length_le (by omega)] at hu
      cases hu
    rw [Addr.add_lit, blk_cell (hw'.trans hblk), ← Array.getElem?_toList]
    rw [← htk, List.getElem?_drop, List.getElem?_take] at hu
    split at hu
    · exact hu
    · cases hu
  have hd0 := del_take 2 cur.toList xs (List.replicate (1 * 2) (Value.bool false)) i n cap hlc htk hi hnc (by simp) cur1 _ hcur1 rfl
  have hnl := hd0.2.2.2
  have hl1 := hd0.1
  clear hd0
  have hap : ∀ ty c o, (cap = i + 1 ∨ o = (i + 1) * 2) → (Builtin.append_ #[72, 72] ty #[.slice (some ⟨g, 0, none⟩) i cap, .slice (some ⟨g, o, none⟩) (n - (i + 1)) c]).run Tryz.prog w.drew =
      .ok (.slice (some ⟨g, 0, none⟩) (n - 1) cap) (w.drew.setRow g cur1.toArray) := fun ty c o ho => by
    have hr := run_append_room (P := Tryz.prog) w.drew 72 ty 81 iP hTP hiP g i cap cur (by exact hblk) ⟨g, o, none⟩ (n - (i + 1)) c (xs.drop ((i + 1) * 2)) (by rw [hzP1, hnl]; congr 1) (hrd o ho _ rfl) (fun u hu => h1x u (List.mem_of_mem_drop hu)) (by omega) (by rw [hzP1, hnl, hcs]; omega)
    rw [hr, hzP1, ← hcur1, show i + (n - (i + 1)) = n - 1 by omega]
  have hb1 : (w.drew.setRow g cur1.toArray).heap[g]? = some (.cells cur1.toArray 81 (0, 0)) := setRow_heap w.drew g cur cur1.toArray 81 (0, 0) hblk
  obtain ⟨z, hz, hzs, hz1⟩ : ∃ z, (∀ w, (zeroValue 81).run Tryz.prog w = .ok z w) ∧ z.cells.size = 2 ∧ (∀ u ∈ z.cells.toList, u.oneCell' = true) := ⟨.agg #[.string ByteArray.empty, .int .i64 0], fun w => by kernel_rfl, rfl, by decide⟩
  obtain ⟨cs, hcsl, hcl⟩ := run_clear_row (P := Tryz.prog) (w.drew.setRow g cur1.toArray) 72 0 81 z hTP hz g ((n - 1) * 2) 1 (cap - (n - 1)) cur1.toArray 81 hb1 (by rw [hzs]; simp [hl1]; omega) hz1
  rw [hzs] at hcsl
  obtain ⟨cur2, hcur2⟩ : ∃ c2, c2 = cur1.take ((n - 1) * 2) ++ cs ++ cur1.drop ((n - 1) * 2 + cs.length) := ⟨_, rfl⟩
  have hd := del_take 2 cur.toList xs cs i n cap hlc htk hi hnc (by simpa using hcsl) cur1 cur2 hcur1 hcur2
  have hb2 : ((w.drew.setRow g cur1.toArray).setRow g cur2.toArray).heap[g]? = some (.cells cur2.toArray 81 (0, 0)) := setRow_heap _ g _ cur2.toArray 81 (0, 0) hb1
  have HFIN := Lib.hid (show OwnS ((w.drew.setRow g cur1.toArray).setRow g cur2.toArray) 81 2 (.slice (some ⟨g, 0, none⟩) (n - 1) cap) (n - 1) (xs.take (i * 2) ++ xs.drop ((i + 1) * 2)) (some g) from
    ⟨by rw [← hd.2.2.1, List.length_take, hd.2.1]; omega, .inr ⟨g, cap, cur2.toArray, rfl, rfl, hb2, by omega, by unfold maxLen; omega, by simpa using hd.2.1, hd.2.2.1⟩⟩)
  have HMOD := Lib.hid (show Mod (fun k => some g = some k) w ((w.drew.setRow g cur1.toArray).setRow g cur2.toArray) from
    ⟨rfl, rfl, rfl, by simp, fun k hk hh => by rw [setRow_other _ _ _ _ (fun e => hh (by rw [e])), setRow_other _ _ _ _ (fun e => hh (by rw [e]))]; rfl⟩)
  have hcl' : ∀ ty, (Builtin.clear_ #[72] ty #[.slice (some ⟨g, (n - 1) * 2, none⟩) 1 (cap - (n - 1))]).run Tryz.prog (w.drew.setRow g cur1.toArray) = .ok (.tuple #[]) ((w.drew.setRow g cur1.toArray).setRow g cur2.toArray) := by
    intro ty
    rw [hcur2]
    exact hcl
  have HAP := Lib.hid hap
  have hr1 : ¬ n = i := by omega
  have hr3 : ¬ cap = n - 1 := by omega
  have hne : ((i : Int) == (i : Int) + 1) = false := by simp; omega
  have hq1 : (0 : Int) ≤ (i : Int) + 1 := by omega
  have hq2 : (i : Int) ≤ (i : Int) + 1 := by omega
  have hq3 : (i : Int) + 1 ≤ (n : Int) := by omega
  have hq4 : ((i : Int) + 1).toNat = i + 1 := by omega
  have hq5 : (n : Int) ≤ (cap : Int) := by omega
  have hq6 : (i : Int) ≤ (cap : Int) := by omega
  have hq7 : (((n - 1 : Nat) : Int)) ≤ (n : Int) := by omega
  have hq8 : n - (n - 1) = 1 := by omega
  have HSELF := Lib.hid (show cap = i + 1 → w.drew.setRow g cur1.toArray = w.drew by
    intro hce
    have e : cur1.toArray = cur := by
      rw [hcur1, List.drop_of_length_le (by omega)]
      simp
    rw [e]
    exact setRow_self w.drew g cur 81 (0, 0) hblk)
  clear hown hblk hxl htk hlc hcur1 hrd hnl hl1 hap hb1 hz hzs hz1 hcsl hcl hcur2 hd hb2 hcs h1x
  by_cases hce : cap = i + 1
  · have hself := HSELF.out hce
    clear HAP HSELF
    rw [hself] at hcl' HFIN HMOD
    obtain rfl : n = i + 1 := by omega
    subst hce
    simp only [Nat.add_sub_cancel, Nat.add_sub_cancel_left] at *
    go_enter Tryz.func44, Tryz.ntmps44
    go_wp2_with fail
    go_region
    go_wp2
    go_ret
    exact ⟨_, rfl, HFIN.out, HMOD.out⟩
  · have HAP2 := Lib.hid (fun ty c => HAP.out ty c _ (.inr rfl))
    clear HAP
    go_enter Tryz.func44, Tryz.ntmps44
    go_wp2_with fail
    go_region_law (refine step_run rfl (exec_append _ (.tmp 22) (.tmp 25) 72 72 rfl (by simp [Act.eval, Act.put]) (show _ = Value.slice (some ⟨g, (i + 1) * 2, none⟩) (n - (i + 1)) (cap - (i + 1)) by simp [Act.eval, Act.put]) (fun ty => HAP2.out ty _)) ?_)
    go_wp2
    go_ret
    exact ⟨_, rfl, HFIN.out, HMOD.out⟩

section
variable {P : Program} {ops : Array Oper} {Q : Exit → Act → World → Prop} {md : Region.Mode} {S : World → Prop}
end
end Go.Hg
