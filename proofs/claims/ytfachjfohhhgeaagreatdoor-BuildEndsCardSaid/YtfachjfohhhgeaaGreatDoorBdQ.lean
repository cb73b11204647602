/- A row of numbers of one's own, made since a block: the law of append; Who is near whom: the plain words, who is reached, which path is told; Rules: the plain words, what form a rule has, whether a graph keeps it, what breaks it; rule.Form, hedgerowref15.Form; hedgerowref15.Form; (*build.Job).Touch; The reference's ids merged, a job's step keeps its words: plain words; val.Get, hedgerowref02.Get: a property's value; What breaks a rule: the plain words; without it the rule is kept; A row of structs of one's own, made since a block: the law of append; append of a whole slice to an empty one: a copy of one's own; check.doubles: the nodes whose value another one has; check.Broken: without a form, Unique, Exists; hedgerowref02.Compare; hedgerowref15.Broken: without a form, Ends; hedgerowref15.Broken: Most; hedgerowref15.Broken: Unique, Exists. Conditions: those that each theorem names. -/
import Derived.WalkKit
import Derived.WalkSpells
import Derived.WalkLawsBesides
import Derived.Lib.Hide
import Derived.BigQuiet
import Derived.Deep.LoopGhost
import Derived.Test.YtfachjfohhhgeaaGreatDoorRows
import Derived.Lib.SliceRun
import Derived.WideMake
import Derived.Deep.RegionLaw
import Derived.Lib.Overlaps
import Derived.Deep.RegionHeld3
import Derived.Laws.ResultCell
import Derived.Maps.OwnOps
import Derived.Maps.OwnSet
import Derived.Carry
import Derived.Lib.SlKeysI
import Derived.Conc.LoneCalls
import Derived.Conc.SmallLaws
import Derived.Deep.CutBlock
import Derived.Deep.DeepCutAuto
import Derived.Laws.EntriesVeiled
import Derived.Maps.RangeWalk
import Derived.Lib.SlMapFilter
import Derived.Test.YtfachjfohhhgeaaGreatDoorBdL
import Derived.Test.YtfachjfohhhgeaaGreatDoorBdN
import Derived.Test.YtfachjfohhhgeaaGreatDoorBdO
import Derived.Test.YtfachjfohhhgeaaGreatDoorBdP
namespace Go.Hg
open Go.RowKit Go.Proofs

theorem IdsW.base {n m : Nat} {w : World} {v : Value} {l : List Int} (h : IdsW n w v l) (hm : m ≤ n) : IdsW m w v l := by
  obtain ⟨ob, h1, h2⟩ := h
  exact ⟨ob, h1, fun q hq => Nat.le_trans hm (h2 q hq)⟩
theorem Grow.since {n : Nat} {a b c : World} (h : Grow a b) (k : Since n b c) (hn : a.heap.size ≤ n) : Grow a c := h.modd k (fun _ hx => Nat.le_trans hn hx)
theorem wpList_append_I {w : World} {ops : Array Oper} {rest : List Oper} {o : Oper} {a : Act} {Q : Exit → Act → World → Prop} (hgd : o.guard = none) (s x : Operand) (t : TypeId)
    (ho : o.op = .call { callee := .builtin .append, args := #[s, x], argTypes := #[t, t] }) (ht : Tryz.prog.underlying t = some (.slice 2)) (n : Nat) (v : Value) (l : List Int) (hs : a.eval s = v) (h : IdsW n w v l)
    (y : Int) (nb : Nat) (hx : a.eval x = .slice (some ⟨nb, 0, none⟩) 1 1) (hrd : Rd w 1 (.slice (some ⟨nb, 0, none⟩) 1 1) 1 [.int .i64 y]) (hn : n ≤ w.heap.size) (hl : l.length + 1 ≤ 8796093022208)
    (hK : ∀ v' w', IdsW n w' v' (l ++ [y]) → Since n w w' → w.heap.size ≤ w'.heap.size → wpList Tryz.prog ops Q rest (a.put o.dst v') w') : wpList Tryz.prog ops Q (o :: rest) a w := by
  obtain ⟨iP, hiP, hzP0, hzP1, hzP2⟩ := info_parts infoInt
  obtain ⟨ob, h1, h2⟩ := h
  refine wpList_append_S w hgd s x t ho 2 iP _ 1 8 ht hiP hzP0 hzP1 hzP2 rfl (by decide) v l.length _ ob hs h1 _ hx 1 _ hrd (one1 _ rfl) (by unfold maxLen; omega) (by omega) ?_
  intro v' w' ob' k1 k2 k3 _
  refine hK v' w' ⟨ob', ?_, ?_⟩ (k2.mono fun q hq => h2 q hq) k2.size
  · unfold IdsO
    rw [List.length_append, List.map_append]
    exact k1
  · intro q hq
    rcases k3 with k3 | ⟨g, k3, hg⟩
    · exact h2 q (k3 ▸ hq)
    · rw [k3] at hq; cases hq; omega
end Go.Hg

namespace Go.Hg

section
variable {E : List PEdge} {typ : ByteArray}
theorem Rch.stable {n : Nat} {x : Int} (hs : ∀ y, Rch E typ (n + 1) x y → Rch E typ n x y) : ∀ m, n ≤ m → ∀ y, Rch E typ m x y → Rch E typ n x y := by
  intro m hm
  induction m with
  | zero => cases Nat.le_zero.1 hm; exact fun _ h => h
  | succ m ih =>
    rcases Nat.lt_or_ge n (m + 1) with h1 | h1
    · intro y hy
      rcases hy with hy | ⟨z, hz, hy⟩
      · exact hs y (.inl hy)
      · exact hs y (.inr ⟨z, ih (by omega) z hz, hy⟩)
    · have : n = m + 1 := by omega
      exact this ▸ fun _ h => h
theorem FrI.start {M r : List Int} (h : M.Nodup) (he : ∀ y ∈ M, ∃ e ∈ E, e.to_ = y) : FrI E typ M [] r 0 [] := ⟨by simpa using h, by simp, by simp, by simp, by simpa using he⟩
theorem OutI.start (id : Int) : OutI E typ id [] [id] 0 := ⟨.nil, by simp [Rch], by simp, by simp [Rch]⟩
theorem OutI.done {id : Int} {M r : List Int} {k m : Nat} (h : OutI E typ id M r k) (hf : FrI E typ M [] r r.length []) (hm : k ≤ m) (y : Int) : y ∈ M ↔ Rch E typ m id y := by
  have h1 := h.next hf
  rw [List.append_nil] at h1
  rw [h.mem]
  exact ⟨fun hy => hy.mono hm, Rch.stable (fun y hy => (h.mem y).1 ((h1.mem y).2 hy)) m hm y⟩

theorem QI.start (t : Int) : QI E typ t (nput (fun _ => none) t 0) [] [t] := by
  refine ⟨by simp, fun x => ?_, by simp [nput], ?_, by simp, by simp, ?_, by simp⟩
  · simp only [List.nil_append, List.mem_singleton, nput]
    constructor
    · rintro rfl; exact ⟨0, by simp⟩
    · rintro ⟨d, hd⟩
      by_cases hx : x = t
      · exact hx
      · simp [hx] at hd
  · intro x d hd
    by_cases hx : x = t
    · simp [nput, hx] at hd; subst hd; exact hx
    · simp [nput, hx] at hd
  · intro y s _ x d d' _ h2
    by_cases hx : x = t
    · simp [nput, hx] at h2; omega
    · simp [nput, hx] at h2
theorem QI.done {t : Int} {f : Int → Option Nat} {dn : List Int} (h : QI E typ t f dn []) (x : Int) (d : Nat) : f x = some d ↔ Dst E typ t d x := by
  have key : ∀ m x, Wlk E typ t m x → ∃ q, q ≤ m ∧ f x = some q := by
    intro m
    induction m with
    | zero => rintro x rfl; exact ⟨0, Nat.le_refl _, h.zero⟩
    | succ m ih =>
      rintro x ⟨z, hs, hw⟩
      obtain ⟨q, hq, hz⟩ := ih z hw
      obtain ⟨q', h1, h2⟩ := h.cls z (by have := (h.dom z).2 ⟨q, hz⟩; simpa using this) x q hs hz
      exact ⟨q', by omega, h2⟩
  constructor
  · intro hx
    refine ⟨h.walk x d hx, fun m hm hw => ?_⟩
    obtain ⟨q, hq, h2⟩ := key m x hw
    rw [hx] at h2
    cases h2
    omega
  · intro hx
    obtain ⟨q, hq, h2⟩ := key d x hx.1
    have := h.walk x q h2
    rcases Nat.lt_or_ge q d with r | r
    · exact absurd this (hx.2 q r)
    · have : q = d := by omega
      exact this ▸ h2
end
end Go.Hg

namespace Go.Hg

theorem nodup_count {α : Type} [DecidableEq α] (l : List α) : l.Nodup ↔ ∀ v ∈ l, l.count v < 2 := by
  rw [List.nodup_iff_count]
  constructor
  · intro h v _
    have := h v
    omega
  · intro h v
    by_cases hv : v ∈ l
    · have := h v hv; omega
    · rw [List.count_eq_zero_of_not_mem hv]; omega
theorem uniqR_iff (nodes : List PNode) (r : PRule) : uniqR nodes r = !nodes.any (doubR nodes r) := by
  rw [Bool.eq_iff_iff, Bool.not_eq_true', List.any_eq_false]
  unfold uniqR
  rw [decide_eq_true_iff, nodup_count]
  constructor
  · intro h n hn
    unfold doubR
    cases hv : valR r n with
    | none => simp
    | some v =>
      have := h v (List.mem_filterMap.2 ⟨n, hn, hv⟩)
      simp
      omega
  · intro h v hv
    obtain ⟨n, hn, hv⟩ := List.mem_filterMap.1 hv
    have := h n hn
    unfold doubR at this
    rw [hv] at this
    simp at this
    exact this
end Go.Hg

namespace Go.Hg
open Go.RowKit Go.Proofs

theorem refNameB {s : ByteArray} {b : Bool} (hb : decide (NameOk s) = b) (w : World) : Calls Tryz.prog 38 #[.string s] w fun e w' => e = .returned (.bool b) ∧ w' = w := hb ▸ refName s w
end Go.Hg

namespace Go.Hg
open Go.RowKit Go.Proofs

set_option maxRecDepth 100000 in
set_option maxHeartbeats 2000000 in
theorem refForm1 (id : Int) (typ name from_ to_ : ByteArray) (n state : Int) (w : World) : Calls Tryz.prog 11 #[(PRule.mk id 1 typ name from_ to_ n state).args] w fun e w' => e = .returned (.bool (formR ⟨id, 1, typ, name, from_, to_, n, state⟩)) ∧ Grow w w' := by
  have HW := Lib.hid (show ∀ o1, Grow w (w.alloc o1) from fun o1 => (Grow.rfl' w).allocd o1)
  have HB := Lib.hid (show ∀ o1 w', Grow (w.alloc o1) w' → w'.heap[w.heap.size]? = some o1 from fun o1 w' hg => by rw [hg.heapEq (by simp)]; exact heap_alloc_new w _)
  generalize hF : formR _ = F
  have HF := Lib.hid hF; clear hF
  obtain ⟨b1, hb1⟩ : ∃ b, decide (NameOk typ) = b := ⟨_, rfl⟩
  obtain ⟨b2, hb2⟩ : ∃ b, decide (NameOk name) = b := ⟨_, rfl⟩
  obtain ⟨b3, hb3⟩ : ∃ b, decide (NameOk from_) = b := ⟨_, rfl⟩
  obtain ⟨b4, hb4⟩ : ∃ b, decide (NameOk to_) = b := ⟨_, rfl⟩
  have H1 := Lib.hid hb1; have H2 := Lib.hid hb2; have H3 := Lib.hid hb3; have H4 := Lib.hid hb4
  clear hb1 hb2 hb3 hb4
  have HK := Lib.hid True.intro
  cases b1
  · skip
    have hF : F = false := by rw [← HF.out]; simp [formR, H1.out, *]
    subst hF
    clear HF
    go_enter Tryz.func11, Tryz.ntmps11
    go_wp2_with (go_at_call 38; (first | (with_reducible refine (refNameB H1.out _).mono ?_) | (with_reducible refine (refNameB H2.out _).mono ?_) | (with_reducible refine (refNameB H3.out _).mono ?_) | (with_reducible refine (refNameB H4.out _).mono ?_)); rintro e w3 ⟨rfl, rfl⟩)
    go_ret
    exact ⟨rfl, HW.out _⟩
  · skip
    cases b2
    · skip
      have hF : F = false := by rw [← HF.out]; simp [formR, H1.out, H2.out, *]
      subst hF
      clear HF
      go_enter Tryz.func11, Tryz.ntmps11
      go_wp2_with (go_at_call 38; (first | (with_reducible refine (refNameB H1.out _).mono ?_) | (with_reducible refine (refNameB H2.out _).mono ?_) | (with_reducible refine (refNameB H3.out _).mono ?_) | (with_reducible refine (refNameB H4.out _).mono ?_)); rintro e w3 ⟨rfl, rfl⟩)
      go_ret
      exact ⟨rfl, HW.out _⟩
    · skip
      by_cases h2 : from_ = ByteArray.empty
      · skip
        subst h2
        by_cases h3 : to_ = ByteArray.empty
        · skip
          subst h3
          by_cases h4 : n = 0
          · skip
            subst h4
            have hF : F = true := by rw [← HF.out]; simp [formR, H1.out, H2.out, *]
            subst hF
            clear HF
            go_enter Tryz.func11, Tryz.ntmps11
            go_wp2_with (go_at_call 38; (first | (with_reducible refine (refNameB H1.out _).mono ?_) | (with_reducible refine (refNameB H2.out _).mono ?_) | (with_reducible refine (refNameB H3.out _).mono ?_) | (with_reducible refine (refNameB H4.out _).mono ?_)); rintro e w3 ⟨rfl, rfl⟩)
            go_ret
            exact ⟨rfl, HW.out _⟩
          · skip
            have q4 : (n == 0) = false := by simpa using h4
            have hF : F = false := by rw [← HF.out]; simp [formR, H1.out, H2.out, *]
            subst hF
            clear HF
            go_enter Tryz.func11, Tryz.ntmps11
            go_wp2_with (go_at_call 38; (first | (with_reducible refine (refNameB H1.out _).mono ?_) | (with_reducible refine (refNameB H2.out _).mono ?_) | (with_reducible refine (refNameB H3.out _).mono ?_) | (with_reducible refine (refNameB H4.out _).mono ?_)); rintro e w3 ⟨rfl, rfl⟩)
            go_ret
            exact ⟨rfl, HW.out _⟩
        · skip
          have q3 : (to_.toList == ([] : List UInt8)) = false := (empty_beq to_).trans (decide_eq_false h3)
          have hF : F = false := by rw [← HF.out]; simp [formR, H1.out, H2.out, *]
          subst hF
          clear HF
          go_enter Tryz.func11, Tryz.ntmps11
          go_wp2_with (go_at_call 38; (first | (with_reducible refine (refNameB H1.out _).mono ?_) | (with_reducible refine (refNameB H2.out _).mono ?_) | (with_reducible refine (refNameB H3.out _).mono ?_) | (with_reducible refine (refNameB H4.out _).mono ?_)); rintro e w3 ⟨rfl, rfl⟩)
          go_ret
          exact ⟨rfl, HW.out _⟩
      · skip
        have q2 : (from_.toList == ([] : List UInt8)) = false := (empty_beq from_).trans (decide_eq_false h2)
        have hF : F = false := by rw [← HF.out]; simp [formR, H1.out, H2.out, *]
        subst hF
        clear HF
        go_enter Tryz.func11, Tryz.ntmps11
        go_wp2_with (go_at_call 38; (first | (with_reducible refine (refNameB H1.out _).mono ?_) | (with_reducible refine (refNameB H2.out _).mono ?_) | (with_reducible refine (refNameB H3.out _).mono ?_) | (with_reducible refine (refNameB H4.out _).mono ?_)); rintro e w3 ⟨rfl, rfl⟩)
        go_ret
        exact ⟨rfl, HW.out _⟩
set_option maxRecDepth 100000 in
set_option maxHeartbeats 2000000 in
theorem refForm2 (id : Int) (typ name from_ to_ : ByteArray) (n state : Int) (w : World) : Calls Tryz.prog 11 #[(PRule.mk id 2 typ name from_ to_ n state).args] w fun e w' => e = .returned (.bool (formR ⟨id, 2, typ, name, from_, to_, n, state⟩)) ∧ Grow w w' := by
  have HW := Lib.hid (show ∀ o1, Grow w (w.alloc o1) from fun o1 => (Grow.rfl' w).allocd o1)
  have HB := Lib.hid (show ∀ o1 w', Grow (w.alloc o1) w' → w'.heap[w.heap.size]? = some o1 from fun o1 w' hg => by rw [hg.heapEq (by simp)]; exact heap_alloc_new w _)
  generalize hF : formR _ = F
  have HF := Lib.hid hF; clear hF
  obtain ⟨b1, hb1⟩ : ∃ b, decide (NameOk typ) = b := ⟨_, rfl⟩
  obtain ⟨b2, hb2⟩ : ∃ b, decide (NameOk name) = b := ⟨_, rfl⟩
  obtain ⟨b3, hb3⟩ : ∃ b, decide (NameOk from_) = b := ⟨_, rfl⟩
  obtain ⟨b4, hb4⟩ : ∃ b, decide (NameOk to_) = b := ⟨_, rfl⟩
  have H1 := Lib.hid hb1; have H2 := Lib.hid hb2; have H3 := Lib.hid hb3; have H4 := Lib.hid hb4
  clear hb1 hb2 hb3 hb4
  have HK := Lib.hid True.intro
  cases b1
  · skip
    have hF : F = false := by rw [← HF.out]; simp [formR, H1.out, *]
    subst hF
    clear HF
    go_enter Tryz.func11, Tryz.ntmps11
    go_wp2_with (go_at_call 38; (first | (with_reducible refine (refNameB H1.out _).mono ?_) | (with_reducible refine (refNameB H2.out _).mono ?_) | (with_reducible refine (refNameB H3.out _).mono ?_) | (with_reducible refine (refNameB H4.out _).mono ?_)); rintro e w3 ⟨rfl, rfl⟩)
    go_ret
    exact ⟨rfl, HW.out _⟩
  · skip
    cases b2
    · skip
      have hF : F = false := by rw [← HF.out]; simp [formR, H1.out, H2.out, *]
      subst hF
      clear HF
      go_enter Tryz.func11, Tryz.ntmps11
      go_wp2_with (go_at_call 38; (first | (with_reducible refine (refNameB H1.out _).mono ?_) | (with_reducible refine (refNameB H2.out _).mono ?_) | (with_reducible refine (refNameB H3.out _).mono ?_) | (with_reducible refine (refNameB H4.out _).mono ?_)); rintro e w3 ⟨rfl, rfl⟩)
      go_ret
      exact ⟨rfl, HW.out _⟩
    · skip
      by_cases h2 : from_ = ByteArray.empty
      · skip
        subst h2
        by_cases h3 : to_ = ByteArray.empty
        · skip
          subst h3
          by_cases h4 : n = 0
          · skip
            subst h4
            have hF : F = true := by rw [← HF.out]; simp [formR, H1.out, H2.out, *]
            subst hF
            clear HF
            go_enter Tryz.func11, Tryz.ntmps11
            go_wp2_with (go_at_call 38; (first | (with_reducible refine (refNameB H1.out _).mono ?_) | (with_reducible refine (refNameB H2.out _).mono ?_) | (with_reducible refine (refNameB H3.out _).mono ?_) | (with_reducible refine (refNameB H4.out _).mono ?_)); rintro e w3 ⟨rfl, rfl⟩)
            go_ret
            exact ⟨rfl, HW.out _⟩
          · skip
            have q4 : (n == 0) = false := by simpa using h4
            have hF : F = false := by rw [← HF.out]; simp [formR, H1.out, H2.out, *]
            subst hF
            clear HF
            go_enter Tryz.func11, Tryz.ntmps11
            go_wp2_with (go_at_call 38; (first | (with_reducible refine (refNameB H1.out _).mono ?_) | (with_reducible refine (refNameB H2.out _).mono ?_) | (with_reducible refine (refNameB H3.out _).mono ?_) | (with_reducible refine (refNameB H4.out _).mono ?_)); rintro e w3 ⟨rfl, rfl⟩)
            go_ret
            exact ⟨rfl, HW.out _⟩
        · skip
          have q3 : (to_.toList == ([] : List UInt8)) = false := (empty_beq to_).trans (decide_eq_false h3)
          have hF : F = false := by rw [← HF.out]; simp [formR, H1.out, H2.out, *]
          subst hF
          clear HF
          go_enter Tryz.func11, Tryz.ntmps11
          go_wp2_with (go_at_call 38; (first | (with_reducible refine (refNameB H1.out _).mono ?_) | (with_reducible refine (refNameB H2.out _).mono ?_) | (with_reducible refine (refNameB H3.out _).mono ?_) | (with_reducible refine (refNameB H4.out _).mono ?_)); rintro e w3 ⟨rfl, rfl⟩)
          go_ret
          exact ⟨rfl, HW.out _⟩
      · skip
        have q2 : (from_.toList == ([] : List UInt8)) = false := (empty_beq from_).trans (decide_eq_false h2)
        have hF : F = false := by rw [← HF.out]; simp [formR, H1.out, H2.out, *]
        subst hF
        clear HF
        go_enter Tryz.func11, Tryz.ntmps11
        go_wp2_with (go_at_call 38; (first | (with_reducible refine (refNameB H1.out _).mono ?_) | (with_reducible refine (refNameB H2.out _).mono ?_) | (with_reducible refine (refNameB H3.out _).mono ?_) | (with_reducible refine (refNameB H4.out _).mono ?_)); rintro e w3 ⟨rfl, rfl⟩)
        go_ret
        exact ⟨rfl, HW.out _⟩
set_option maxRecDepth 100000 in
set_option maxHeartbeats 2000000 in
theorem refForm3 (id : Int) (typ name from_ to_ : ByteArray) (n state : Int) (w : World) : Calls Tryz.prog 11 #[(PRule.mk id 3 typ name from_ to_ n state).args] w fun e w' => e = .returned (.bool (formR ⟨id, 3, typ, name, from_, to_, n, state⟩)) ∧ Grow w w' := by
  have HW := Lib.hid (show ∀ o1, Grow w (w.alloc o1) from fun o1 => (Grow.rfl' w).allocd o1)
  have HB := Lib.hid (show ∀ o1 w', Grow (w.alloc o1) w' → w'.heap[w.heap.size]? = some o1 from fun o1 w' hg => by rw [hg.heapEq (by simp)]; exact heap_alloc_new w _)
  generalize hF : formR _ = F
  have HF := Lib.hid hF; clear hF
  obtain ⟨b1, hb1⟩ : ∃ b, decide (NameOk typ) = b := ⟨_, rfl⟩
  obtain ⟨b2, hb2⟩ : ∃ b, decide (NameOk name) = b := ⟨_, rfl⟩
  obtain ⟨b3, hb3⟩ : ∃ b, decide (NameOk from_) = b := ⟨_, rfl⟩
  obtain ⟨b4, hb4⟩ : ∃ b, decide (NameOk to_) = b := ⟨_, rfl⟩
  have H1 := Lib.hid hb1; have H2 := Lib.hid hb2; have H3 := Lib.hid hb3; have H4 := Lib.hid hb4
  clear hb1 hb2 hb3 hb4
  have HK := Lib.hid True.intro
  cases b1
  · skip
    have hF : F = false := by rw [← HF.out]; simp [formR, H1.out, *]
    subst hF
    clear HF
    go_enter Tryz.func11, Tryz.ntmps11
    go_wp2_with (go_at_call 38; (first | (with_reducible refine (refNameB H1.out _).mono ?_) | (with_reducible refine (refNameB H2.out _).mono ?_) | (with_reducible refine (refNameB H3.out _).mono ?_) | (with_reducible refine (refNameB H4.out _).mono ?_)); rintro e w3 ⟨rfl, rfl⟩)
    go_ret
    exact ⟨rfl, HW.out _⟩
  · skip
    by_cases h1 : name = ByteArray.empty
    · skip
      subst h1
      cases b3
      · skip
        have hF : F = false := by rw [← HF.out]; simp [formR, H1.out, H3.out, *]
        subst hF
        clear HF
        go_enter Tryz.func11, Tryz.ntmps11
        go_wp2_with (go_at_call 38; (first | (with_reducible refine (refNameB H1.out _).mono ?_) | (with_reducible refine (refNameB H2.out _).mono ?_) | (with_reducible refine (refNameB H3.out _).mono ?_) | (with_reducible refine (refNameB H4.out _).mono ?_)); rintro e w3 ⟨rfl, rfl⟩)
        go_ret
        exact ⟨rfl, HW.out _⟩
      · skip
        cases b4
        · skip
          have hF : F = false := by rw [← HF.out]; simp [formR, H1.out, H3.out, H4.out, *]
          subst hF
          clear HF
          go_enter Tryz.func11, Tryz.ntmps11
          go_wp2_with (go_at_call 38; (first | (with_reducible refine (refNameB H1.out _).mono ?_) | (with_reducible refine (refNameB H2.out _).mono ?_) | (with_reducible refine (refNameB H3.out _).mono ?_) | (with_reducible refine (refNameB H4.out _).mono ?_)); rintro e w3 ⟨rfl, rfl⟩)
          go_ret
          exact ⟨rfl, HW.out _⟩
        · skip
          by_cases h4 : n = 0
          · skip
            subst h4
            have hF : F = true := by rw [← HF.out]; simp [formR, H1.out, H3.out, H4.out, *]
            subst hF
            clear HF
            go_enter Tryz.func11, Tryz.ntmps11
            go_wp2_with (go_at_call 38; (first | (with_reducible refine (refNameB H1.out _).mono ?_) | (with_reducible refine (refNameB H2.out _).mono ?_) | (with_reducible refine (refNameB H3.out _).mono ?_) | (with_reducible refine (refNameB H4.out _).mono ?_)); rintro e w3 ⟨rfl, rfl⟩)
            go_ret
            exact ⟨rfl, HW.out _⟩
          · skip
            have q4 : (n == 0) = false := by simpa using h4
            have hF : F = false := by rw [← HF.out]; simp [formR, H1.out, H3.out, H4.out, *]
            subst hF
            clear HF
            go_enter Tryz.func11, Tryz.ntmps11
            go_wp2_with (go_at_call 38; (first | (with_reducible refine (refNameB H1.out _).mono ?_) | (with_reducible refine (refNameB H2.out _).mono ?_) | (with_reducible refine (refNameB H3.out _).mono ?_) | (with_reducible refine (refNameB H4.out _).mono ?_)); rintro e w3 ⟨rfl, rfl⟩)
            go_ret
            exact ⟨rfl, HW.out _⟩
    · skip
      have q1 : (name.toList == ([] : List UInt8)) = false := (empty_beq name).trans (decide_eq_false h1)
      have hF : F = false := by rw [← HF.out]; simp [formR, H1.out, *]
      subst hF
      clear HF
      go_enter Tryz.func11, Tryz.ntmps11
      go_wp2_with (go_at_call 38; (first | (with_reducible refine (refNameB H1.out _).mono ?_) | (with_reducible refine (refNameB H2.out _).mono ?_) | (with_reducible refine (refNameB H3.out _).mono ?_) | (with_reducible refine (refNameB H4.out _).mono ?_)); rintro e w3 ⟨rfl, rfl⟩)
      go_ret
      exact ⟨rfl, HW.out _⟩
set_option maxRecDepth 100000 in
set_option maxHeartbeats 2000000 in
theorem refForm4 (id : Int) (typ name from_ to_ : ByteArray) (n state : Int) (w : World) : Calls Tryz.prog 11 #[(PRule.mk id 4 typ name from_ to_ n state).args] w fun e w' => e = .returned (.bool (formR ⟨id, 4, typ, name, from_, to_, n, state⟩)) ∧ Grow w w' := by
  have HW := Lib.hid (show ∀ o1, Grow w (w.alloc o1) from fun o1 => (Grow.rfl' w).allocd o1)
  have HB := Lib.hid (show ∀ o1 w', Grow (w.alloc o1) w' → w'.heap[w.heap.size]? = some o1 from fun o1 w' hg => by rw [hg.heapEq (by simp)]; exact heap_alloc_new w _)
  generalize hF : formR _ = F
  have HF := Lib.hid hF; clear hF
  obtain ⟨b1, hb1⟩ : ∃ b, decide (NameOk typ) = b := ⟨_, rfl⟩
  obtain ⟨b2, hb2⟩ : ∃ b, decide (NameOk name) = b := ⟨_, rfl⟩
  obtain ⟨b3, hb3⟩ : ∃ b, decide (NameOk from_) = b := ⟨_, rfl⟩
  obtain ⟨b4, hb4⟩ : ∃ b, decide (NameOk to_) = b := ⟨_, rfl⟩
  have H1 := Lib.hid hb1; have H2 := Lib.hid hb2; have H3 := Lib.hid hb3; have H4 := Lib.hid hb4
  clear hb1 hb2 hb3 hb4
  have HK := Lib.hid True.intro
  cases b1
  · skip
    have hF : F = false := by rw [← HF.out]; simp [formR, H1.out, *]
    subst hF
    clear HF
    go_enter Tryz.func11, Tryz.ntmps11
    go_wp2_with (go_at_call 38; (first | (with_reducible refine (refNameB H1.out _).mono ?_) | (with_reducible refine (refNameB H2.out _).mono ?_) | (with_reducible refine (refNameB H3.out _).mono ?_) | (with_reducible refine (refNameB H4.out _).mono ?_)); rintro e w3 ⟨rfl, rfl⟩)
    go_ret
    exact ⟨rfl, HW.out _⟩
  · skip
    by_cases h1 : name = ByteArray.empty
    · skip
      subst h1
      by_cases h2 : from_ = ByteArray.empty
      · skip
        subst h2
        by_cases h3 : to_ = ByteArray.empty
        · skip
          subst h3
          by_cases h4 : 0 ≤ n
          · skip
            have q4 : decide (0 ≤ n) = true := by simpa using h4
            by_cases h5 : n ≤ 1024
            · skip
              have q5 : decide (n ≤ 1024) = true := by simpa using h5
              have hF : F = true := by rw [← HF.out]; simp [formR, H1.out, *]
              subst hF
              clear HF
              go_enter Tryz.func11, Tryz.ntmps11
              go_wp2_with (go_at_call 38; (first | (with_reducible refine (refNameB H1.out _).mono ?_) | (with_reducible refine (refNameB H2.out _).mono ?_) | (with_reducible refine (refNameB H3.out _).mono ?_) | (with_reducible refine (refNameB H4.out _).mono ?_)); rintro e w3 ⟨rfl, rfl⟩)
              go_ret
              exact ⟨rfl, HW.out _⟩
            · skip
              have q5 : decide (n ≤ 1024) = false := by simpa using h5
              have hF : F = false := by rw [← HF.out]; simp [formR, H1.out, *]
              subst hF
              clear HF
              go_enter Tryz.func11, Tryz.ntmps11
              go_wp2_with (go_at_call 38; (first | (with_reducible refine (refNameB H1.out _).mono ?_) | (with_reducible refine (refNameB H2.out _).mono ?_) | (with_reducible refine (refNameB H3.out _).mono ?_) | (with_reducible refine (refNameB H4.out _).mono ?_)); rintro e w3 ⟨rfl, rfl⟩)
              go_ret
              exact ⟨rfl, HW.out _⟩
          · skip
            have q4 : decide (0 ≤ n) = false := by simpa using h4
            have hF : F = false := by rw [← HF.out]; simp [formR, H1.out, *]
            subst hF
            clear HF
            go_enter Tryz.func11, Tryz.ntmps11
            go_wp2_with (go_at_call 38; (first | (with_reducible refine (refNameB H1.out _).mono ?_) | (with_reducible refine (refNameB H2.out _).mono ?_) | (with_reducible refine (refNameB H3.out _).mono ?_) | (with_reducible refine (refNameB H4.out _).mono ?_)); rintro e w3 ⟨rfl, rfl⟩)
            go_ret
            exact ⟨rfl, HW.out _⟩
        · skip
          have q3 : (to_.toList == ([] : List UInt8)) = false := (empty_beq to_).trans (decide_eq_false h3)
          have hF : F = false := by rw [← HF.out]; simp [formR, H1.out, *]
          subst hF
          clear HF
          go_enter Tryz.func11, Tryz.ntmps11
          go_wp2_with (go_at_call 38; (first | (with_reducible refine (refNameB H1.out _).mono ?_) | (with_reducible refine (refNameB H2.out _).mono ?_) | (with_reducible refine (refNameB H3.out _).mono ?_) | (with_reducible refine (refNameB H4.out _).mono ?_)); rintro e w3 ⟨rfl, rfl⟩)
          go_ret
          exact ⟨rfl, HW.out _⟩
      · skip
        have q2 : (from_.toList == ([] : List UInt8)) = false := (empty_beq from_).trans (decide_eq_false h2)
        have hF : F = false := by rw [← HF.out]; simp [formR, H1.out, *]
        subst hF
        clear HF
        go_enter Tryz.func11, Tryz.ntmps11
        go_wp2_with (go_at_call 38; (first | (with_reducible refine (refNameB H1.out _).mono ?_) | (with_reducible refine (refNameB H2.out _).mono ?_) | (with_reducible refine (refNameB H3.out _).mono ?_) | (with_reducible refine (refNameB H4.out _).mono ?_)); rintro e w3 ⟨rfl, rfl⟩)
        go_ret
        exact ⟨rfl, HW.out _⟩
    · skip
      have q1 : (name.toList == ([] : List UInt8)) = false := (empty_beq name).trans (decide_eq_false h1)
      have hF : F = false := by rw [← HF.out]; simp [formR, H1.out, *]
      subst hF
      clear HF
      go_enter Tryz.func11, Tryz.ntmps11
      go_wp2_with (go_at_call 38; (first | (with_reducible refine (refNameB H1.out _).mono ?_) | (with_reducible refine (refNameB H2.out _).mono ?_) | (with_reducible refine (refNameB H3.out _).mono ?_) | (with_reducible refine (refNameB H4.out _).mono ?_)); rintro e w3 ⟨rfl, rfl⟩)
      go_ret
      exact ⟨rfl, HW.out _⟩
set_option maxRecDepth 100000 in
set_option maxHeartbeats 2000000 in
theorem refForm0 (id kind : Int) (typ name from_ to_ : ByteArray) (n state : Int) (hk : kind ≠ 1 ∧ kind ≠ 2 ∧ kind ≠ 3 ∧ kind ≠ 4) (w : World) : Calls Tryz.prog 11 #[(PRule.mk id kind typ name from_ to_ n state).args] w fun e w' => e = .returned (.bool (formR ⟨id, kind, typ, name, from_, to_, n, state⟩)) ∧ Grow w w' := by
  have HW := Lib.hid (show ∀ o1, Grow w (w.alloc o1) from fun o1 => (Grow.rfl' w).allocd o1)
  have HB := Lib.hid (show ∀ o1 w', Grow (w.alloc o1) w' → w'.heap[w.heap.size]? = some o1 from fun o1 w' hg => by rw [hg.heapEq (by simp)]; exact heap_alloc_new w _)
  generalize hF : formR _ = F
  have HF := Lib.hid hF; clear hF
  obtain ⟨b1, hb1⟩ : ∃ b, decide (NameOk typ) = b := ⟨_, rfl⟩
  obtain ⟨b2, hb2⟩ : ∃ b, decide (NameOk name) = b := ⟨_, rfl⟩
  obtain ⟨b3, hb3⟩ : ∃ b, decide (NameOk from_) = b := ⟨_, rfl⟩
  obtain ⟨b4, hb4⟩ : ∃ b, decide (NameOk to_) = b := ⟨_, rfl⟩
  have H1 := Lib.hid hb1; have H2 := Lib.hid hb2; have H3 := Lib.hid hb3; have H4 := Lib.hid hb4
  clear hb1 hb2 hb3 hb4
  obtain ⟨k1, k2, k3, k4⟩ := hk
  have HK := Lib.hid (And.intro k1 (And.intro k2 (And.intro k3 k4)))
  cases b1
  · skip
    have hF : F = false := by rw [← HF.out]; simp [formR, HK.out, H1.out, *]
    subst hF
    clear HF
    go_enter Tryz.func11, Tryz.ntmps11
    go_wp2_with (go_at_call 38; (first | (with_reducible refine (refNameB H1.out _).mono ?_) | (with_reducible refine (refNameB H2.out _).mono ?_) | (with_reducible refine (refNameB H3.out _).mono ?_) | (with_reducible refine (refNameB H4.out _).mono ?_)); rintro e w3 ⟨rfl, rfl⟩)
    go_ret
    exact ⟨rfl, HW.out _⟩
  · skip
    have hF : F = false := by rw [← HF.out]; simp [formR, HK.out, H1.out, *]
    subst hF
    clear HF
    go_enter Tryz.func11, Tryz.ntmps11
    go_wp2_with (go_at_call 38; (first | (with_reducible refine (refNameB H1.out _).mono ?_) | (with_reducible refine (refNameB H2.out _).mono ?_) | (with_reducible refine (refNameB H3.out _).mono ?_) | (with_reducible refine (refNameB H4.out _).mono ?_)); rintro e w3 ⟨rfl, rfl⟩)
    go_ret
    exact ⟨rfl, HW.out _⟩
theorem refForm (r : PRule) (w : World) : Calls Tryz.prog 11 #[r.args] w fun e w' => e = .returned (.bool (formR r)) ∧ Grow w w' := by
  obtain ⟨id, kind, typ, name, from_, to_, n, state⟩ := r
  by_cases k1 : kind = 1
  · subst k1; exact refForm1 id typ name from_ to_ n state w
  by_cases k2 : kind = 2
  · subst k2; exact refForm2 id typ name from_ to_ n state w
  by_cases k3 : kind = 3
  · subst k3; exact refForm3 id typ name from_ to_ n state w
  by_cases k4 : kind = 4
  · subst k4; exact refForm4 id typ name from_ to_ n state w
  exact refForm0 id kind typ name from_ to_ n state ⟨k1, k2, k3, k4⟩ w

end Go.Hg

namespace Go.Hg
open Go.RowKit Go.Proofs

theorem touchJ_r (J : PJob) (x : Int) : (touchJ J x).r = J.r ∧ (touchJ J x).chunk = J.chunk := by
  unfold touchJ
  split
  · exact ⟨rfl, rfl⟩
  · split <;> exact ⟨rfl, rfl⟩
end Go.Hg

namespace Go.Hg

theorem stepJ_r (G : PGraph) (J : PJob) : (stepJ G J).r = J.r ∧ (stepJ G J).chunk = J.chunk := by
  unfold stepJ
  simp only
  split
  · split <;> exact ⟨rfl, rfl⟩
  · exact ⟨rfl, rfl⟩
end Go.Hg

namespace Go.Hg
open Go.RowKit Go.Proofs

set_option maxRecDepth 100000 in
set_option maxHeartbeats 2000000 in
theorem refGet (S : Nat → Prop) (v : Value) (ps : List PProp) (name : ByteArray) (w : World) (h : PropsR S w v ps) :
    Calls Tryz.prog 81 #[v, .string name] w fun e w' => e = .returned (.agg #[.int .i64 (getV ps name).kind, .int .i64 (getV ps name).n, .string (getV ps name).s, .bool (getP ps name).isSome]) ∧ Grow w w' := by
  obtain ⟨aa, ca, rfl, hal, hac, hA⟩ := SlR.open h
  clear h
  unfold maxLen at hac
  have HA := Lib.hid hA; clear hA
  have HNB := Lib.hid (show ∀ o1, (w.alloc o1).heap[w.heap.size]? = some o1 from fun o1 => heap_alloc_new w _)
  have HW := Lib.hid (show ∀ o1, Grow w (w.alloc o1) from fun o1 => (Grow.rfl' w).allocd o1)
  go_enter Tryz.func81, Tryz.ntmps81
  go_wp2
  go_loopg [5] ps.length (fun g i wr => ∃ k : Nat, k ≤ ps.length ∧ g = ps.length - k ∧ i = .int .i64 k ∧ (∀ y ∈ ps.take k, y.name ≠ name) ∧ Grow w wr ∧ wr.heap[w.heap.size]? = some (.cells #[.int .i64 0, .int .i64 0, .string ByteArray.empty, .bool false] 138 (0, 0)))
  case atStart => exact ⟨0, by omega, by omega, rfl, by simp, HW.out _, HNB.out _⟩
  case round =>
    obtain ⟨k, hk, rfl, rfl, hall, hgr, hnb⟩ := hrel
    have hnl := blk_lt hnb
    have HALL := Lib.hid hall; have HG := Lib.hid hgr; have HB := Lib.hid hnb
    have z0 : wr.cell? ⟨w.heap.size, 0, none⟩ = some (.int .i64 0) := by rw [blk_cell hnb]; rfl
    have zf0 := blk_free hnb 0
    have z1 : wr.cell? ⟨w.heap.size, 1, none⟩ = some (.int .i64 0) := by rw [blk_cell hnb]; rfl
    have zf1 := blk_free hnb 1
    have z2 : wr.cell? ⟨w.heap.size, 2, none⟩ = some (.string ByteArray.empty) := by rw [blk_cell hnb]; rfl
    have zf2 := blk_free hnb 2
    have z3 : wr.cell? ⟨w.heap.size, 3, none⟩ = some (.bool false) := by rw [blk_cell hnb]; rfl
    have zf3 := blk_free hnb 3
    clear hall hnb
    by_cases hkl : k < ps.length
    · obtain ⟨ba, oa, ra, rfl, hSa, hba, hRa, hca⟩ := HA.out k ps[k] (List.getElem?_eq_getElem hkl)
      obtain ⟨hba', a0, a1, a2, a3⟩ := hRa.at hba hgr hca
      clear hca hRa hSa hba hgr
      have HE := Lib.hid (show ps[k]? = some ps[k] from List.getElem?_eq_getElem hkl)
      have HT := Lib.hid (show ps.take (k + 1) = ps.take k ++ [ps[k]] from List.take_succ_eq_append_getElem hkl)
      generalize ps[k] = x at *
      by_cases hx : x.name = name
      · have HF := Lib.hid (getP_take HE.out hx HALL.out)
        go_wp2
        refine bodyPost_ret (v := .agg #[.int .i64 x.v.kind, .int .i64 x.v.n, .string x.v.s, .bool true]) ?_ rfl ⟨by unfold getV; rw [HF.out]; rfl, ?_⟩
        · rw [results_cell1 rfl]
          go_simp
        · exact ((((HG.out).setd (p := ⟨w.heap.size, 0, none⟩) (Nat.le_refl _) _).setd (p := ⟨w.heap.size, 1, none⟩) (Nat.le_refl _) _).setd (p := ⟨w.heap.size, 2, none⟩) (Nat.le_refl _) _).setd (p := ⟨w.heap.size, 3, none⟩) (Nat.le_refl _) _
      · have HX := Lib.hid hx
        go_wp2
        go_roundg (ps.length - (k + 1))
        case measure => omega
        case rel =>
          refine ⟨k + 1, by omega, rfl, by go_num, ?_, HG.out, HB.out⟩
          · rw [HT.out]
            intro y hy
            rcases List.mem_append.1 hy with h | h
            · exact HALL.out y h
            · rw [List.mem_singleton] at h
              subst h
              exact HX.out
    · have hkk : ps.take k = ps := List.take_of_length_le (by omega)
      rw [hkk] at HALL
      have HF := Lib.hid (getP_none HALL.out)
      clear hkk
      go_wp2
      refine bodyPost_ret (v := .agg #[.int .i64 0, .int .i64 0, .string ByteArray.empty, .bool false]) ?_ rfl ⟨by unfold getV; rw [HF.out]; rfl, ?_⟩
      · rw [results_cell1 rfl]
        go_simp
        rfl
      · exact ((((HG.out).setd (p := ⟨w.heap.size, 0, none⟩) (Nat.le_refl _) _).setd (p := ⟨w.heap.size, 1, none⟩) (Nat.le_refl _) _).setd (p := ⟨w.heap.size, 2, none⟩) (Nat.le_refl _) _).setd (p := ⟨w.heap.size, 3, none⟩) (Nat.le_refl _) _

set_option maxRecDepth 100000 in
set_option maxHeartbeats 2000000 in
theorem refIs (S : Nat → Prop) (v : Value) (nodes : List PNode) (id : Int) (typ : ByteArray) (w : World) (h : NodesR S w v nodes) :
    Calls Tryz.prog 83 #[v, .int .i64 id, .string typ] w fun e w' => e = .returned (.bool (isT nodes id typ)) ∧ w = w' := by
  obtain ⟨aa, ca, rfl, hal, hac, hA⟩ := SlR.open h
  clear h
  unfold maxLen at hac
  have HA := Lib.hid hA; clear hA
  go_enter Tryz.func83, Tryz.ntmps83
  go_wp2
  go_loopg [7] nodes.length (fun g i wr => ∃ k : Nat, k ≤ nodes.length ∧ g = nodes.length - k ∧ i = .int .i64 k ∧ (∀ y ∈ nodes.take k, y.id ≠ id) ∧ w = wr)
  case atStart => exact ⟨0, by omega, by omega, rfl, by simp, rfl⟩
  case round =>
    obtain ⟨k, hk, rfl, rfl, hall, rfl⟩ := hrel
    have HALL := Lib.hid hall
    clear hall
    by_cases hkl : k < nodes.length
    · obtain ⟨ba, oa, ra, rfl, hSa, hba, hRa, hca⟩ := HA.out k nodes[k] (List.getElem?_eq_getElem hkl)
      obtain ⟨pva, hba', a0, a1, a2, hpa⟩ := hRa.at hba (Grow.rfl' w) hca
      clear hca hRa hSa hba hpa
      have HE := Lib.hid (show nodes[k]? = some nodes[k] from List.getElem?_eq_getElem hkl)
      have HT := Lib.hid (show nodes.take (k + 1) = nodes.take k ++ [nodes[k]] from List.take_succ_eq_append_getElem hkl)
      generalize nodes[k] = x at *
      by_cases hx : x.id = id
      · have HF := Lib.hid (typeN_take HE.out hx HALL.out)
        go_wp2
        go_ret
        exact ⟨by unfold isT; rw [HF.out]; simp, rfl⟩
      · have HX := Lib.hid hx
        go_wp2
        go_roundg (nodes.length - (k + 1))
        case measure => omega
        case rel =>
          refine ⟨k + 1, by omega, rfl, by go_num, ?_, rfl⟩
          · rw [HT.out]
            intro y hy
            rcases List.mem_append.1 hy with h | h
            · exact HALL.out y h
            · rw [List.mem_singleton] at h
              subst h
              exact HX.out
    · have hkk : nodes.take k = nodes := List.take_of_length_le (by omega)
      rw [hkk] at HALL
      have HF := Lib.hid (typeN_none HALL.out)
      clear hkk
      go_wp2
      go_ret
      exact ⟨by unfold isT; rw [HF.out]; rfl, rfl⟩
end Go.Hg

namespace Go.Hg

theorem formR_most {r : PRule} (h : formR r = true) (k1 : r.kind ≠ 1) (k2 : r.kind ≠ 2) (k3 : r.kind ≠ 3) : 0 ≤ r.n := by
  have k4 : r.kind = 4 := by rcases formR_kind h with h | h | h | h <;> first | exact h | contradiction
  unfold formR at h
  rw [Bool.and_eq_true, if_neg (by rintro (h | h) <;> contradiction), if_neg k3, if_pos k4] at h
  simp only [Bool.and_eq_true, decide_eq_true_eq] at h
  exact h.2.2.2.2.1
theorem BrokenR.nil_iff {nodes : List PNode} {edges : List PEdge} {r : PRule} {l : List Int} (h : BrokenR nodes edges r l) (hf : formR r = true) : keepR nodes edges r = decide (l = []) := by
  have h1 := h.2 hf
  unfold keepR holdR
  rw [hf, Bool.true_and]
  unfold BrkR at h1
  by_cases k1 : r.kind = 1
  · rw [if_pos k1] at h1 ⊢
    rw [uniqR_iff, h1, Bool.eq_iff_iff]
    simp [List.filter_eq_nil_iff]
  · rw [if_neg k1] at h1 ⊢
    by_cases k2 : r.kind = 2
    · rw [if_pos k2] at h1 ⊢
      rw [h1, Bool.eq_iff_iff]
      simp [List.filter_eq_nil_iff]
    · rw [if_neg k2] at h1 ⊢
      by_cases k3 : r.kind = 3
      · rw [if_pos k3] at h1 ⊢
        rw [h1, Bool.eq_iff_iff]
        simp [List.filter_eq_nil_iff]
      · rw [if_neg k3] at h1 ⊢
        have hn := formR_most hf k1 k2 k3
        rw [Bool.eq_iff_iff, decide_eq_true_eq]
        unfold mostR
        rw [List.all_eq_true]
        constructor
        · intro hall
          rw [List.eq_nil_iff_forall_not_mem]
          intro x hx
          have h2 := (h1.2 x).1 hx
          obtain ⟨e, he, ht, rfl⟩ := outR_pos (edges := edges) (r := r) (x := x) (by omega)
          have h3 := hall e he
          simp [ht] at h3
          omega
        · rintro rfl e he
          by_cases ht : e.typ = r.typ
          · have h3 : ¬ r.n < (outR edges r e.from_ : Int) := fun hc => absurd ((h1.2 e.from_).2 hc) (by simp)
            simp [ht]
            omega
          · simp [ht]

end Go.Hg

namespace Go.Hg
open Go.RowKit Go.Proofs

structure RowT (P : Program) (e : TypeId) (sz bytes : Nat) : Prop where
  info : ∃ i z, P.info? e = some i ∧ i.zero = some z ∧ i.size = sz ∧ i.bytes = bytes ∧ z.cells.size = sz
  pos : 0 < sz
theorem RowT.of {P : Program} {e : TypeId} {z : Value} {sz bytes : Nat} (h : (P.info? e).map (fun i => (i.zero, i.size, i.bytes)) = some (some z, sz, bytes)) (hz : z.cells.size = sz) (hs : 0 < sz) : RowT P e sz bytes := by
  obtain ⟨i, h1, h2, h3, h4⟩ := info_parts h
  exact ⟨⟨i, z, h1, h2, h3, h4, hz⟩, hs⟩
section
variable {α : Type} {e : TypeId} {sz : Nat} {R : α → List Value → Prop} {n : Nat} {w w' : World} {v : Value} {l : List α}
theorem OwnN.base {m : Nat} (h : OwnN e sz R n w v l) (hm : m ≤ n) : OwnN e sz R m w v l := by
  obtain ⟨ob, h1, h2⟩ := h
  exact ⟨ob, h1, fun q hq => Nat.le_trans hm (h2 q hq)⟩
end
end Go.Hg

namespace Go.Hg
open Go.RowKit Go.Proofs

theorem SlR.rdN {α : Type} {S : Nat → Prop} {w : World} {sz : Nat} {R : α → List Value → Prop} {v : Value} {l : List α} (h : SlR S w sz R v l) (hs : 0 < sz) (hR : ∀ x r, R x r → r.length = sz) :
    ∃ rows : List (List Value), rows.length = l.length ∧ (∀ (k : Nat) x r, l[k]? = some x → rows[k]? = some r → R x r ∧ r.length = sz) ∧ Rd w sz v l.length rows.flatten := by
  obtain ⟨a, cap, rows, rfl, h1, h2, h3, h4, h5⟩ := h
  have hrl : ∀ r ∈ rows, r.length = sz := by
    intro r hr
    obtain ⟨k, hk, e⟩ := List.getElem_of_mem hr
    exact hR (l[k]'(by omega)) r (h4 k _ r (List.getElem?_eq_getElem (by omega)) (by rw [List.getElem?_eq_getElem hk, e]))
  have hfl : rows.flatten.length = l.length * sz := by
    rw [← h3]
    clear h3 h4 h5
    induction rows with
    | nil => simp
    | cons r t ih =>
      rw [List.flatten_cons, List.length_append, hrl r (.head _), ih (fun r hr => hrl r (.tail _ hr)), List.length_cons, Nat.succ_mul]
      omega
  refine ⟨rows, h3, fun k x r hx hr => ⟨h4 k x r hx hr, hrl r (List.mem_of_getElem? hr)⟩, hfl, a, cap, rfl, ?_⟩
  by_cases h0 : l.length = 0
  · exact .inl h0
  · obtain ⟨b, off, rfl, -, -, hc⟩ := h5 (by omega)
    refine .inr ⟨_, rfl, fun i u hi => ?_⟩
    have hil : i < l.length * sz := by rw [← hfl]; exact (List.getElem?_eq_some_iff.1 hi).1
    have hk : i / sz < rows.length := by rw [h3]; exact Nat.div_lt_of_lt_mul (by rw [Nat.mul_comm]; exact hil)
    have hj : i % sz < (rows[i / sz]).length := by rw [hrl _ (List.getElem_mem hk)]; exact Nat.mod_lt _ hs
    have h6 := flatten_at rows sz (i / sz) (i % sz) rows[i / sz] _ hrl (List.getElem?_eq_getElem hk) (List.getElem?_eq_getElem hj)
    have e : i / sz * sz + i % sz = i := by rw [Nat.mul_comm]; exact Nat.div_add_mod i sz
    rw [e, hi] at h6
    have h7 := hc (i / sz) rows[i / sz] (i % sz) _ (List.getElem?_eq_getElem hk) (List.getElem?_eq_getElem hj)
    have hadd : (⟨b, off, none⟩ : Addr).add i = ⟨b, off + i, none⟩ := by unfold Addr.add; split <;> simp_all
    rw [hadd]
    rw [show off + i / sz * sz + i % sz = off + i by omega] at h7
    rw [h7, ← h6]
theorem wpList_append_L {P : Program} {α : Type} {R : α → List Value → Prop} {S : Nat → Prop} {w : World} {ops : Array Oper} {rest : List Oper} {o : Oper} {a : Act} {Q : Exit → Act → World → Prop} (hgd : o.guard = none) (s x : Operand) (t : TypeId)
    (ho : o.op = .call { callee := .builtin .append, args := #[s, x], argTypes := #[t, t] }) {e : TypeId} {sz bytes : Nat} (T : RowT P e sz bytes) (ht : P.underlying t = some (.slice e)) (n : Nat) (nb : Nat) (hs : a.eval s = .slice (some ⟨nb, 0, none⟩) 0 0)
    (xv : Value) (hx : a.eval x = xv) (l : List α) (hl : SlR S w sz R xv l) (hR : ∀ x r, R x r → r.length = sz ∧ ∀ u ∈ r, u.oneCell' = true) (hn : n ≤ w.heap.size) (hlm : l.length ≤ maxLen) (hby : l.length * bytes ≤ 140737488355328)
    (hK : ∀ v' w', OwnN e sz R n w' v' l → Grow w w' → wpList P ops Q rest (a.put o.dst v') w') : wpList P ops Q (o :: rest) a w := by
  obtain ⟨rows, h1, h2, h3⟩ := SlR.rdN hl T.pos (fun x r h => (hR x r h).1)
  obtain ⟨⟨iP, z, hiP, hzP0, hzP1, hzP2, hzz⟩, hpos⟩ := T
  have hone : ∀ u ∈ rows.flatten, u.oneCell' = true := by
    intro u hu
    obtain ⟨r, hr, hur⟩ := List.mem_flatten.1 hu
    obtain ⟨k, hk, e⟩ := List.getElem_of_mem hr
    exact (hR _ r (h2 k (l[k]'(by omega)) r (List.getElem?_eq_getElem (by omega)) (by rw [List.getElem?_eq_getElem hk, e])).1).2 u hur
  refine wpList_append_S w hgd s x t ho e iP z sz bytes ht hiP hzP0 hzP1 hzP2 hzz hpos _ 0 [] none hs ⟨by simp, .inl ⟨_, rfl, rfl, rfl, by simp⟩⟩ _ hx l.length _ h3 hone (by omega) (by rw [Nat.zero_add]; exact hby) ?_
  intro v' w' ob' k1 k2 k3 _
  have hg : Grow w w' := (k2.mono (F' := fun _ => False) (fun q hq => by cases hq)).grow
  refine hK v' w' ⟨ob', ⟨rows, h1, h2, ?_⟩, ?_⟩ hg
  · simpa using k1
  · intro q hq
    rcases k3 with k3 | ⟨g, k3, hg⟩
    · rw [k3] at hq; cases hq
    · rw [k3] at hq; cases hq; omega
end Go.Hg

namespace Go.Hg
open Go.RowKit Go.Proofs MapKept Go.Maps

theorem valR_eq (r : PRule) (x : PNode) : valR r x = if ((getP x.props r.name).isSome && decide (x.typ = r.typ)) = true then some (getV x.props r.name) else none := by
  unfold valR getV
  by_cases h : x.typ = r.typ
  · cases hp : getP x.props r.name <;> simp [h]
  · simp [h]

end Go.Hg

namespace Go.Hg
open Go.RowKit Go.Proofs

def BrokPost (N : List PNode) (E : List PEdge) (r : PRule) (w : World) (e : Ending) (w' : World) : Prop := ∃ v L, e = .returned v ∧ BrokenR N E r L ∧ IdsR (fun b => w.heap.size ≤ b) w' v L ∧ Grow w w'
theorem BrokPost.of {N : List PNode} {E : List PEdge} {r : PRule} {w w1 w' : World} {v : Value} {L : List Int} (hb : BrokenR N E r L) (h : IdsR (fun b => w1.heap.size ≤ b) w' v L) (g : Grow w w1) (g' : Grow w1 w') : BrokPost N E r w (.returned v) w' :=
  ⟨v, L, rfl, hb, SlR.sub h (fun _ hb => Nat.le_trans g.size hb) (fun _ _ _ h => h), g.step g'⟩
theorem ruleBoxNew (w : World) (r : PRule) (w' : World) (g : Grow (w.alloc (.cells #[.int .i64 r.id, .int .i64 r.kind, .string r.typ, .string r.name, .string r.from_, .string r.to_, .int .i64 r.n, .int .i64 r.state] 23 (0, 0))) w') : RuleBox w' w.heap.size r := by
  unfold RuleBox
  rw [g.heapEq (by simp)]
  exact heap_alloc_new w _

end Go.Hg

namespace Go.Hg
open Go.RowKit Go.Proofs

def ltV (a b : PVal) : Bool := decide (a.kind < b.kind) || (decide (a.kind = b.kind) && (decide (a.n < b.n) || (decide (a.n = b.n) && ltS a.s b.s)))
def cmpV (a b : PVal) : Int := if ltV a b = true then -1 else if a = b then 0 else 1
theorem ltV_irrefl (a : PVal) : ltV a a = false := by simp [ltV, ltS_irrefl]
theorem cmpV_zero (a b : PVal) : decide (cmpV a b = 0) = decide (a = b) := by
  unfold cmpV
  by_cases h : a = b
  · subst h; rw [ltV_irrefl]; simp
  · by_cases h2 : ltV a b = true <;> simp [h, h2]
theorem int_beq (a b : Int) : (a == b) = decide (a = b) := by by_cases h : a = b <;> simp [h]
theorem pval_eq (a b : PVal) : a = b ↔ a.kind = b.kind ∧ a.n = b.n ∧ a.s = b.s := by
  constructor
  · rintro rfl; exact ⟨rfl, rfl, rfl⟩
  · intro h; cases a; cases b; simp_all

set_option maxRecDepth 100000 in
set_option maxHeartbeats 2000000 in
theorem refCompare (a b : PVal) (w : World) :
    Calls Tryz.prog 82 #[a.args, b.args] w fun e w' => e = .returned (.int .i64 (cmpV a b)) ∧ Grow w w' := by
  have HW := Lib.hid (show ∀ o1 o2, Grow w ((w.alloc o1).alloc o2) from fun o1 o2 => ((Grow.rfl' w).allocd o1).allocd o2)
  have HE := Lib.hid (show a = b ↔ _ from pval_eq a b)
  obtain ⟨k1, hk1⟩ : ∃ x, decide (a.kind < b.kind) = x := ⟨_, rfl⟩
  obtain ⟨k2, hk2⟩ : ∃ x, (a.kind == b.kind) = x := ⟨_, rfl⟩
  obtain ⟨n1, hn1⟩ : ∃ x, decide (a.n < b.n) = x := ⟨_, rfl⟩
  obtain ⟨n2, hn2⟩ : ∃ x, (a.n == b.n) = x := ⟨_, rfl⟩
  obtain ⟨s1, hs1⟩ : ∃ x, Op.bytesLess a.s.toList b.s.toList = x := ⟨_, rfl⟩
  obtain ⟨s2, hs2⟩ : ∃ x, decide (a.s = b.s) = x := ⟨_, rfl⟩
  have HC := Lib.hid (show cmpV a b = if (k1 || (k2 && (n1 || (n2 && s1)))) = true then -1 else if (k2 && (n2 && s2)) = true then 0 else 1 by
    unfold cmpV ltV ltS
    rw [hk1, ← hk2, hn1, ← hn2, hs1]
    simp only [int_beq]
    congr 1
    by_cases h : a = b
    · have h2 := HE.out.1 h
      rw [if_pos h, if_pos (by rw [← hs2]; simp [h2])]
    · rw [if_neg h, if_neg (fun hh => h (HE.out.2 (by rw [← hs2] at hh; simpa using hh)))])
  cases k1
  · cases k2
    · go_enter Tryz.func82, Tryz.ntmps82
      go_wp2
      go_ret
      exact ⟨by rw [HC.out]; rfl, HW.out _ _⟩
    · cases n1
      · cases n2
        · go_enter Tryz.func82, Tryz.ntmps82
          go_wp2
          go_ret
          exact ⟨by rw [HC.out]; rfl, HW.out _ _⟩
        · cases s1
          · cases s2
            · go_enter Tryz.func82, Tryz.ntmps82
              go_wp2
              go_ret
              exact ⟨by rw [HC.out]; rfl, HW.out _ _⟩
            · go_enter Tryz.func82, Tryz.ntmps82
              go_wp2
              go_ret
              exact ⟨by rw [HC.out]; rfl, HW.out _ _⟩
          · go_enter Tryz.func82, Tryz.ntmps82
            go_wp2
            go_ret
            exact ⟨by rw [HC.out]; rfl, HW.out _ _⟩
      · go_enter Tryz.func82, Tryz.ntmps82
        go_wp2
        go_ret
        exact ⟨by rw [HC.out]; rfl, HW.out _ _⟩
  · go_enter Tryz.func82, Tryz.ntmps82
    go_wp2
    go_ret
    exact ⟨by rw [HC.out]; rfl, HW.out _ _⟩
end Go.Hg

namespace Go.Hg
open Go.RowKit Go.Proofs

def RBrk (N : List PNode) (E : List PEdge) (r : PRule) (L : List Int) : Prop :=
  (formR r = false → L = []) ∧ (formR r = true → if r.kind = 4 then L.Nodup ∧ ∀ x, x ∈ L ↔ r.n < (outR E r x : Int) else BrkR N E r L)
def RBrkPost (N : List PNode) (E : List PEdge) (r : PRule) (w : World) (e : Ending) (w' : World) : Prop := ∃ v L, e = .returned v ∧ RBrk N E r L ∧ IdsW w.heap.size w' v L ∧ Grow w w'
theorem RBrkPost.of {N : List PNode} {E : List PEdge} {r : PRule} {w w1 w' : World} {v : Value} {L : List Int} (hb : BrokenR N E r L) (hk : r.kind ≠ 4) (h : IdsW w1.heap.size w' v L) (g : Grow w w1) (g' : Grow w1 w') : RBrkPost N E r w (.returned v) w' :=
  ⟨v, L, rfl, ⟨hb.1, fun hf => by rw [if_neg hk]; exact hb.2 hf⟩, h.base g.size, g.step g'⟩

theorem filt_snoc {α : Type} {l : List α} {p : α → Bool} (f : α → Int) {j : Nat} {x : α} (hT : l.take (j + 1) = l.take j ++ [x]) {fl : List Int} (hfl : ((l.take j).filter p).map f = fl) {b : Bool} (hb : p x = b) :
    ((l.take (j + 1)).filter p).map f = if b = true then fl ++ [f x] else fl := by
  rw [hT, List.filter_append, ← hfl, List.map_append]
  cases b
  · rw [if_neg (by simp)]; simp [hb]
  · rw [if_pos rfl]; simp [hb]
theorem refIsB {S : Nat → Prop} {v : Value} {nodes : List PNode} {id : Int} {typ : ByteArray} {w : World} {b : Bool} (h : NodesR S w v nodes) (hb : isT nodes id typ = b) :
    Calls Tryz.prog 83 #[v, .int .i64 id, .string typ] w fun e w' => e = .returned (.bool b) ∧ Grow w w' := by
  subst hb
  exact (refIs S v nodes id typ w h).mono fun e w' ⟨he, hw⟩ => ⟨he, by subst hw; exact Grow.rfl' _⟩

set_option maxRecDepth 100000 in
set_option maxHeartbeats 1000000 in
theorem refBrokenNo (nv ev : Value) (N : List PNode) (E : List PEdge) (r : PRule) (w : World) (hf : formR r = false) :
    Calls Tryz.prog 48 #[nv, ev, r.args] w (RBrkPost N E r w) := by
  have HF := Lib.hid hf
  have HW := Lib.hid (show ∀ o1, Grow w (w.alloc o1) from fun o1 => (Grow.rfl' w).allocd o1)
  clear hf
  go_enter Tryz.func48, Tryz.ntmps48
  go_wp2_with fail
  refine (refForm r _).mono ?_
  rintro e w2 ⟨rfl, g2⟩
  have HG2 := Lib.hid ((HW.out _).step g2)
  rw [HF.out]
  clear g2
  go_wp2
  go_ret
  exact ⟨_, [], rfl, ⟨fun _ => rfl, fun h => absurd h (by rw [HF.out]; simp)⟩, IdsW.nil _ _, HG2.out⟩

set_option maxRecDepth 100000 in
set_option maxHeartbeats 4000000 in
theorem refBrokenEnds (S : Nat → Prop) (nv ev : Value) (N : List PNode) (E : List PEdge) (r : PRule) (w : World) (hn : NodesR S w nv N) (he : EdgesR S w ev E) (hb : E.length ≤ 1099511627776) (hf : formR r = true) (hk : r.kind = 3) :
    Calls Tryz.prog 48 #[nv, ev, r.args] w (RBrkPost N E r w) := by
  have HF := Lib.hid hf; have HK := Lib.hid hk; have HBD := Lib.hid hb; have HN := Lib.hid hn
  have HW := Lib.hid (show ∀ o1, Grow w (w.alloc o1) from fun o1 => (Grow.rfl' w).allocd o1)
  obtain ⟨_, _, rfl, _⟩ := SlR.open hn
  obtain ⟨ae, ce, rfl, hel, hec, hE⟩ := SlR.open he
  unfold maxLen at hec
  have HE := Lib.hid hE
  clear hf hk hb hn he hE
  go_enter Tryz.func48, Tryz.ntmps48
  go_wp2_with fail
  refine (refForm r _).mono ?_
  rintro e w2 ⟨rfl, g2⟩
  have HG2 := Lib.hid ((HW.out _).step g2)
  have HRB := Lib.hid (ruleBoxNew w r w2 g2)
  obtain ⟨hrl, c1, c2, c3, c4, c5, c6, c7, c0⟩ := HRB.out.cells
  rw [HF.out]
  rw [HK.out] at c1
  have HI0 := Lib.hid (IdsW.nil w2.heap.size w2)
  clear g2
  go_wp2
  clear c1 c2 c3 c4 c5 c6 c7 c0
  go_loopg [7, 13] E.length (fun g lv i wr => ∃ j : Nat, j ≤ E.length ∧ g = E.length - j ∧ i = .int .i64 j ∧ IdsW w2.heap.size wr lv (((E.take j).filter (wrongR N r)).map (·.id)) ∧ Grow w2 wr)
  case atStart => exact ⟨0, by omega, by omega, rfl, HI0.out, Grow.rfl' w2⟩
  case round =>
    obtain ⟨j, hj, rfl, rfl, hi, hz⟩ := hrel
    obtain ⟨oa, co, rfl, _, _⟩ := hi.isSlice
    have HI := Lib.hid hi; have HZ := Lib.hid hz
    clear hi
    by_cases hjl : j < E.length
    · obtain ⟨ba, oa', ra, rfl, hSa, hba, hRa, hca⟩ := HE.out j E[j] (List.getElem?_eq_getElem hjl)
      have HX := Lib.hid (show ∀ w', Grow w w' → ba < w'.heap.size ∧ w'.cell? ⟨ba, oa' + j * 5, none⟩ = some (.int .i64 E[j].id) ∧ w'.cell? ⟨ba, oa' + j * 5 + 1, none⟩ = some (.string E[j].typ) ∧ w'.cell? ⟨ba, oa' + j * 5 + 2, none⟩ = some (.int .i64 E[j].from_) ∧ w'.cell? ⟨ba, oa' + j * 5 + 3, none⟩ = some (.int .i64 E[j].to_) from fun w' g => by
        obtain ⟨pva, h1, h2, h3, h4, h5, _, _⟩ := hRa.at hba g hca
        exact ⟨h1, h2, h3, h4, h5⟩)
      clear hca hRa hSa hba hz
      have HT := Lib.hid (show E.take (j + 1) = E.take j ++ [E[j]] from List.take_succ_eq_append_getElem hjl)
      have HLE := Lib.hid (show (((E.take j).filter (wrongR N r)).map (·.id)).length ≤ E.length by
        rw [List.length_map]
        exact Nat.le_trans (List.length_filter_le _ _) (by rw [List.length_take]; omega))
      generalize E[j] = x at *
      obtain ⟨bt, hbt⟩ : ∃ b, decide (x.typ = r.typ) = b := ⟨_, rfl⟩
      obtain ⟨bf, hbf⟩ : ∃ b, isT N x.from_ r.from_ = b := ⟨_, rfl⟩
      obtain ⟨bo, hbo⟩ : ∃ b, isT N x.to_ r.to_ = b := ⟨_, rfl⟩
      have HV := Lib.hid (show wrongR N r x = (bt && !(bf && bo)) by unfold wrongR; rw [hbt, hbf, hbo])
      have HBF := Lib.hid hbf; have HBO := Lib.hid hbo
      clear hbf hbo
      generalize hfl : ((E.take j).filter (wrongR N r)).map (·.id) = fl at *
      have HFF := Lib.hid hfl
      clear hfl
      have HWR := Lib.hid (HG2.out.step HZ.out)
      have HNR := Lib.hid (show ∀ g : Gr wr, NodesR S g.x _ N from fun g => HN.out.grow (HWR.out.step g.h))
      obtain ⟨hal, a0, a1, a2, a3⟩ := HX.out wr HWR.out
      obtain ⟨hrl', c1, c2, c3, c4, c5, c6, c7, c0⟩ := (HRB.out.grow HZ.out).cells
      clear c1 c3 c6 c7 c0
      have HD := Lib.hid (filt_snoc (·.id) HT.out HFF.out HV.out)
      clear HV
      have HYES := Lib.hid (show ∀ (w4 : World), Grow wr w4 → ∀ o1, Grow w2 (w4.alloc o1) ∧ IdsW w2.heap.size (w4.alloc o1) (.slice oa fl.length co) fl from fun w4 h o1 => ⟨(HZ.out.step h).allocd o1, (HI.out.grow h).grow ((Grow.rfl' w4).allocd o1)⟩)
      have HNO := Lib.hid (show ∀ (w4 : World), Grow wr w4 → Grow w2 w4 ∧ IdsW w2.heap.size w4 (.slice oa fl.length co) fl from fun w4 h => ⟨HZ.out.step h, HI.out.grow h⟩)
      cases bt
      · go_wp2_with fail
        refine wp_region_grow (by kernel_rfl) (by kernel_rfl) ?_
        repeat (go_big_quiet_step (fail))
        refine wpQuiet_nil ?_
        intro w4 hw4
        go_wp2_with fail
        go_roundg (E.length - (j + 1))
        case measure => omega
        case rel => exact ⟨j + 1, by omega, rfl, by go_num, by rw [HD.out, if_neg (by simp)]; exact (HNO.out _ hw4).2, (HNO.out _ hw4).1⟩
      · cases bf
        · go_wp2_with fail
          refine wp_region_grow (by kernel_rfl) (by kernel_rfl) ?_
          repeat (go_big_quiet_step (exact calls_gr (refIsB (HNR.out _) HBF.out)))
          refine wpQuiet_nil ?_
          intro w4 hw4
          have HW4 := Lib.hid hw4
          have hx := HX.out _ (HWR.out.step hw4)
          obtain ⟨hal4, b0, -, -, -⟩ := hx
          have hzs := (HNO.out _ hw4).1.size
          clear a0 a1 a2 a3 hal hw4 c2 c4 c5
          go_wp2_with (at_builtin; go_must (refine wpList_append_I rfl (.tmp 149) (.tmp 155) 25 rfl Tryz.underlying25 w2.heap.size _ fl rfl (HYES.out _ HW4.out _).2 x.id _ rfl (rd1 _ _ _ (by simp)) (by simp; omega) (by have := HLE.out; have := HBD.out; omega) ?_))
          intro v5 w6 k1 k2 k3
          have H5 := Lib.hid k1; have HG5 := Lib.hid ((HYES.out _ HW4.out _).1.since k2 (Nat.le_refl _))
          clear k1 k2 k3
          go_wp2
          go_roundg (E.length - (j + 1))
          case measure => omega
          case rel => exact ⟨j + 1, by omega, rfl, by go_num, by rw [HD.out, if_pos (by simp)]; exact H5.out, HG5.out⟩
        · cases bo
          · go_wp2_with fail
            refine wp_region_grow (by kernel_rfl) (by kernel_rfl) ?_
            repeat (go_big_quiet_step (first | exact calls_gr (refIsB (HNR.out _) HBF.out) | exact calls_gr (refIsB (HNR.out _) HBO.out)))
            refine wpQuiet_nil ?_
            intro w4 hw4
            have HW4 := Lib.hid hw4
            have hx := HX.out _ (HWR.out.step hw4)
            obtain ⟨hal4, b0, -, -, -⟩ := hx
            have hzs := (HNO.out _ hw4).1.size
            clear a0 a1 a2 a3 hal hw4 c2 c4 c5
            go_wp2_with (at_builtin; go_must (refine wpList_append_I rfl (.tmp 149) (.tmp 155) 25 rfl Tryz.underlying25 w2.heap.size _ fl rfl (HYES.out _ HW4.out _).2 x.id _ rfl (rd1 _ _ _ (by simp)) (by simp; omega) (by have := HLE.out; have := HBD.out; omega) ?_))
            intro v5 w6 k1 k2 k3
            have H5 := Lib.hid k1; have HG5 := Lib.hid ((HYES.out _ HW4.out _).1.since k2 (Nat.le_refl _))
            clear k1 k2 k3
            go_wp2
            go_roundg (E.length - (j + 1))
            case measure => omega
            case rel => exact ⟨j + 1, by omega, rfl, by go_num, by rw [HD.out, if_pos (by simp)]; exact H5.out, HG5.out⟩
          · go_wp2_with fail
            refine wp_region_grow (by kernel_rfl) (by kernel_rfl) ?_
            repeat (go_big_quiet_step (first | exact calls_gr (refIsB (HNR.out _) HBF.out) | exact calls_gr (refIsB (HNR.out _) HBO.out)))
            refine wpQuiet_nil ?_
            intro w4 hw4
            go_wp2_with fail
            go_roundg (E.length - (j + 1))
            case measure => omega
            case rel => exact ⟨j + 1, by omega, rfl, by go_num, by rw [HD.out, if_neg (by simp)]; exact (HNO.out _ hw4).2, (HNO.out _ hw4).1⟩
    · have hkk : E.take j = E := List.take_of_length_le (by omega)
      rw [hkk] at HI
      simp only [hkk]
      have HR := Lib.hid (RBrkPost.of (N := N) (E := E) (r := r) ⟨fun h => absurd h (by rw [HF.out]; simp), fun _ => by unfold BrkR; rw [if_neg (by have := HK.out; omega), if_neg (by have := HK.out; omega), if_pos HK.out]⟩ (by have := HK.out; omega) HI.out HG2.out HZ.out)
      clear hkk
      go_wp2
      go_ret
      exact HR.out
end Go.Hg

namespace Go.Hg
open Go.RowKit Go.Proofs

theorem firstE_step {E : List PEdge} {r : PRule} {y : Int} {j k : Nat} {e : PEdge} (hT : E.take (k + 1) = E.take k ++ [e]) : firstE E r y j (k + 1) = if mtE r y e = true then (firstE E r y j k && decide (j ≤ k)) else firstE E r y j k := by
  unfold firstE
  by_cases hk : j ≤ k
  · rw [Nat.min_eq_right (by omega), Nat.min_eq_right hk]
    by_cases h : mtE r y e = true <;> simp [h, hk]
  · rw [Nat.min_eq_left (by omega), Nat.min_eq_left (by omega), outR_take hT]
    by_cases h : mtE r y e = true
    · simp [h, hk]
    · simp [h]
theorem MostI.start (E : List PEdge) (r : PRule) : MostI E r 0 [] := ⟨.nil, fun y => by simp [outR]⟩
theorem MostI.done {E : List PEdge} {r : PRule} {l : List Int} (h : MostI E r E.length l) (hn : 0 ≤ r.n) : l.Nodup ∧ ∀ y, y ∈ l ↔ r.n < (outR E r y : Int) := by
  refine ⟨h.1, fun y => ?_⟩
  rw [h.2, List.take_length]
  constructor
  · exact fun g => g.1
  · exact fun g => ⟨g, by omega⟩

set_option maxRecDepth 100000 in
set_option maxHeartbeats 8000000 in
theorem refBrokenMost (S : Nat → Prop) (nv ev : Value) (N : List PNode) (E : List PEdge) (r : PRule) (w : World) (hn : NodesR S w nv N) (he : EdgesR S w ev E) (hb : E.length ≤ 1099511627776) (hf : formR r = true) (hk : r.kind = 4) :
    Calls Tryz.prog 48 #[nv, ev, r.args] w (RBrkPost N E r w) := by
  have HF := Lib.hid hf; have HK := Lib.hid hk; have HBD := Lib.hid hb
  have HW := Lib.hid (show ∀ o1, Grow w (w.alloc o1) from fun o1 => (Grow.rfl' w).allocd o1)
  obtain ⟨_, _, rfl, _⟩ := SlR.open hn
  obtain ⟨ae, ce, rfl, hel, hec, hE⟩ := SlR.open he
  unfold maxLen at hec
  have HE := Lib.hid (show ∀ (j : Nat) (hj : j < E.length), ∃ ba oa, ae = some ⟨ba, oa, none⟩ ∧ ∀ w', Grow w w' → ba < w'.heap.size ∧ w'.cell? ⟨ba, oa + j * 5 + 1, none⟩ = some (.string E[j].typ) ∧ w'.cell? ⟨ba, oa + j * 5 + 2, none⟩ = some (.int .i64 E[j].from_) from fun j hj => by
    obtain ⟨ba, oa', ra, rfl, hSa, hba, hRa, hca⟩ := hE j E[j] (List.getElem?_eq_getElem hj)
    refine ⟨ba, oa', rfl, fun w' g => ?_⟩
    obtain ⟨pva, h1, h2, h3, h4, h5, _, _⟩ := hRa.at hba g hca
    exact ⟨h1, h3, h4⟩)
  clear hf hk hb hn he hE
  go_enter Tryz.func48, Tryz.ntmps48
  go_wp2_with fail
  refine (refForm r _).mono ?_
  rintro e w2 ⟨rfl, g2⟩
  have HG2 := Lib.hid ((HW.out _).step g2)
  have HRB := Lib.hid (ruleBoxNew w r w2 g2)
  obtain ⟨hrl, c1, c2, c3, c4, c5, c6, c7, c0⟩ := HRB.out.cells
  rw [HF.out]
  rw [HK.out] at c1
  have HI0 := Lib.hid (IdsW.nil w2.heap.size w2)
  have HM0 := Lib.hid (MostI.start E r)
  clear g2
  go_wp2
  clear c1 c2 c3 c4 c5 c6 c7 c0
  go_loopg [7, 14] E.length (fun g lv i wr => ∃ (j : Nat) (l : List Int), j ≤ E.length ∧ g = E.length - j ∧ i = .int .i64 j ∧ MostI E r j l ∧ l.length ≤ j ∧ IdsW w2.heap.size wr lv l ∧ Grow w2 wr)
  case atStart => exact ⟨0, [], by omega, by omega, rfl, HM0.out, by simp, HI0.out, Grow.rfl' w2⟩
  case round =>
    obtain ⟨j, l, hj, rfl, rfl, hmi, hll, hi, hz⟩ := hrel
    obtain ⟨oa, co, rfl, _, _⟩ := hi.isSlice
    have HI := Lib.hid hi; have HZ := Lib.hid hz; have HMI := Lib.hid hmi; have HLL := Lib.hid hll
    clear hi hmi hll
    by_cases hjl : j < E.length
    · obtain ⟨ba, oa', rfl, hXj⟩ := HE.out j hjl
      have HX := Lib.hid hXj
      have HE1 := Lib.hid (show ∀ (k : Nat) (hk : k < E.length), ∀ w', Grow w w' → w'.cell? ⟨ba, oa' + k * 5 + 1, none⟩ = some (.string E[k].typ) ∧ w'.cell? ⟨ba, oa' + k * 5 + 2, none⟩ = some (.int .i64 E[k].from_) from fun k hk w' g => by
        obtain ⟨b1, o1, h1, h2⟩ := HE.out k hk
        cases h1
        exact (h2 w' g).2)
      have HT := Lib.hid (show E.take (j + 1) = E.take j ++ [E[j]] from List.take_succ_eq_append_getElem hjl)
      clear hXj
      generalize E[j] = x at *
      have HWR := Lib.hid (HG2.out.step HZ.out)
      obtain ⟨wo, rfl⟩ : ∃ wo, wo = wr := ⟨_, rfl⟩
      have hn0 := formR_most HF.out (by have := HK.out; omega) (by have := HK.out; omega) (by have := HK.out; omega)
      have HF0 := Lib.hid (show true = firstE E r x.from_ j 0 by simp [firstE, outR])
      clear hz
      go_wp2
      go_loopg [15, 16, 17] E.length (fun g nv fv kv wr => ∃ (k : Nat) (fb : Bool), k ≤ E.length ∧ g = E.length - k ∧ kv = .int .i64 k ∧ nv = .int .i64 (outR (E.take k) r x.from_ : Nat) ∧ fv = .bool fb ∧ fb = firstE E r x.from_ j k ∧ Grow wo wr)
      case atStart => exact ⟨0, true, by omega, by omega, rfl, rfl, rfl, HF0.out, Grow.rfl' wo⟩
      case round =>
        obtain ⟨k, fb, hk, rfl, rfl, rfl, rfl, hfb, hgo⟩ := hrel
        have HFB := Lib.hid hfb; have HGO := Lib.hid hgo
        have hol : outR (E.take k) r x.from_ ≤ k := by
          unfold outR
          exact Nat.le_trans (List.length_filter_le _ _) (by rw [List.length_take]; omega)
        clear hfb hgo
        by_cases hkl : k < E.length
        · have HTK := Lib.hid (show E.take (k + 1) = E.take k ++ [E[k]] from List.take_succ_eq_append_getElem hkl)
          have HXK := Lib.hid (HE1.out k hkl)
          generalize E[k] = y at *
          obtain ⟨b0, b1⟩ := HXK.out wr (HWR.out.step HGO.out)
          obtain ⟨hal, a1, a2⟩ := HX.out wr (HWR.out.step HGO.out)
          obtain ⟨hrl', c1, c2, c3, c4, c5, c6, c7, c0⟩ := (HRB.out.grow (HZ.out.step HGO.out)).cells
          have HOT := Lib.hid (outR_take (r := r) (y := x.from_) HTK.out)
          have HFS := Lib.hid (firstE_step (r := r) (y := x.from_) (j := j) HTK.out)
          have HNO := Lib.hid (show ∀ (w4 : World), Grow wr w4 → Grow wo w4 from fun w4 h => HGO.out.step h)
          obtain ⟨bt, hbt⟩ : ∃ b, decide (y.typ = r.typ) = b := ⟨_, rfl⟩
          obtain ⟨bf, hbf⟩ : ∃ b, (y.from_ == x.from_) = b := ⟨_, rfl⟩
          obtain ⟨bk, hbk⟩ : ∃ b, decide (j ≤ k) = b := ⟨_, rfl⟩
          have HMT := Lib.hid (show mtE r x.from_ y = (bt && bf) by unfold mtE; rw [hbt, ← hbf, int_beq])
          have HBK := Lib.hid hbk
          generalize outR (E.take k) r x.from_ = n at *
          clear c1 c3 c4 c5 c6 c7 c0
          cases bt
          · go_wp2_with fail
            refine wp_region_grow (by kernel_rfl) (by kernel_rfl) ?_
            repeat (go_big_quiet_step (fail))
            refine wpQuiet_nil ?_
            intro w4 hw4
            go_wp2_with fail
            go_roundg (E.length - (k + 1))
            case measure => omega
            case rel => exact ⟨k + 1, fb, by omega, rfl, by go_num, by rw [HOT.out, if_neg (by rw [HMT.out]; simp)]; rfl, rfl, by rw [HFS.out, if_neg (by rw [HMT.out]; simp)]; exact HFB.out, HNO.out _ hw4⟩
          · cases bf
            · go_wp2_with fail
              refine wp_region_grow (by kernel_rfl) (by kernel_rfl) ?_
              repeat (go_big_quiet_step (fail))
              refine wpQuiet_nil ?_
              intro w4 hw4
              go_wp2_with fail
              go_roundg (E.length - (k + 1))
              case measure => omega
              case rel => exact ⟨k + 1, fb, by omega, rfl, by go_num, by rw [HOT.out, if_neg (by rw [HMT.out]; simp)]; rfl, rfl, by rw [HFS.out, if_neg (by rw [HMT.out]; simp)]; exact HFB.out, HNO.out _ hw4⟩
            · go_wp2_with fail
              refine wp_region_grow (by kernel_rfl) (by kernel_rfl) ?_
              repeat (go_big_quiet_step (fail))
              refine wpQuiet_nil ?_
              intro w4 hw4
              have HW4 := Lib.hid hw4
              clear hw4
              cases fb
              · go_wp2_with fail
                go_roundg (E.length - (k + 1))
                case measure => omega
                case rel => exact ⟨k + 1, false, by omega, rfl, by go_num, by rw [HOT.out, if_pos (by rw [HMT.out]; rfl)]; go_num, rfl, by rw [HFS.out, if_pos (by rw [HMT.out]; rfl), ← HFB.out]; rfl, HNO.out _ HW4.out⟩
              · go_wp2_with fail
                go_roundg (E.length - (k + 1))
                case measure => omega
                case rel => exact ⟨k + 1, bk, by omega, rfl, by go_num, by rw [HOT.out, if_pos (by rw [HMT.out]; rfl)]; go_num, rfl, by rw [HFS.out, if_pos (by rw [HMT.out]; rfl), ← HFB.out, HBK.out]; rfl, HNO.out _ HW4.out⟩
        · have hkk : E.take k = E := List.take_of_length_le (by omega)
          have hke : k = E.length := by omega
          rw [hkk] at hol
          simp only [hkk]
          subst hke
          obtain ⟨hal, a1, a2⟩ := HX.out wr (HWR.out.step HGO.out)
          obtain ⟨hrl', c1, c2, c3, c4, c5, c6, c7, c0⟩ := (HRB.out.grow (HZ.out.step HGO.out)).cells
          clear c1 c3 c4 c5 c7 c0 hkk
          obtain ⟨bt, hbt⟩ : ∃ b, decide (x.typ = r.typ) = b := ⟨_, rfl⟩
          obtain ⟨bn, hbn⟩ : ∃ b, decide (r.n < (outR E r x.from_ : Int)) = b := ⟨_, rfl⟩
          have HST := Lib.hid (HMI.out.step HT.out (by omega) (b := bt && (bn && fb)) (by rw [hbt, hbn, HFB.out]))
          have HBD2 := Lib.hid (show l.length + 1 ≤ j + 1 by have := HLL.out; omega)
          have HI4 := Lib.hid (show ∀ w4, Grow wr w4 → Grow w2 w4 ∧ IdsW w2.heap.size w4 (.slice oa l.length co) l from fun w4 h => ⟨(HZ.out.step HGO.out).step h, HI.out.grow (HGO.out.step h)⟩)
          have HI5 := Lib.hid (show ∀ w4, Grow wr w4 → ∀ o1, Grow w2 (w4.alloc o1) ∧ IdsW w2.heap.size (w4.alloc o1) (.slice oa l.length co) l from fun w4 h o1 => ⟨((HZ.out.step HGO.out).step h).allocd o1, (HI.out.grow (HGO.out.step h)).grow ((Grow.rfl' w4).allocd o1)⟩)
          generalize outR E r x.from_ = n at *
          cases bt
          · go_wp2_with fail
            refine wp_region_grow (by kernel_rfl) (by kernel_rfl) ?_
            repeat (go_big_quiet_step (fail))
            refine wpQuiet_nil ?_
            intro w4 hw4
            go_wp2_with fail
            go_roundg (E.length - (j + 1))
            case measure => omega
            case rel => exact ⟨j + 1, l, by omega, rfl, by go_num, by have h := HST.out; simpa using h, by have := HLL.out; omega, (HI4.out _ hw4).2, (HI4.out _ hw4).1⟩
          · cases bn
            · go_wp2_with fail
              refine wp_region_grow (by kernel_rfl) (by kernel_rfl) ?_
              repeat (go_big_quiet_step (fail))
              refine wpQuiet_nil ?_
              intro w4 hw4
              go_wp2_with fail
              go_roundg (E.length - (j + 1))
              case measure => omega
              case rel => exact ⟨j + 1, l, by omega, rfl, by go_num, by have h := HST.out; simpa using h, by have := HLL.out; omega, (HI4.out _ hw4).2, (HI4.out _ hw4).1⟩
            · cases fb
              · go_wp2_with fail
                refine wp_region_grow (by kernel_rfl) (by kernel_rfl) ?_
                repeat (go_big_quiet_step (fail))
                refine wpQuiet_nil ?_
                intro w4 hw4
                go_wp2_with fail
                go_roundg (E.length - (j + 1))
                case measure => omega
                case rel => exact ⟨j + 1, l, by omega, rfl, by go_num, by have h := HST.out; simpa using h, by have := HLL.out; omega, (HI4.out _ hw4).2, (HI4.out _ hw4).1⟩
              · go_wp2_with fail
                refine wp_region_grow (by kernel_rfl) (by kernel_rfl) ?_
                repeat (go_big_quiet_step (fail))
                refine wpQuiet_nil ?_
                intro w4 hw4
                have HW4 := Lib.hid hw4
                have hx := HX.out _ (((HWR.out.step HGO.out)).step hw4)
                obtain ⟨hal4, _, b1⟩ := hx
                have hzs := (HI4.out _ hw4).1.size
                clear a1 a2 hal hw4 c2 c6
                go_wp2_with (at_builtin; go_must (refine wpList_append_I rfl (.tmp 217) (.tmp 223) 25 rfl Tryz.underlying25 w2.heap.size _ l rfl (HI5.out _ HW4.out _).2 x.from_ _ rfl (rd1 _ _ _ (by simp)) (by simp; omega) (by have := HLL.out; have := HBD.out; omega) ?_))
                intro v5 w6 k1 k2 k3
                have H5 := Lib.hid k1; have HG5 := Lib.hid ((HI5.out _ HW4.out _).1.since k2 (Nat.le_refl _))
                clear k1 k2 k3
                go_wp2
                go_roundg (E.length - (j + 1))
                case measure => omega
                case rel => exact ⟨j + 1, l ++ [x.from_], by omega, rfl, by go_num, by have h := HST.out; simpa using h, by have := HLL.out; simp; omega, H5.out, HG5.out⟩
    · have hkk : j = E.length := by omega
      have hn0 := formR_most HF.out (by have := HK.out; omega) (by have := HK.out; omega) (by have := HK.out; omega)
      have HDN := Lib.hid (MostI.done (hkk ▸ HMI.out) hn0)
      clear hkk hn0 hz
      go_wp2
      go_ret
      exact ⟨_, l, rfl, ⟨fun h => absurd h (by rw [HF.out]; simp), fun _ => by rw [if_pos HK.out]; exact HDN.out⟩, HI.out.base HG2.out.size, HG2.out.step HZ.out⟩
end Go.Hg

namespace Go.Hg
open Go.RowKit Go.Proofs


abbrev set4 (w : World) (B : Nat) (a b c d : Value) : World := (((w.setCell ⟨B, 0, none⟩ a).setCell ⟨B, 1, none⟩ b).setCell ⟨B, 2, none⟩ c).setCell ⟨B, 3, none⟩ d
theorem set4_box {w : World} {B : Nat} {a b c d : Value} {T : TypeId} (h : w.heap[B]? = some (.cells #[a, b, c, d] T (0, 0))) (a' b' c' d' : Value) : (set4 w B a' b' c' d').heap[B]? = some (.cells #[a', b', c', d'] T (0, 0)) := by
  have h1 := heap_setCell_same w B 0 _ T a' h
  have h2 := heap_setCell_same _ B 1 _ T b' h1
  have h3 := heap_setCell_same _ B 2 _ T c' h2
  have h4 := heap_setCell_same _ B 3 _ T d' h3
  simpa using h4
theorem set4_grow {w0 w : World} (g : Grow w0 w) {B : Nat} (hB : w0.heap.size ≤ B) (a b c d : Value) : Grow w0 (set4 w B a b c d) :=
  (((g.setd (p := ⟨B, 0, none⟩) hB a).setd (p := ⟨B, 1, none⟩) hB b).setd (p := ⟨B, 2, none⟩) hB c).setd (p := ⟨B, 3, none⟩) hB d
abbrev foundBox (v : PVal) (b : Bool) : Obj := .cells #[.int .i64 v.kind, .int .i64 v.n, .string v.s, .bool b] 138 (0, 0)

set_option maxRecDepth 100000 in
set_option maxHeartbeats 8000000 in
theorem refBrokenExists (S : Nat → Prop) (nv ev : Value) (N : List PNode) (E : List PEdge) (r : PRule) (w : World) (hn : NodesR S w nv N) (he : EdgesR S w ev E) (hb : N.length ≤ 1099511627776) (hf : formR r = true) (hk : r.kind = 2) :
    Calls Tryz.prog 48 #[nv, ev, r.args] w (RBrkPost N E r w) := by
  have HF := Lib.hid hf; have HK := Lib.hid hk; have HBD := Lib.hid hb
  have HW := Lib.hid (show ∀ o1, Grow w (w.alloc o1) from fun o1 => (Grow.rfl' w).allocd o1)
  obtain ⟨_, _, rfl, _⟩ := SlR.open he
  obtain ⟨ae, ce, rfl, hel, hec, hE⟩ := SlR.open hn
  unfold maxLen at hec
  have HE := Lib.hid (show ∀ (j : Nat) (hj : j < N.length), ∃ ba oa pv, ae = some ⟨ba, oa, none⟩ ∧ ∀ w', Grow w w' → ba < w'.heap.size ∧ w'.cell? ⟨ba, oa + j * 3, none⟩ = some (.int .i64 N[j].id) ∧ w'.cell? ⟨ba, oa + j * 3 + 1, none⟩ = some (.string N[j].typ) ∧ w'.cell? ⟨ba, oa + j * 3 + 2, none⟩ = some pv ∧ PropsR S w' pv N[j].props from fun j hj => by
    obtain ⟨ba, oa', ra, rfl, hSa, hba, hRa, hca⟩ := hE j N[j] (List.getElem?_eq_getElem hj)
    obtain ⟨pva, h1, h2, h3, h4, h5⟩ := hRa.at hba (Grow.rfl' w) hca
    refine ⟨ba, oa', pva, rfl, fun w' g => ⟨Nat.lt_of_lt_of_le h1 g.size, ?_, ?_, ?_, h5.grow g⟩⟩
    · exact (g.cell (p := ⟨_, _, none⟩) hba).trans h2
    · exact (g.cell (p := ⟨_, _, none⟩) hba).trans h3
    · exact (g.cell (p := ⟨_, _, none⟩) hba).trans h4)
  clear hf hk hb hn he hE
  go_enter Tryz.func48, Tryz.ntmps48
  go_wp2_with fail
  refine (refForm r _).mono ?_
  rintro e w2 ⟨rfl, g2⟩
  have HG2 := Lib.hid ((HW.out _).step g2)
  have HRB := Lib.hid (ruleBoxNew w r w2 g2)
  obtain ⟨hrl, c1, c2, c3, c4, c5, c6, c7, c0⟩ := HRB.out.cells
  rw [HF.out]
  rw [HK.out] at c1
  have HI0 := Lib.hid (IdsW.nil w2.heap.size w2)
  clear g2
  go_wp2
  clear c1 c2 c3 c4 c5 c6 c7 c0
  go_loopg [7, 8] N.length (fun g lv i wr => ∃ j : Nat, j ≤ N.length ∧ g = N.length - j ∧ i = .int .i64 j ∧ IdsW w2.heap.size wr lv (((N.take j).filter (lacksR r)).map (·.id)) ∧ Grow w2 wr)
  case atStart => exact ⟨0, by omega, by omega, rfl, HI0.out, Grow.rfl' w2⟩
  case round =>
    obtain ⟨j, hj, rfl, rfl, hi, hz⟩ := hrel
    obtain ⟨oa, co, rfl, _, _⟩ := hi.isSlice
    have HI := Lib.hid hi; have HZ := Lib.hid hz
    clear hi hz
    by_cases hjl : j < N.length
    · obtain ⟨ba, oa', pv, rfl, hXj⟩ := HE.out j hjl
      have HX := Lib.hid hXj
      clear hXj
      have HT := Lib.hid (show N.take (j + 1) = N.take j ++ [N[j]] from List.take_succ_eq_append_getElem hjl)
      have HLE := Lib.hid (show (((N.take j).filter (lacksR r)).map (·.id)).length ≤ N.length by
        rw [List.length_map]
        exact Nat.le_trans (List.length_filter_le _ _) (by rw [List.length_take]; omega))
      generalize N[j] = x at *
      obtain ⟨bt, hbt⟩ : ∃ b, decide (x.typ = r.typ) = b := ⟨_, rfl⟩
      obtain ⟨bo, hbo⟩ : ∃ b, (getP x.props r.name).isSome = b := ⟨_, rfl⟩
      have HV := Lib.hid (show lacksR r x = (bt && !bo) by unfold lacksR; rw [hbt, ← hbo]; cases getP x.props r.name <;> rfl)
      have HBO := Lib.hid hbo
      clear hbo
      generalize hfl : ((N.take j).filter (lacksR r)).map (·.id) = fl at *
      have HFF := Lib.hid hfl
      clear hfl
      have HD := Lib.hid (filt_snoc (·.id) HT.out HFF.out HV.out)
      have HWR := Lib.hid (HG2.out.step HZ.out)
      obtain ⟨hal, a0, a1, a2, _⟩ := HX.out wr HWR.out
      obtain ⟨hrl', c1, c2, c3, c4, c5, c6, c7, c0⟩ := (HRB.out.grow HZ.out).cells
      clear c1 c4 c5 c6 c7 c0
      have HNO := Lib.hid (show ∀ (w4 : World), Grow wr w4 → Grow w2 w4 ∧ IdsW w2.heap.size w4 (.slice oa fl.length co) fl from fun w4 h => ⟨HZ.out.step h, HI.out.grow h⟩)
      cases bt
      · go_wp2_with fail
        refine wp_region_grow (by kernel_rfl) (by kernel_rfl) ?_
        repeat (go_big_quiet_step (fail))
        refine wpQuiet_nil ?_
        intro w4 hw4
        go_wp2_with fail
        go_roundg (N.length - (j + 1))
        case measure => omega
        case rel => exact ⟨j + 1, by omega, rfl, by go_num, by rw [HD.out, if_neg (by simp)]; exact (HNO.out _ hw4).2, (HNO.out _ hw4).1⟩
      · go_wp2_with fail
        refine wp_region_grow (by kernel_rfl) (by kernel_rfl) ?_
        repeat (go_big_quiet_step (fail))
        refine wpQuiet_nil ?_
        intro w4 hw4
        have HW4 := Lib.hid hw4
        clear a0 a1 a2 hal hw4 c2 c3 hrl'
        have HS := Lib.hid (show ∀ w', Grow w4 w' → w'.cell? ⟨ba, oa' + j * 3 + 2, none⟩ = some pv ∧ w'.cell? ⟨w.heap.size, 3, none⟩ = some (.string r.name) from fun w' g =>
          ⟨(HX.out w' ((HWR.out.step HW4.out).step g)).2.2.2.1, (HRB.out.grow ((HZ.out.step HW4.out).step g)).cells.2.2.2.1⟩)
        have HPR := Lib.hid (show ∀ w', Grow w4 w' → PropsR S w' pv x.props from fun w' g => (HX.out w' ((HWR.out.step HW4.out).step g)).2.2.2.2)
        have HDR := Lib.hid (show ∀ o1, Grow w4 (w4.alloc o1).drew ∧ (w4.alloc o1).drew.heap[w4.heap.size]? = some o1 from fun o1 => ⟨((Grow.rfl' w4).allocd o1).drewd, heap_alloc_new w4 o1⟩)
        obtain ⟨gv, hgv⟩ : ∃ gv, getV x.props r.name = gv := ⟨_, rfl⟩
        have HGV := Lib.hid hgv
        clear hgv
        go_wp2_with fail
        have HD0 := Lib.hid (show Grow w4 w4.drew from (Grow.rfl' w4).drewd)
        go_region_held3 (fun w' => w'.cell? ⟨ba, oa' + j * 3 + 2, none⟩ = some pv ∧ w'.cell? ⟨w.heap.size, 3, none⟩ = some (.string r.name)) (first | exact HS.out _ HD0.out | exact HS.out _ (HDR.out _).1 | exact HS.out _ HG5.out | exact HS.out _ (HG5.out.allocd _) | exact HS.out _ (set4_grow HG5.out (Nat.le_refl _) _ _ _ _)) (first | (go_at_call 81; refine (refGet S pv x.props r.name _ (HPR.out _ HD0.out)).mono ?_; rintro e w5 ⟨rfl, hg5⟩; rw [HGV.out, HBO.out]; have HG5 := Lib.hid (HD0.out.step hg5); clear hg5) | (go_at_call 81; refine (refGet S pv x.props r.name _ (HPR.out _ (HDR.out _).1)).mono ?_; rintro e w5 ⟨rfl, hg5⟩; rw [HGV.out, HBO.out]; have hnb := (hg5.heapEq (by simp)).trans (HDR.out _).2; have z0 : w5.cell? ⟨w4.heap.size, 0, none⟩ = some (.int .i64 0) := (blk_cell hnb _).trans rfl; have z1 : w5.cell? ⟨w4.heap.size, 1, none⟩ = some (.int .i64 0) := (blk_cell hnb _).trans rfl; have z2 : w5.cell? ⟨w4.heap.size, 2, none⟩ = some (.string ⟨#[]⟩) := (blk_cell hnb _).trans rfl; have z3 : w5.cell? ⟨w4.heap.size, 3, none⟩ = some (.bool false) := (blk_cell hnb _).trans rfl; have zf0 := blk_free hnb 0; have zf1 := blk_free hnb 1; have zf2 := blk_free hnb 2; have zf3 := blk_free hnb 3; have hnl := blk_lt hnb; have HNB := Lib.hid hnb; have HG5 := Lib.hid ((HDR.out _).1.step hg5); clear hg5 hnb))
        · obtain ⟨B, hB⟩ : ∃ B, w5.heap.size = B := ⟨_, rfl⟩
          obtain ⟨w6, hw6⟩ : ∃ w6, w5.alloc (.cells #[.int .i64 gv.kind, .int .i64 gv.n, .string gv.s, .bool bo] 138) = w6 := ⟨_, rfl⟩
          have HB6 : Hid (w6.heap[B]? = some (foundBox gv bo)) := Lib.hid (by rw [← hw6, ← hB]; exact heap_alloc_new w5 _)
          have HG6 := Lib.hid (show Grow w4 w6 from hw6 ▸ HG5.out.allocd _)
          rw [hw6, hB]
          clear hw6 hB
          have hbl := blk_lt HB6.out
          have d3 : w6.cell? ⟨B, 3, none⟩ = some (.bool bo) := (blk_cell HB6.out _).trans rfl
          have HW6 := Lib.hid (HW4.out.step HG6.out)
          obtain ⟨hrl6, c1, c2, c3, c4, c5, c6, c7, c0⟩ := (HRB.out.grow (HZ.out.step HW6.out)).cells
          rw [HK.out] at c1
          obtain ⟨hal, a0, a1, a2, _⟩ := HX.out w6 (HWR.out.step HW6.out)
          have HYES := Lib.hid (show ∀ o1, Grow w2 (w6.alloc o1) ∧ IdsW w2.heap.size (w6.alloc o1) (.slice oa fl.length co) fl from fun o1 => ⟨(HNO.out _ HW6.out).1.allocd o1, (HNO.out _ HW6.out).2.grow ((Grow.rfl' w6).allocd o1)⟩)
          have hzs := (HNO.out _ HW6.out).1.size
          clear c2 c3 c4 c5 c6 c7 c0 a1 a2
          cases bo
          · go_wp2_with (at_builtin; go_must (refine wpList_append_I rfl (.tmp 101) (.tmp 107) 25 rfl Tryz.underlying25 w2.heap.size _ fl rfl (HYES.out _).2 x.id _ rfl (rd1 _ _ _ (by simp)) (by simp; omega) (by have := HLE.out; have := HBD.out; omega) ?_))
            intro v5 w7 k1 k2 k3
            have H5 := Lib.hid k1; have HG7 := Lib.hid ((HYES.out _).1.since k2 (Nat.le_refl _))
            clear k1 k2 k3
            go_wp2
            go_roundg (N.length - (j + 1))
            case measure => omega
            case rel => exact ⟨j + 1, by omega, rfl, by go_num, by rw [HD.out, if_pos (by simp)]; exact H5.out, HG7.out⟩
          · go_wp2_with fail
            go_roundg (N.length - (j + 1))
            case measure => omega
            case rel => exact ⟨j + 1, by omega, rfl, by go_num, by rw [HD.out, if_neg (by simp)]; exact (HNO.out _ HW6.out).2, (HNO.out _ HW6.out).1⟩
        · obtain ⟨B, hB⟩ : ∃ B, w4.heap.size = B := ⟨_, rfl⟩
          obtain ⟨w6, hw6⟩ : ∃ w6, set4 w5 w4.heap.size (.int .i64 gv.kind) (.int .i64 gv.n) (.string gv.s) (.bool bo) = w6 := ⟨_, rfl⟩
          have HB6 : Hid (w6.heap[B]? = some (foundBox gv bo)) := Lib.hid (by rw [← hw6, ← hB]; exact set4_box HNB.out _ _ _ _)
          have HG6 := Lib.hid (show Grow w4 w6 from hw6 ▸ set4_grow HG5.out (Nat.le_refl _) _ _ _ _)
          rw [show ((((w5.setCell ⟨w4.heap.size, 0, none⟩ (.int .i64 gv.kind)).setCell ⟨w4.heap.size, 1, none⟩ (.int .i64 gv.n)).setCell ⟨w4.heap.size, 2, none⟩ (.string gv.s)).setCell ⟨w4.heap.size, 3, none⟩ (.bool bo)) = w6 from hw6, hB]
          clear hw6 hB z0 z1 z2 z3 zf0 zf1 zf2 zf3 hnl
          have hbl := blk_lt HB6.out
          have d3 : w6.cell? ⟨B, 3, none⟩ = some (.bool bo) := (blk_cell HB6.out _).trans rfl
          have HW6 := Lib.hid (HW4.out.step HG6.out)
          obtain ⟨hrl6, c1, c2, c3, c4, c5, c6, c7, c0⟩ := (HRB.out.grow (HZ.out.step HW6.out)).cells
          rw [HK.out] at c1
          obtain ⟨hal, a0, a1, a2, _⟩ := HX.out w6 (HWR.out.step HW6.out)
          have HYES := Lib.hid (show ∀ o1, Grow w2 (w6.alloc o1) ∧ IdsW w2.heap.size (w6.alloc o1) (.slice oa fl.length co) fl from fun o1 => ⟨(HNO.out _ HW6.out).1.allocd o1, (HNO.out _ HW6.out).2.grow ((Grow.rfl' w6).allocd o1)⟩)
          have hzs := (HNO.out _ HW6.out).1.size
          clear c2 c3 c4 c5 c6 c7 c0 a1 a2
          cases bo
          · go_wp2_with (at_builtin; go_must (refine wpList_append_I rfl (.tmp 101) (.tmp 107) 25 rfl Tryz.underlying25 w2.heap.size _ fl rfl (HYES.out _).2 x.id _ rfl (rd1 _ _ _ (by simp)) (by simp; omega) (by have := HLE.out; have := HBD.out; omega) ?_))
            intro v5 w7 k1 k2 k3
            have H5 := Lib.hid k1; have HG7 := Lib.hid ((HYES.out _).1.since k2 (Nat.le_refl _))
            clear k1 k2 k3
            go_wp2
            go_roundg (N.length - (j + 1))
            case measure => omega
            case rel => exact ⟨j + 1, by omega, rfl, by go_num, by rw [HD.out, if_pos (by simp)]; exact H5.out, HG7.out⟩
          · go_wp2_with fail
            go_roundg (N.length - (j + 1))
            case measure => omega
            case rel => exact ⟨j + 1, by omega, rfl, by go_num, by rw [HD.out, if_neg (by simp)]; exact (HNO.out _ HW6.out).2, (HNO.out _ HW6.out).1⟩
    · have hkk : N.take j = N := List.take_of_length_le (by omega)
      rw [hkk] at HI
      simp only [hkk]
      have HR := Lib.hid (RBrkPost.of (N := N) (E := E) (r := r) ⟨fun h => absurd h (by rw [HF.out]; simp), fun _ => by unfold BrkR; rw [if_neg (by have := HK.out; omega), if_pos HK.out]⟩ (by have := HK.out; omega) HI.out HG2.out HZ.out)
      clear hkk
      go_wp2
      go_ret
      exact HR.out
end Go.Hg
