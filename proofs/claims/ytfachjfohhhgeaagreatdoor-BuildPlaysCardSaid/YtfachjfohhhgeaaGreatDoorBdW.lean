/- hedgerowref23.New, At, Left: the reference's job; (*hedgerowref23.Job).Ended; The reference's ids merged, a job's step keeps its words: plain words; A row of structs of one's own, made since a block: the law of append; append at a row of structs, as a step of a drawn region; append of a readable list of structs at a row of structs, as a step of a drawn region; hedgerowref23.ids; (*hedgerowref23.Job).Step, Verdict; (*build.Job).Verdict; (*build.Job).Rule; hedgerowkeep.Longs, Texts, Rule, Cats of equal ones: true; A list's rest and its beginning, taken by an operation of its own: laws for the walk; (*hedgerowref23.Job).Step; A drawn region whose last operation z may turn what the others read: S is asked of the others alone; what z waits for may be taken first. Conditions: those that each theorem names. -/
import Derived.WalkKit
import Derived.WalkSpells
import Derived.WalkLawsBesides
import Derived.Lib.Hide
import Derived.BigQuiet
import Derived.Deep.LoopGhost
import Derived.Test.YtfachjfohhhgeaaGreatDoorRows
import Derived.Lib.SliceRun
import Derived.WideMake
import Derived.Deep.RegionLaw
import Derived.Lib.Overlaps
import Derived.Deep.RegionHeld3
import Derived.Laws.ResultCell
import Derived.Shelf.SortM.Plain
import Derived.Shelf.SortM.SortNone
import Derived.Shelf.SlicesE.DeleteFunc
import Derived.Maps.OwnOps
import Derived.Maps.OwnSet
import Derived.Carry
import Derived.Lib.SlKeysI
import Derived.Shelf.SlIterI.Nil
import Derived.Conc.LoneCalls
import Derived.Conc.SmallLaws
import Derived.Deep.CutBlock
import Derived.Deep.DeepCutAuto
import Derived.Laws.EntriesVeiled
import Derived.Maps.RangeWalk
import Derived.Lib.SlMapFilter
import Derived.Test.YtfachjfohhhgeaaGreatDoorBdL
import Derived.Test.YtfachjfohhhgeaaGreatDoorBdN
import Derived.Test.YtfachjfohhhgeaaGreatDoorBdO
import Derived.Test.YtfachjfohhhgeaaGreatDoorBdP
import Derived.Test.YtfachjfohhhgeaaGreatDoorBdR
import Derived.Test.YtfachjfohhhgeaaGreatDoorBdS
import Derived.Test.YtfachjfohhhgeaaGreatDoorBdT
namespace Go.Hg
open Go.RowKit Go.Proofs

def RNewPost (w : World) (r : PRule) (chunk : Int) (e : Ending) (w' : World) : Prop :=
  Grow w w' ∧ ((newE r chunk ≠ 0 ∧ e = .returned (.tuple #[.pointer none, .int .i64 (newE r chunk)])) ∨ (newE r chunk = 0 ∧ ∃ B, e = .returned (.tuple #[.pointer (some ⟨B, 0, none⟩), .int .i64 0]) ∧ RJobOk (fun b => w.heap.size ≤ b) w' B ⟨r, chunk, 1, []⟩))

set_option maxRecDepth 100000 in
set_option maxHeartbeats 2000000 in
theorem ref23New (r : PRule) (chunk : Int) (w : World) : Calls Tryz.prog 25 #[r.args, .int .i64 chunk] w (RNewPost w r chunk) := by
  have HW := Lib.hid (show ∀ o1, Grow w (w.alloc o1) from fun o1 => (Grow.rfl' w).allocd o1)
  have HC := Lib.hid (show ∀ w', Grow (w.alloc (.cells #[.int .i64 r.id, .int .i64 r.kind, .string r.typ, .string r.name, .string r.from_, .string r.to_, .int .i64 r.n, .int .i64 r.state] 23)) w' → w'.heap[w.heap.size]? = some (.cells #[.int .i64 r.id, .int .i64 r.kind, .string r.typ, .string r.name, .string r.from_, .string r.to_, .int .i64 r.n, .int .i64 r.state] 23) from fun w' g => by rw [g.heapEq (by simp)]; exact heap_alloc_new w _)
  go_enter Tryz.func25, Tryz.ntmps25
  go_wp2_with fail
  refine (refForm r _).mono ?_
  rintro e w1 ⟨rfl, g1⟩
  have HG01 := Lib.hid ((HW.out _).step g1)
  have HC1 := Lib.hid (HC.out w1 g1)
  obtain ⟨fr, hfr⟩ : ∃ fr, formR r = fr := ⟨_, rfl⟩
  rw [hfr]
  have HF := Lib.hid hfr
  clear g1 hfr
  cases fr
  · go_wp2
    go_ret2
    exact ⟨HG01.out, .inl (by have hE : newE r chunk = 11 := (by unfold newE; rw [HF.out]; rfl); rw [hE]; exact ⟨by decide, rfl⟩)⟩
  · by_cases h1 : chunk < 1
    · have HE := Lib.hid (show newE r chunk = 1 by unfold newE; rw [HF.out]; simp [h1])
      go_wp2
      go_ret2
      exact ⟨HG01.out, .inl (by rw [HE.out]; exact ⟨by decide, rfl⟩)⟩
    · by_cases h2 : 1024 < chunk
      · have HE := Lib.hid (show newE r chunk = 1 by unfold newE; rw [HF.out]; simp [h2])
        go_wp2
        go_ret2
        exact ⟨HG01.out, .inl (by rw [HE.out]; exact ⟨by decide, rfl⟩)⟩
      · have HE := Lib.hid (show newE r chunk = 0 by unfold newE; rw [HF.out]; simp; omega)
        have hbl := blk_lt HC1.out
        obtain ⟨c0, c1, c2, c3, c4, c5, c6, c7⟩ := ruleB_of (rest := []) HC1.out
        go_wp2
        go_ret2
        exact ⟨HG01.out.step ((Grow.rfl' _).allocd _), .inr ⟨HE.out, _, rfl, .slice none 0 0, HG01.out.size, heap_alloc_new w1 _, (OwnL.nil _ 2 1 _).toSl (by simp)⟩⟩

theorem rjobB_of {w : World} {B : Nat} {lv : Value} {J : PJob} {T : TypeId} (h : w.heap[B]? = some (.cells (rjobCells J lv) T (0, 0))) :
    RuleB w B J.r ∧ w.cell? ⟨B, 8, none⟩ = some (.int .i64 J.chunk) ∧ w.cell? ⟨B, 9, none⟩ = some (.int .i64 J.pos) ∧ w.cell? ⟨B, 10, none⟩ = some lv :=
  ⟨ruleB_of (rest := [.int .i64 J.chunk, .int .i64 J.pos, lv]) h, by simp [World.cell?, h], by simp [World.cell?, h], by simp [World.cell?, h]⟩
set_option maxRecDepth 100000 in
set_option maxHeartbeats 2000000 in
theorem ref23At (S : Nat → Prop) (B : Nat) (J : PJob) (w : World) (h : RJobOk S w B J) : Calls Tryz.prog 31 #[.pointer (some ⟨B, 0, none⟩)] w fun e w' => e = .returned (.int .i64 J.pos) ∧ w' = w := by
  obtain ⟨lv, hS1, hB, hl⟩ := h
  obtain ⟨-, -, c9, -⟩ := rjobB_of hB
  clear hB hl
  go_enter Tryz.func31, Tryz.ntmps31
  go_wp2
  go_ret
  exact ⟨rfl, rfl⟩
set_option maxRecDepth 100000 in
set_option maxHeartbeats 2000000 in
theorem ref23Left (S : Nat → Prop) (B : Nat) (J : PJob) (w : World) (h : RJobOk S w B J) : Calls Tryz.prog 32 #[.pointer (some ⟨B, 0, none⟩)] w fun e w' => e = .returned (.int .i64 J.tch.length) ∧ w' = w := by
  obtain ⟨lv, hS1, hB, hl⟩ := h
  obtain ⟨_, _, rfl, -, -, -⟩ := SlR.open hl
  obtain ⟨-, -, -, c10⟩ := rjobB_of hB
  clear hB hl
  go_enter Tryz.func32, Tryz.ntmps32
  go_wp2
  go_ret
  exact ⟨rfl, rfl⟩
end Go.Hg

namespace Go.Hg
open Go.RowKit Go.Proofs

set_option maxRecDepth 100000 in
set_option maxHeartbeats 2000000 in
theorem ref23Ended (S SG : Nat → Prop) (B BG : Nat) (J : PJob) (G : PGraph) (w : World) (h : RJobOk S w B J) (hg : GraphOk 42 SG w BG G) :
    Calls Tryz.prog 53 #[.pointer (some ⟨B, 0, none⟩), .pointer (some ⟨BG, 0, none⟩)] w fun e w' => e = .returned (.bool (endedJ J G.next)) ∧ Grow w w' := by
  obtain ⟨lv, hS1, hB, hl⟩ := h
  obtain ⟨_, _, rfl, -, -, -⟩ := SlR.open hl
  obtain ⟨na, nc, ea, ec, hb, d0, d1, d2, -, -⟩ := hg.read
  obtain ⟨-, -, c9, c10⟩ := rjobB_of hB
  have hbl := blk_lt hB
  clear hB hl hg
  obtain ⟨b1, hb1⟩ : ∃ b, decide (J.pos = G.next) = b := ⟨_, rfl⟩
  have hb2 : (J.pos == G.next) = b1 := by rw [← hb1]; exact Bool.beq_eq_decide_eq _ _
  obtain ⟨n, hn⟩ : ∃ n : Nat, J.tch.length = n := ⟨_, rfl⟩
  have HE := Lib.hid (show endedJ J G.next = (b1 && decide ((n : Int) = 0)) by unfold endedJ; rw [hb1, ← hn]; congr 1; rw [decide_eq_decide]; cases J.tch <;> simp; omega)
  rw [hn] at c10
  clear hb1 hn
  cases b1
  all_goals
    go_enter Tryz.func53, Tryz.ntmps53
    go_wp2_with fail
    refine wp_region_grow (by kernel_rfl) (by kernel_rfl) ?_
    repeat (go_big_quiet_step (fail))
    refine wpQuiet_nil ?_
    intro w2 hw2
    go_wp2
    go_ret
    rw [HE.out]
  · exact ⟨by simp, hw2⟩
  · exact ⟨by first | (simp; done) | (simp; cases n <;> simp <;> omega) | (simp; exact Bool.beq_eq_decide_eq _ _), hw2⟩
end Go.Hg

namespace Go.Hg

def mergeZ : List Int → List Int → List Int
  | [], t => t
  | a :: s, [] => a :: s
  | a :: s, b :: t => if a < b then a :: mergeZ s (b :: t) else b :: mergeZ (a :: s) t
termination_by s t => s.length + t.length
theorem mergeZ_nilR (s : List Int) : mergeZ s [] = s := by cases s <;> simp [mergeZ]
theorem mergeZ_nilL (t : List Int) : mergeZ [] t = t := by simp [mergeZ]
theorem mergeZ_lt {a b : Int} {s t : List Int} (h : a < b) : mergeZ (a :: s) (b :: t) = a :: mergeZ s (b :: t) := by rw [mergeZ, if_pos h]
theorem mergeZ_ge {a b : Int} {s t : List Int} (h : ¬ a < b) : mergeZ (a :: s) (b :: t) = b :: mergeZ (a :: s) t := by rw [mergeZ, if_neg h]
theorem mergeZ_perm (s t : List Int) : (mergeZ s t).Perm (s ++ t) := by
  induction s generalizing t with
  | nil => rw [mergeZ_nilL]; exact List.Perm.refl _
  | cons a s ih =>
    induction t with
    | nil => rw [mergeZ_nilR]; simp
    | cons b t ih2 =>
      by_cases h : a < b
      · rw [mergeZ_lt h]; exact (ih (b :: t)).cons a
      · rw [mergeZ_ge h]
        exact (ih2.cons b).trans (List.perm_middle (l₁ := a :: s) (l₂ := t)).symm
theorem mergeZ_sorted {s t : List Int} (h1 : s.Pairwise (· ≤ ·)) (h2 : t.Pairwise (· ≤ ·)) : (mergeZ s t).Pairwise (· ≤ ·) := by
  induction s generalizing t with
  | nil => rw [mergeZ_nilL]; exact h2
  | cons a s ih =>
    induction t with
    | nil => rw [mergeZ_nilR]; exact h1
    | cons b t ih2 =>
      have g1 := List.pairwise_cons.1 h1
      have g2 := List.pairwise_cons.1 h2
      by_cases h : a < b
      · rw [mergeZ_lt h, List.pairwise_cons]
        refine ⟨fun x hx => ?_, ih g1.2 h2⟩
        rcases List.mem_append.1 ((mergeZ_perm _ _).mem_iff.1 hx) with hx | hx
        · exact g1.1 x hx
        · rcases List.mem_cons.1 hx with rfl | hx
          · omega
          · have := g2.1 x hx; omega
      · rw [mergeZ_ge h, List.pairwise_cons]
        refine ⟨fun x hx => ?_, ih2 g2.2⟩
        rcases List.mem_append.1 ((mergeZ_perm _ _).mem_iff.1 hx) with hx | hx
        · rcases List.mem_cons.1 hx with rfl | hx
          · omega
          · have := g1.1 x hx; omega
        · exact g2.1 x hx
theorem idsG_merge {G : PGraph} (hi : GInv G) (f : Int) : (mergeZ (G.nodes.map (·.id)) (G.edges.map (·.id))).filter (fun x => decide (f ≤ x)) = idsG G f :=
  idsG_of ((mergeZ_sorted (hi.nodes.imp (fun {a b} h => by omega)) (hi.edges.imp (fun {a b} h => by omega))).filter _) ((mergeZ_perm _ _).filter _)
theorem mergeZ_node {N E : List Int} {i k : Nat} (hi : i < N.length) (h : k = E.length ∨ ∃ hk : k < E.length, N[i] < E[k]) : mergeZ (N.drop i) (E.drop k) = N[i] :: mergeZ (N.drop (i + 1)) (E.drop k) := by
  rw [List.drop_eq_getElem_cons hi]
  rcases h with rfl | ⟨hk, h⟩
  · rw [List.drop_length, mergeZ_nilR, mergeZ_nilR]
  · rw [List.drop_eq_getElem_cons hk, mergeZ_lt h]
theorem mergeZ_edge {N E : List Int} {i k : Nat} (hk : k < E.length) (h : N.length ≤ i ∨ ∃ hi : i < N.length, ¬ N[i] < E[k]) : mergeZ (N.drop i) (E.drop k) = E[k] :: mergeZ (N.drop i) (E.drop (k + 1)) := by
  rw [List.drop_eq_getElem_cons hk]
  rcases h with h | ⟨hi, h⟩
  · rw [List.drop_eq_nil_of_le h, mergeZ_nilL, mergeZ_nilL]
  · rw [List.drop_eq_getElem_cons hi, mergeZ_ge h]

end Go.Hg

namespace Go.Hg
open Go.RowKit Go.Proofs

section
variable {α : Type} {e : TypeId} {sz : Nat} {R : α → List Value → Prop} {n : Nat} {w w' : World} {v : Value} {l : List α}
end
theorem rdK (W : World) (cs : Array Value) (E : TypeId) (sz : Nat) (hs : cs.size = sz) {nb : Nat} (h : W.heap.size = nb) : Rd (W.alloc (.cells cs E)) sz (.slice (some ⟨nb, 0, none⟩) 1 1) 1 cs.toList := by
  subst h
  exact Rd.lit W cs E sz 1 (by omega)
end Go.Hg

namespace Go.Hg
open Go.RowKit Go.Proofs
theorem step_append_R {P : Program} {α : Type} {R : α → List Value → Prop} {w : World} {ops : Array Oper} {o : Oper} {a : Act} {K : Act → World → Prop} {Q : Exit → Act → World → Prop} {E : Prop} (hgd : o.guard = none) (s x : Operand) (t : TypeId)
    (ho : o.op = .call { callee := .builtin .append, args := #[s, x], argTypes := #[t, t] }) {e : TypeId} {sz bytes : Nat} (T : RowT P e sz bytes) (ht : P.underlying t = some (.slice e)) (n : Nat) (v : Value) (l : List α) (hs : a.eval s = v) (h : OwnN e sz R n w v l)
    (y : α) (r : List Value) (hr : R y r) (hrl : r.length = sz) (h1 : ∀ u ∈ r, u.oneCell' = true) (nb : Nat) (hx : a.eval x = .slice (some ⟨nb, 0, none⟩) 1 1) (hrd : Rd w sz (.slice (some ⟨nb, 0, none⟩) 1 1) 1 r) (hn : n ≤ w.heap.size) (hl : l.length + 1 ≤ maxLen) (hby : (l.length + 1) * bytes ≤ 140737488355328)
    (hK : ∀ v' w', OwnN e sz R n w' v' (l ++ [y]) → Since n w w' → w.heap.size ≤ w'.heap.size → K (a.put o.dst v') w') : if Region.wanted o (yielded ops a.tmps) = true then Oper.wp P o a w K Q else E := by
  obtain ⟨⟨iP, z, hiP, hzP0, hzP1, hzP2, hzz⟩, hpos⟩ := T
  obtain ⟨ob, hL, h2⟩ := h
  obtain ⟨rows, hlen, hrow, hS⟩ := hL
  refine step_append_S hgd s x t ho e iP z sz bytes ht hiP hzP0 hzP1 hzP2 hzz hpos v l.length _ ob hs hS _ hx 1 _ hrd h1 hl hby ?_
  intro v' w' ob' k1 k2 k3 _
  refine hK v' w' ⟨ob', ?_, ?_⟩ (k2.mono fun q hq => h2 q hq) k2.size
  · refine ⟨rows ++ [r], by simp [hlen], fun k x1 r1 hx1 hr1 => ?_, ?_⟩
    · by_cases hk : k < l.length
      · rw [List.getElem?_append_left hk] at hx1
        rw [List.getElem?_append_left (by omega)] at hr1
        exact hrow k x1 r1 hx1 hr1
      · have hk2 : k = l.length := by
          have := (List.getElem?_eq_some_iff.1 hx1).1
          simp at this
          omega
        subst hk2
        rw [List.getElem?_append_right (by omega)] at hx1
        rw [← hlen, List.getElem?_append_right (by omega)] at hr1
        simp at hx1 hr1
        subst hx1; subst hr1
        exact ⟨hr, hrl⟩
    · rw [List.length_append, List.flatten_append]
      simpa using k1
  · intro q hq
    rcases k3 with k3 | ⟨g, k3, hg⟩
    · exact h2 q (k3 ▸ hq)
    · rw [k3] at hq; cases hq; omega
theorem step_append_L {P : Program} {α : Type} {R : α → List Value → Prop} {S : Nat → Prop} {w : World} {ops : Array Oper} {o : Oper} {a : Act} {K : Act → World → Prop} {Q : Exit → Act → World → Prop} {E : Prop} (hgd : o.guard = none) (s x : Operand) (t : TypeId)
    (ho : o.op = .call { callee := .builtin .append, args := #[s, x], argTypes := #[t, t] }) {e : TypeId} {sz bytes : Nat} (T : RowT P e sz bytes) (ht : P.underlying t = some (.slice e)) (n : Nat) (nb : Nat) (hs : a.eval s = .slice (some ⟨nb, 0, none⟩) 0 0)
    (xv : Value) (hx : a.eval x = xv) (l : List α) (hl : SlR S w sz R xv l) (hR : ∀ x r, R x r → r.length = sz ∧ ∀ u ∈ r, u.oneCell' = true) (hn : n ≤ w.heap.size) (hlm : l.length ≤ maxLen) (hby : l.length * bytes ≤ 140737488355328)
    (hK : ∀ v' w', OwnN e sz R n w' v' l → Grow w w' → K (a.put o.dst v') w') : if Region.wanted o (yielded ops a.tmps) = true then Oper.wp P o a w K Q else E := by
  obtain ⟨rows, h1, h2, h3⟩ := SlR.rdN hl T.pos (fun x r h => (hR x r h).1)
  obtain ⟨⟨iP, z, hiP, hzP0, hzP1, hzP2, hzz⟩, hpos⟩ := T
  have hone : ∀ u ∈ rows.flatten, u.oneCell' = true := by
    intro u hu
    obtain ⟨r, hr, hur⟩ := List.mem_flatten.1 hu
    obtain ⟨k, hk, e⟩ := List.getElem_of_mem hr
    exact (hR _ r (h2 k (l[k]'(by omega)) r (List.getElem?_eq_getElem (by omega)) (by rw [List.getElem?_eq_getElem hk, e])).1).2 u hur
  refine step_append_S hgd s x t ho e iP z sz bytes ht hiP hzP0 hzP1 hzP2 hzz hpos _ 0 [] none hs ⟨by simp, .inl ⟨_, rfl, rfl, rfl, by simp⟩⟩ _ hx l.length _ h3 hone (by omega) (by rw [Nat.zero_add]; exact hby) ?_
  intro v' w' ob' k1 k2 k3 _
  have hg : Grow w w' := (k2.mono (F' := fun _ => False) (fun q hq => by cases hq)).grow
  refine hK v' w' ⟨ob', ⟨rows, h1, h2, ?_⟩, ?_⟩ hg
  · simpa using k1
  · intro q hq
    rcases k3 with k3 | ⟨g, k3, hg⟩
    · rw [k3] at hq; cases hq
    · rw [k3] at hq; cases hq; omega
end Go.Hg

namespace Go.Hg
open Go.RowKit Go.Proofs

theorem step_append_M {P : Program} {α : Type} {R : α → List Value → Prop} {S : Nat → Prop} {w : World} {ops : Array Oper} {o : Oper} {a : Act} {K : Act → World → Prop} {Q : Exit → Act → World → Prop} {E : Prop} (hgd : o.guard = none) (s x : Operand) (t : TypeId)
    (ho : o.op = .call { callee := .builtin .append, args := #[s, x], argTypes := #[t, t] }) {e : TypeId} {sz bytes : Nat} (T : RowT P e sz bytes) (ht : P.underlying t = some (.slice e)) (n : Nat) (v : Value) (l : List α) (hs : a.eval s = v) (h : OwnN e sz R n w v l)
    (xv : Value) (hx : a.eval x = xv) (m : List α) (hm : SlR S w sz R xv m) (hR : ∀ x r, R x r → r.length = sz ∧ ∀ u ∈ r, u.oneCell' = true) (hn : n ≤ w.heap.size) (hl : l.length + m.length ≤ maxLen) (hby : (l.length + m.length) * bytes ≤ 140737488355328)
    (hK : ∀ v' w', OwnN e sz R n w' v' (l ++ m) → Since n w w' → w.heap.size ≤ w'.heap.size → K (a.put o.dst v') w') : if Region.wanted o (yielded ops a.tmps) = true then Oper.wp P o a w K Q else E := by
  obtain ⟨rows2, g1, g2, g3⟩ := SlR.rdN hm T.pos (fun x r h => (hR x r h).1)
  obtain ⟨⟨iP, z, hiP, hzP0, hzP1, hzP2, hzz⟩, hpos⟩ := T
  obtain ⟨ob, hL, h2⟩ := h
  obtain ⟨rows, hlen, hrow, hS⟩ := hL
  have hone : ∀ u ∈ rows2.flatten, u.oneCell' = true := by
    intro u hu
    obtain ⟨r, hr, hur⟩ := List.mem_flatten.1 hu
    obtain ⟨k, hk, e⟩ := List.getElem_of_mem hr
    exact (hR _ r (g2 k (m[k]'(by omega)) r (List.getElem?_eq_getElem (by omega)) (by rw [List.getElem?_eq_getElem hk, e])).1).2 u hur
  refine step_append_S hgd s x t ho e iP z sz bytes ht hiP hzP0 hzP1 hzP2 hzz hpos v l.length _ ob hs hS _ hx m.length _ g3 hone hl hby ?_
  intro v' w' ob' k1 k2 k3 _
  refine hK v' w' ⟨ob', ?_, ?_⟩ (k2.mono fun q hq => h2 q hq) k2.size
  · refine ⟨rows ++ rows2, by simp [hlen, g1], fun k x1 r1 hx1 hr1 => ?_, ?_⟩
    · by_cases hk : k < l.length
      · rw [List.getElem?_append_left hk] at hx1
        rw [List.getElem?_append_left (by omega)] at hr1
        exact hrow k x1 r1 hx1 hr1
      · rw [List.getElem?_append_right (by omega)] at hx1
        rw [List.getElem?_append_right (by omega), hlen] at hr1
        exact g2 _ x1 r1 hx1 hr1
    · rw [List.length_append, List.flatten_append]
      exact k1
  · intro q hq
    rcases k3 with k3 | ⟨g, k3, hg⟩
    · exact h2 q (k3 ▸ hq)
    · rw [k3] at hq; cases hq; omega
theorem SlR.takeS {α : Type} {S : Nat → Prop} {w : World} {sz : Nat} {R : α → List Value → Prop} {a : Option Addr} {n cap : Nat} {l : List α} (h : SlR S w sz R (.slice a n cap) l) (k : Nat) (hk : k ≤ l.length) : SlR S w sz R (.slice a k cap) (l.take k) := by
  obtain ⟨a', cap', rows, hv, h1, h2, h3, h4, h5⟩ := h
  simp only [Value.slice.injEq] at hv
  obtain ⟨rfl, rfl, rfl⟩ := hv
  refine ⟨a, cap, rows.take k, by rw [List.length_take, Nat.min_eq_left hk], by rw [List.length_take]; omega, h2, by simp [h3], fun i x r hx hr => ?_, fun h0 => ?_⟩
  · rw [List.getElem?_take] at hx hr
    split at hx
    · rw [if_pos (by assumption)] at hr; exact h4 i x r hx hr
    · cases hx
  · rw [List.length_take] at h0
    obtain ⟨b, off, e, hS, hb, hc⟩ := h5 (by omega)
    refine ⟨b, off, e, hS, hb, fun i r j c hr hj => ?_⟩
    rw [List.getElem?_take] at hr
    split at hr
    · exact hc i r j c hr hj
    · cases hr
theorem SlR.dropS {α : Type} {S : Nat → Prop} {w : World} {sz : Nat} {R : α → List Value → Prop} {b off n cap : Nat} {l : List α} (h : SlR S w sz R (.slice (some ⟨b, off, none⟩) n cap) l) (k : Nat) (hk : k ≤ l.length) : SlR S w sz R (.slice (some ⟨b, off + k * sz, none⟩) (l.length - k) (cap - k)) (l.drop k) := by
  obtain ⟨a', cap', rows, hv, h1, h2, h3, h4, h5⟩ := h
  simp only [Value.slice.injEq] at hv
  obtain ⟨rfl, rfl, rfl⟩ := hv
  refine ⟨some ⟨b, off + k * sz, none⟩, cap - k, rows.drop k, by simp, by rw [List.length_drop]; omega, by omega, by simp [h3], fun i x r hx hr => ?_, fun h0 => ?_⟩
  · rw [List.getElem?_drop] at hx hr
    exact h4 _ x r hx hr
  · rw [List.length_drop] at h0
    obtain ⟨b', off', e, hS, hb, hc⟩ := h5 (by omega)
    simp only [Option.some.injEq, Addr.mk.injEq, and_true] at e
    obtain ⟨rfl, rfl⟩ := e
    refine ⟨b, off + k * sz, rfl, hS, hb, fun i r j c hr hj => ?_⟩
    rw [List.getElem?_drop] at hr
    have := hc _ r j c hr hj
    rw [Nat.add_mul] at this
    rw [Nat.add_assoc off]
    exact this
end Go.Hg

namespace Go.Hg
open Go.RowKit Go.Proofs

def MZ (f : Int) (N : List PNode) (E : List PEdge) (i k : Nat) (X L : List Int) : Prop := X ++ (mergeZ ((N.map (·.id)).drop i) ((E.map (·.id)).drop k)).filter (fun x => decide (f ≤ x)) = L
theorem step_node {f : Int} {N : List PNode} {E : List PEdge} {i k : Nat} {X L : List Int} (h : MZ f N E i k X L) (hi : i < N.length) (hk : k = E.length ∨ ∃ hk : k < E.length, N[i].id < E[k].id) :
    (f ≤ N[i].id → MZ f N E (i + 1) k (X ++ [N[i].id]) L) ∧ (¬ f ≤ N[i].id → MZ f N E (i + 1) k X L) := by
  unfold MZ at *
  have hi2 : i < (N.map (·.id)).length := by simpa using hi
  have e := mergeZ_node (N := N.map (·.id)) (E := E.map (·.id)) (k := k) hi2 (by
    rcases hk with rfl | ⟨hk, h⟩
    · exact .inl (by simp)
    · exact .inr ⟨by simpa using hk, by simpa using h⟩)
  rw [e, List.getElem_map] at h
  refine ⟨fun hf => ?_, fun hf => ?_⟩
  · rw [List.filter_cons_of_pos (by simpa using hf)] at h
    rw [← h]; simp
  · rw [List.filter_cons_of_neg (by simpa using hf)] at h
    exact h
theorem step_edge {f : Int} {N : List PNode} {E : List PEdge} {i k : Nat} {X L : List Int} (h : MZ f N E i k X L) (hk : k < E.length) (hi : N.length ≤ i ∨ ∃ hi : i < N.length, ¬ N[i].id < E[k].id) :
    (f ≤ E[k].id → MZ f N E i (k + 1) (X ++ [E[k].id]) L) ∧ (¬ f ≤ E[k].id → MZ f N E i (k + 1) X L) := by
  unfold MZ at *
  have hk2 : k < (E.map (·.id)).length := by simpa using hk
  have e := mergeZ_edge (N := N.map (·.id)) (E := E.map (·.id)) (i := i) hk2 (by
    rcases hi with hi | ⟨hi, h⟩
    · exact .inl (by simpa using hi)
    · exact .inr ⟨by simpa using hi, by simpa using h⟩)
  rw [e, List.getElem_map] at h
  refine ⟨fun hf => ?_, fun hf => ?_⟩
  · rw [List.filter_cons_of_pos (by simpa using hf)] at h
    rw [← h]; simp
  · rw [List.filter_cons_of_neg (by simpa using hf)] at h
    exact h
theorem mz_len {f : Int} {N : List PNode} {E : List PEdge} {i k : Nat} {X L : List Int} (h : MZ f N E i k X L) : X.length ≤ L.length := by
  unfold MZ at h
  rw [← h]; simp
theorem mz_end {f : Int} {N : List PNode} {E : List PEdge} {X L : List Int} (h : MZ f N E N.length E.length X L) : X = L := by
  unfold MZ at h
  rw [List.drop_eq_nil_of_le (by simp), List.drop_eq_nil_of_le (by simp), mergeZ_nilL] at h
  simpa using h

set_option maxRecDepth 100000 in
set_option maxHeartbeats 8000000 in
theorem ref23Ids (SG : Nat → Prop) (BG : Nat) (G : PGraph) (f : Int) (w : World) (hg : GraphOk 42 SG w BG G) (hG : GInv G) :
    Calls Tryz.prog 52 #[.pointer (some ⟨BG, 0, none⟩), .int .i64 f] w fun e w' => ∃ v, e = .returned v ∧ IdsR (fun b => w.heap.size ≤ b) w' v (idsG G f) ∧ Grow w w' := by
  obtain ⟨na, nc, ea, ec, hB, c0, c1, c2, hn, he⟩ := hg.read
  obtain ⟨_, _, hv, hal, hac, hAN⟩ := SlR.open hn
  simp only [Value.slice.injEq, true_and] at hv
  obtain ⟨rfl, rfl⟩ := hv
  obtain ⟨_, _, hv, hel, hec, hAE⟩ := SlR.open he
  simp only [Value.slice.injEq, true_and] at hv
  obtain ⟨rfl, rfl⟩ := hv
  unfold maxLen at hac hec
  have HAN := Lib.hid hAN; have HAE := Lib.hid hAE
  have HIDL := Lib.hid (idsG_len G f)
  have HMZ := Lib.hid (show MZ f G.nodes G.edges 0 0 [] (idsG G f) by unfold MZ; rw [← idsG_merge hG f]; simp)
  have hit : G.nodes.length ≤ 1024 ∧ G.edges.length ≤ 1024 := by have := hG.items; omega
  clear hg hG hn he hAN hAE c2
  obtain ⟨L, hL⟩ : ∃ L, idsG G f = L := ⟨_, rfl⟩
  rw [hL] at HMZ HIDL
  rw [hL]
  clear hL
  generalize G.nodes = N at *
  generalize G.edges = E at *
  obtain ⟨hN1, hE1⟩ := hit
  have HLL := Lib.hid (show L.length ≤ 4096 by have := HIDL.out; omega)
  clear HIDL
  go_enter Tryz.func52, Tryz.ntmps52
  go_wp2
  go_loopg [5, 6, 7] (N.length + E.length) (fun g lv iv kv wr => ∃ (i k : Nat) (X : List Int), i ≤ N.length ∧ k ≤ E.length ∧ g = N.length + E.length - (i + k) ∧ iv = .int .i64 i ∧ kv = .int .i64 k ∧ IdsP (fun b => w.heap.size ≤ b) wr lv X ∧ MZ f N E i k X L ∧ Grow w wr)
  case atStart => exact ⟨0, 0, [], by omega, by omega, by omega, rfl, rfl, IdsP.nil _ _, HMZ.out, Grow.rfl' _⟩
  case round =>
    obtain ⟨i, k, X, hi, hk, rfl, rfl, rfl, hown, hrl, hgr⟩ := hrel
    have HOWN := Lib.hid hown; have HGR := Lib.hid hgr; have HREL := Lib.hid hrl
    have HXL := Lib.hid (show X.length ≤ 4096 from Nat.le_trans (mz_len hrl) HLL.out)
    obtain ⟨oo, co, rfl, hoc, hom⟩ := hown.isSlice
    have hB2 : BG < wr.heap.size := Nat.lt_of_lt_of_le hB hgr.size
    have d0 := (hgr.cell (p := ⟨BG, 0, none⟩) hB).trans c0
    have d1 := (hgr.cell (p := ⟨BG, 1, none⟩) hB).trans c1
    have HD0 := Lib.hid (show ∀ w', Grow wr w' → w'.cell? ⟨BG, 0, none⟩ = some (.slice na N.length nc) ∧ w'.cell? ⟨BG, 1, none⟩ = some (.slice ea E.length ec) from fun w' g => ⟨(g.cell (p := ⟨BG, 0, none⟩) hB2).trans d0, (g.cell (p := ⟨BG, 1, none⟩) hB2).trans d1⟩)
    clear hown hrl hoc hom HMZ
    by_cases hiN : i < N.length
    · by_cases hkE : k < E.length
      · by_cases hlt : N[i].id < E[k].id
        · have HSTEP := Lib.hid (step_node HREL.out hiN (.inr ⟨hkE, hlt⟩))
          obtain ⟨bn, on, rn, rfl, -, hbn, hRn, hcn⟩ := HAN.out i N[i] (List.getElem?_eq_getElem hiN)
          obtain ⟨_, hbn2, n0, -, -, -⟩ := hRn.at hbn hgr hcn
          clear hcn hRn hbn
          obtain ⟨be, oe, re, rfl, -, hbe, hRe, hce⟩ := HAE.out k E[k] (List.getElem?_eq_getElem hkE)
          obtain ⟨_, hbe2, q0, -, -, -, -, -⟩ := hRe.at hbe hgr hce
          clear hce hRe hbe
          generalize N[i].id = x at *
          generalize E[k].id = y at *
          have hlb : decide (x < y) = true := by simpa using hlt
          have hke : ((k : Int) == (E.length : Int)) = false := by simp; omega
          have hke2 : (k == E.length) = false := by simp; omega
          clear hlt
          clear hgr
          go_wp2_with fail
          refine wp_region_grow (by kernel_rfl) (by kernel_rfl) ?_
          repeat (go_big_quiet_step (fail))
          refine wpQuiet_nil ?_
          intro w2 hw2
          have HQ2 := Lib.hid hw2
          have HG2 := Lib.hid (HGR.out.step hw2)
          have hqs := hw2.size
          have r0 := (HQ2.out.cell (p := ⟨bn, on + i * 3, none⟩) hbn2).trans n0
          obtain ⟨d0, d1⟩ := HD0.out w2 hw2
          clear hw2
          by_cases hf : f ≤ x
          · have hfb : decide (f ≤ x) = true := by simpa using hf
            have HEQ := Lib.hid (HSTEP.out.1 (by omega))
            clear hf
            have HWA := Lib.hid (show ∀ o1, Grow w2 (w2.alloc o1) from fun o1 => (Grow.rfl' w2).allocd o1)
            have HSZ := Lib.hid HG2.out.size
            go_wp2_with (at_builtin; go_must (refine wpList_append_P rfl (.tmp 83) (.tmp 85) 25 rfl Tryz.underlying25 (fun b => w.heap.size ≤ b) _ X rfl ((HOWN.out.grow HQ2.out).grow (HWA.out _)) x w2.heap.size rfl (rd1 _ _ _ rfl) (by have := HSZ.out; simp; omega) (by have := HXL.out; omega) ?_))
            intro v' w5 h1 h2 h3
            have H5 := Lib.hid h1
            have HG5 := Lib.hid (show Grow w w5 from (HG2.out.step (HWA.out _)).modd h2 (fun _ h => h))
            clear h1 h2 h3
            go_wp2_with fail
            go_roundg (N.length + E.length - (i + k + 1))
            case measure => omega
            case rel => exact ⟨i + 1, k, X ++ [x], by omega, by omega, by omega, by go_num, by go_num, H5.out, HEQ.out, HG5.out⟩
          · have hfb : decide (f ≤ x) = false := by simpa using hf
            have HEQ := Lib.hid (HSTEP.out.2 (by omega))
            clear hf
            go_wp2_with fail
            go_roundg (N.length + E.length - (i + k + 1))
            case measure => omega
            case rel => exact ⟨i + 1, k, X, by omega, by omega, by omega, by go_num, by go_num, HOWN.out.grow HQ2.out, HEQ.out, HG2.out⟩
        · have HSTEP := Lib.hid (step_edge HREL.out hkE (.inr ⟨hiN, hlt⟩))
          obtain ⟨bn, on, rn, rfl, -, hbn, hRn, hcn⟩ := HAN.out i N[i] (List.getElem?_eq_getElem hiN)
          obtain ⟨_, hbn2, n0, -, -, -⟩ := hRn.at hbn hgr hcn
          clear hcn hRn hbn
          obtain ⟨be, oe, re, rfl, -, hbe, hRe, hce⟩ := HAE.out k E[k] (List.getElem?_eq_getElem hkE)
          obtain ⟨_, hbe2, q0, -, -, -, -, -⟩ := hRe.at hbe hgr hce
          clear hce hRe hbe
          generalize N[i].id = x at *
          generalize E[k].id = y at *
          have hlb : decide (x < y) = false := by simpa using hlt
          have hke : ((k : Int) == (E.length : Int)) = false := by simp; omega
          have hke2 : (k == E.length) = false := by simp; omega
          clear hlt
          clear hgr
          go_wp2_with fail
          refine wp_region_grow (by kernel_rfl) (by kernel_rfl) ?_
          repeat (go_big_quiet_step (fail))
          refine wpQuiet_nil ?_
          intro w2 hw2
          have HQ2 := Lib.hid hw2
          have HG2 := Lib.hid (HGR.out.step hw2)
          have hqs := hw2.size
          have r0 := (HQ2.out.cell (p := ⟨be, oe + k * 5, none⟩) hbe2).trans q0
          obtain ⟨d0, d1⟩ := HD0.out w2 hw2
          clear hw2
          by_cases hf : f ≤ y
          · have hfb : decide (f ≤ y) = true := by simpa using hf
            have HEQ := Lib.hid (HSTEP.out.1 (by omega))
            clear hf
            have HWA := Lib.hid (show ∀ o1, Grow w2 (w2.alloc o1) from fun o1 => (Grow.rfl' w2).allocd o1)
            have HSZ := Lib.hid HG2.out.size
            go_wp2_with (at_builtin; go_must (refine wpList_append_P rfl (.tmp 83) (.tmp 85) 25 rfl Tryz.underlying25 (fun b => w.heap.size ≤ b) _ X rfl ((HOWN.out.grow HQ2.out).grow (HWA.out _)) y w2.heap.size rfl (rd1 _ _ _ rfl) (by have := HSZ.out; simp; omega) (by have := HXL.out; omega) ?_))
            intro v' w5 h1 h2 h3
            have H5 := Lib.hid h1
            have HG5 := Lib.hid (show Grow w w5 from (HG2.out.step (HWA.out _)).modd h2 (fun _ h => h))
            clear h1 h2 h3
            go_wp2_with fail
            go_roundg (N.length + E.length - (i + k + 1))
            case measure => omega
            case rel => exact ⟨i, k + 1, X ++ [y], by omega, by omega, by omega, by go_num, by go_num, H5.out, HEQ.out, HG5.out⟩
          · have hfb : decide (f ≤ y) = false := by simpa using hf
            have HEQ := Lib.hid (HSTEP.out.2 (by omega))
            clear hf
            go_wp2_with fail
            go_roundg (N.length + E.length - (i + k + 1))
            case measure => omega
            case rel => exact ⟨i, k + 1, X, by omega, by omega, by omega, by go_num, by go_num, HOWN.out.grow HQ2.out, HEQ.out, HG2.out⟩
      · obtain rfl : k = E.length := by omega
        have HSTEP := Lib.hid (step_node HREL.out hiN (.inl rfl))
        obtain ⟨bn, on, rn, rfl, -, hbn, hRn, hcn⟩ := HAN.out i N[i] (List.getElem?_eq_getElem hiN)
        obtain ⟨_, hbn2, n0, -, -, -⟩ := hRn.at hbn hgr hcn
        clear hcn hRn hbn
        generalize N[i].id = x at *
        have hkE2 : (E.length == E.length) = true := by simp
        have hkE3 : ((E.length : Int) == (E.length : Int)) = true := by simp
        clear hgr
        go_wp2_with fail
        refine wp_region_grow (by kernel_rfl) (by kernel_rfl) ?_
        repeat (go_big_quiet_step (fail))
        refine wpQuiet_nil ?_
        intro w2 hw2
        have HQ2 := Lib.hid hw2
        have HG2 := Lib.hid (HGR.out.step hw2)
        have hqs := hw2.size
        have r0 := (HQ2.out.cell (p := ⟨bn, on + i * 3, none⟩) hbn2).trans n0
        obtain ⟨d0, d1⟩ := HD0.out w2 hw2
        clear hw2
        by_cases hf : f ≤ x
        · have hfb : decide (f ≤ x) = true := by simpa using hf
          have HEQ := Lib.hid (HSTEP.out.1 (by omega))
          clear hf
          have HWA := Lib.hid (show ∀ o1, Grow w2 (w2.alloc o1) from fun o1 => (Grow.rfl' w2).allocd o1)
          have HSZ := Lib.hid HG2.out.size
          go_wp2_with (at_builtin; go_must (refine wpList_append_P rfl (.tmp 83) (.tmp 85) 25 rfl Tryz.underlying25 (fun b => w.heap.size ≤ b) _ X rfl ((HOWN.out.grow HQ2.out).grow (HWA.out _)) x w2.heap.size rfl (rd1 _ _ _ rfl) (by have := HSZ.out; simp; omega) (by have := HXL.out; omega) ?_))
          intro v' w5 h1 h2 h3
          have H5 := Lib.hid h1
          have HG5 := Lib.hid (show Grow w w5 from (HG2.out.step (HWA.out _)).modd h2 (fun _ h => h))
          clear h1 h2 h3
          go_wp2_with fail
          go_roundg (N.length + E.length - (i + E.length + 1))
          case measure => omega
          case rel => exact ⟨i + 1, E.length, X ++ [x], by omega, by omega, by omega, by go_num, by go_num, H5.out, HEQ.out, HG5.out⟩
        · have hfb : decide (f ≤ x) = false := by simpa using hf
          have HEQ := Lib.hid (HSTEP.out.2 (by omega))
          clear hf
          go_wp2_with fail
          go_roundg (N.length + E.length - (i + E.length + 1))
          case measure => omega
          case rel => exact ⟨i + 1, E.length, X, by omega, by omega, by omega, by go_num, by go_num, HOWN.out.grow HQ2.out, HEQ.out, HG2.out⟩
    · obtain rfl : i = N.length := by omega
      by_cases hkE : k < E.length
      · have HSTEP := Lib.hid (step_edge HREL.out hkE (.inl (Nat.le_refl _)))
        obtain ⟨be, oe, re, rfl, -, hbe, hRe, hce⟩ := HAE.out k E[k] (List.getElem?_eq_getElem hkE)
        obtain ⟨_, hbe2, q0, -, -, -, -, -⟩ := hRe.at hbe hgr hce
        clear hce hRe hbe
        generalize E[k].id = y at *
        have hke : ((k : Int) == (E.length : Int)) = false := by simp; omega
        have hke2 : (k == E.length) = false := by simp; omega
        clear hgr
        go_wp2_with fail
        refine wp_region_grow (by kernel_rfl) (by kernel_rfl) ?_
        repeat (go_big_quiet_step (fail))
        refine wpQuiet_nil ?_
        intro w2 hw2
        have HQ2 := Lib.hid hw2
        have HG2 := Lib.hid (HGR.out.step hw2)
        have hqs := hw2.size
        have r0 := (HQ2.out.cell (p := ⟨be, oe + k * 5, none⟩) hbe2).trans q0
        obtain ⟨d0, d1⟩ := HD0.out w2 hw2
        clear hw2
        by_cases hf : f ≤ y
        · have hfb : decide (f ≤ y) = true := by simpa using hf
          have HEQ := Lib.hid (HSTEP.out.1 (by omega))
          clear hf
          have HWA := Lib.hid (show ∀ o1, Grow w2 (w2.alloc o1) from fun o1 => (Grow.rfl' w2).allocd o1)
          have HSZ := Lib.hid HG2.out.size
          go_wp2_with (at_builtin; go_must (refine wpList_append_P rfl (.tmp 83) (.tmp 85) 25 rfl Tryz.underlying25 (fun b => w.heap.size ≤ b) _ X rfl ((HOWN.out.grow HQ2.out).grow (HWA.out _)) y w2.heap.size rfl (rd1 _ _ _ rfl) (by have := HSZ.out; simp; omega) (by have := HXL.out; omega) ?_))
          intro v' w5 h1 h2 h3
          have H5 := Lib.hid h1
          have HG5 := Lib.hid (show Grow w w5 from (HG2.out.step (HWA.out _)).modd h2 (fun _ h => h))
          clear h1 h2 h3
          go_wp2_with fail
          go_roundg (N.length + E.length - (N.length + k + 1))
          case measure => omega
          case rel => exact ⟨N.length, k + 1, X ++ [y], by omega, by omega, by omega, by go_num, by go_num, H5.out, HEQ.out, HG5.out⟩
        · have hfb : decide (f ≤ y) = false := by simpa using hf
          have HEQ := Lib.hid (HSTEP.out.2 (by omega))
          clear hf
          go_wp2_with fail
          go_roundg (N.length + E.length - (N.length + k + 1))
          case measure => omega
          case rel => exact ⟨N.length, k + 1, X, by omega, by omega, by omega, by go_num, by go_num, HOWN.out.grow HQ2.out, HEQ.out, HG2.out⟩
      · obtain rfl : k = E.length := by omega
        have HXE := Lib.hid (mz_end HREL.out)
        clear hgr
        go_wp2
        go_ret
        exact ⟨_, rfl, by rw [← HXE.out]; obtain ⟨ob, h1, h2⟩ := HOWN.out; exact h1.toR h2, HGR.out⟩
end Go.Hg

namespace Go.Hg
open Go.RowKit Go.Proofs

set_option maxRecDepth 100000 in
set_option maxHeartbeats 4000000 in
theorem ref23Verdict (S SG : Nat → Prop) (B BG : Nat) (J : PJob) (G : PGraph) (w : World) (h : RJobOk S w B J) (hg : GraphOk 42 SG w BG G) (hG : GInv G) :
    Calls Tryz.prog 30 #[.pointer (some ⟨B, 0, none⟩), .pointer (some ⟨BG, 0, none⟩)] w fun e w' => e = .returned (verdV G J) ∧ Grow w w' := by
  have HJ := Lib.hid h; have HG := Lib.hid hg
  obtain ⟨lv, -, hB, -⟩ := h
  obtain ⟨na, nc, ea, ec, hbg, d0, d1, d2, hn, he⟩ := hg.read
  have HB := Lib.hid hB; have HN := Lib.hid hn; have HE := Lib.hid he
  have HLN := Lib.hid (show G.nodes.length ≤ 1099511627776 ∧ G.edges.length ≤ 1099511627776 by have := hG.items; omega)
  clear hg hG hB hn he d2
  obtain ⟨be, hbe⟩ : ∃ b, endedJ J G.next = b := ⟨_, rfl⟩
  have HBE := Lib.hid hbe
  clear hbe
  go_enter Tryz.func30, Tryz.ntmps30
  go_wp2_with fail
  refine (ref23Ended S SG B BG J G w HJ.out HG.out).mono ?_
  rintro e w1 ⟨rfl, g1⟩
  rw [HBE.out]
  have HG1 := Lib.hid g1
  have HS := Lib.hid (show ∀ w', Grow w1 w' → (RuleB w' B J.r ∧ w'.cell? ⟨BG, 0, none⟩ = some (.slice na G.nodes.length nc) ∧ w'.cell? ⟨BG, 1, none⟩ = some (.slice ea G.edges.length ec)) from fun w' g => ⟨ruleB_of (rest := [.int .i64 J.chunk, .int .i64 J.pos, lv]) (((HG1.out.step g).heapEq (blk_lt HB.out)).trans HB.out), ((HG1.out.step g).cell (p := ⟨BG, 0, none⟩) hbg).trans d0, ((HG1.out.step g).cell (p := ⟨BG, 1, none⟩) hbg).trans d1⟩)
  clear g1 d0 d1
  cases be
  · go_wp2
    go_ret2
    exact ⟨by unfold verdV; rw [HBE.out]; rfl, HG1.out⟩
  · have HD := Lib.hid (show Grow w1 w1.drew from (Grow.rfl' w1).drewd)
    have HVD := Lib.hid (show verdV G J = .tuple #[.bool (keepR G.nodes G.edges J.r), .int .i64 0] by unfold verdV; rw [HBE.out]; rfl)
    have HKP := Lib.hid (show ∀ w', Grow w1 w' → Calls Tryz.prog 17 #[.slice na G.nodes.length nc, .slice ea G.edges.length ec, J.r.args] w' fun e w2 => e = .returned (.bool (keepR G.nodes G.edges J.r)) ∧ Grow w' w2 from fun w' g => ref15Keeps _ _ _ G.nodes G.edges J.r w' (HN.out.grow (HG1.out.step g)) (HE.out.grow (HG1.out.step g)) HLN.out.1 HLN.out.2)
    clear HJ HG HN HE
    generalize keepR G.nodes G.edges J.r = kr at *
    go_wp2_with fail
    go_region_held3 (fun w' => RuleB w' B J.r ∧ w'.cell? ⟨BG, 0, none⟩ = some (.slice na G.nodes.length nc) ∧ w'.cell? ⟨BG, 1, none⟩ = some (.slice ea G.edges.length ec)) (first | exact HS.out _ HD.out | exact HS.out _ HG9.out) (first | (go_at_call 17; refine (HKP.out _ HD.out).mono ?_; rintro e w9 ⟨rfl, g9⟩; have HG9 := Lib.hid (HD.out.step g9); clear g9))
    all_goals go_wp2
    all_goals go_ret2
    all_goals exact ⟨by rw [HVD.out]; rfl, HG1.out.step HG9.out⟩
end Go.Hg

namespace Go.Hg
open Go.RowKit Go.Proofs

set_option maxRecDepth 100000 in
set_option maxHeartbeats 2000000 in
theorem jobRule (S : Nat → Prop) (B : Nat) (J : PJob) (w : World) (h : JobOk S w B J) : Calls Tryz.prog 34 #[.pointer (some ⟨B, 0, none⟩)] w fun e w' => e = .returned J.r.args ∧ Grow w w' := by
  obtain ⟨cb, mb, s, r, tm, hS1, hS2, hS3, hn1, hn2, hn3, hB, hcb, hm⟩ := h
  have hbl := blk_lt hB
  obtain ⟨⟨c0, c1, c2, c3, c4, c5, c6, c7⟩, -, -, -, -⟩ := jobB_of hB
  clear hcb hm hB
  go_enter Tryz.func34, Tryz.ntmps34
  go_wp2
  refine bodyPost_ret (v := J.r.args) ?_ rfl ⟨rfl, (Grow.rfl' w).allocd _⟩
  rw [results_cell1 rfl]
  obtain ⟨d0, d1, d2, d3, d4, d5, d6, d7⟩ := ruleB_of (rest := []) (heap_alloc_new w (.cells #[.int .i64 J.r.id, .int .i64 J.r.kind, .string J.r.typ, .string J.r.name, .string J.r.from_, .string J.r.to_, .int .i64 J.r.n, .int .i64 J.r.state] 23))
  go_simp
end Go.Hg

namespace Go.Hg
open Go.RowKit Go.Proofs

set_option maxRecDepth 100000 in
set_option maxHeartbeats 1000000 in
theorem keepLongsEq (Sa Sb : Nat → Prop) (va vb : Value) (l : List Int) (w : World) (ha : IdsR Sa w va l) (hb : IdsR Sb w vb l) :
    Calls Tryz.prog 28 #[va, vb] w fun e w' => e = .returned (.bool true) ∧ Grow w w' := by
  obtain ⟨aa, ca, rfl, hal, hac, hA⟩ := SlR.open ha
  obtain ⟨ab, cb, rfl, hbl, hbc, hB⟩ := SlR.open hb
  clear ha hb
  unfold maxLen at hac hbc
  have HA := Lib.hid hA; have HB := Lib.hid hB; clear hA hB
  go_enter Tryz.func28, Tryz.ntmps28
  go_wp2
  go_loopg [5] l.length (fun g i wr => ∃ k : Nat, k ≤ l.length ∧ g = l.length - k ∧ i = .int .i64 k ∧ Grow w wr)
  case atStart => exact ⟨0, by omega, by omega, rfl, Grow.rfl' w⟩
  case round =>
    obtain ⟨k, hk, rfl, rfl, hgr⟩ := hrel
    have HGR := Lib.hid hgr
    by_cases hkl : k < l.length
    · obtain ⟨ba, oa, ra, rfl, hSa, hba, hRa, hca⟩ := HA.out k l[k] (List.getElem?_eq_getElem hkl)
      obtain ⟨bb, ob, rb, rfl, hSb, hbb, hRb, hcb⟩ := HB.out k l[k] (List.getElem?_eq_getElem hkl)
      have ha2 : ba < wr.heap.size := Nat.lt_of_lt_of_le hba hgr.size
      have hb2 : bb < wr.heap.size := Nat.lt_of_lt_of_le hbb hgr.size
      have hca0 := (hgr.cell (p := ⟨ba, oa + k * 1 + 0, none⟩) hba).trans (hca 0 (.int .i64 l[k]) (by rw [show ra = [.int .i64 l[k]] from hRa]; rfl))
      have hcb0 := (hgr.cell (p := ⟨bb, ob + k * 1 + 0, none⟩) hbb).trans (hcb 0 (.int .i64 l[k]) (by rw [show rb = [.int .i64 l[k]] from hRb]; rfl))
      rw [Nat.mul_one, Nat.add_zero] at hca0 hcb0
      clear hca hcb hRa hRb hSa hSb hba hbb hgr
      generalize l[k] = x at *
      go_wp2_with fail
      refine wp_region_grow (by kernel_rfl) (by kernel_rfl) ?_
      repeat (go_big_quiet_step (fail))
      refine wpQuiet_nil ?_
      intro w2 hw2
      go_wp2_with fail
      go_roundg (l.length - (k + 1))
      case measure => omega
      case rel => exact ⟨k + 1, by omega, rfl, by go_num, HGR.out.step hw2⟩
    · clear hgr
      go_wp2
      go_ret
      exact ⟨rfl, HGR.out⟩

end Go.Hg

namespace Go.Hg
open Go.RowKit Go.Proofs

theorem SlR.sliced {α : Type} {S : Nat → Prop} {w : World} {sz : Nat} {R : α → List Value → Prop} {a : Option Addr} {n cap : Nat} {l : List α} (h : SlR S w sz R (.slice a n cap) l) (k : Nat) (hk : k ≤ l.length) : SlR S w sz R (sliced a k n cap sz) (l.drop k) := by
  have hh := h
  obtain ⟨a', cap', rows, hv, h1, h2, h3, h4, h5⟩ := h
  simp only [Value.slice.injEq] at hv
  obtain ⟨rfl, rfl, rfl⟩ := hv
  by_cases h0 : k = l.length
  · subst h0
    rw [List.drop_length]
    exact ⟨_, cap - l.length, [], by unfold Go.sliced; rw [Nat.sub_self]; rfl, by simp, by omega, rfl, by simp, by simp⟩
  · obtain ⟨b, off, rfl, -⟩ := h5 (by omega)
    have h6 := hh.dropS k hk
    have e : (⟨b, off, none⟩ : Addr).add (k * sz) = ⟨b, off + k * sz, none⟩ := by unfold Addr.add; split <;> simp_all
    unfold Go.sliced
    rw [if_neg (by omega)]
    show SlR S w sz R (.slice (some ((⟨b, off, none⟩ : Addr).add (k * sz))) (l.length - k) (cap - k)) (l.drop k)
    rw [e]
    exact h6
section
variable {P : Program} {ops : Array Oper} {rest : List Oper} {o : Oper} {a : Act} {Q : Exit → Act → World → Prop} {α : Type} {S : Nat → Prop} {w : World} {R : α → List Value → Prop}
theorem wpList_dropS (hgd : o.guard = none) (s lo : Operand) (t e : TypeId) (hop : o.op = Op.slice t s (some lo) none none) (ht : P.underlying t = some (.slice e)) (sz : Nat) (hsz : ∀ w, (sizeOf e).run P w = .ok sz w) (v : Value) (l : List α) (hs : a.eval s = v) (h : SlR S w sz R v l) (k : Nat) (hlo : a.eval lo = .int .i64 k) (hk : k ≤ l.length)
    (hK : ∀ v', SlR S w sz R v' (l.drop k) → wpList P ops Q rest (a.put o.dst v') w) : wpList P ops Q (o :: rest) a w := by
  obtain ⟨a', cap', rows, rfl, h1, h2, h3, h4, h5⟩ := id h
  have he : P.elem t = e := by unfold Program.elem; rw [ht]
  have ht' : P.underlying t = some (.slice (P.elem t)) := by rw [he]; exact ht
  refine wpList_plain hgd fun K' hK' => ?_
  unfold Oper.wp
  have hr : (Instr.sliceAt t (.slice a' l.length cap') (some (.int .i64 (k : Int))) none none).run P w = .ok (sliced a' k l.length cap' sz) w := by
    rw [run_sliceAt_slice _ _ _ _ _ _ ht', run_slice_l _ _ _ _ _ ht' _ _ (by omega) (by omega), he, hsz]
    rfl
  simp [execOp, hop, hs, hlo, hr, Result.andThen]
  exact hK' _ _ (hK _ (h.sliced k hk))
end
end Go.Hg

namespace Go.Hg
open Go.RowKit Go.Proofs

theorem rjobSetT {w : World} {B : Nat} {lv : Value} {J : PJob} {T : TypeId} (h : w.heap[B]? = some (.cells (rjobCells J lv) T (0, 0))) (lv2 : Value) (t2 : List Int) :
    (w.setCell ⟨B, 10, none⟩ lv2).heap[B]? = some (.cells (rjobCells { J with tch := t2 } lv2) T (0, 0)) ∧ Mod (fun b => b = B) w (w.setCell ⟨B, 10, none⟩ lv2) :=
  ⟨by rw [heap_setCell_same w B 10 _ T _ h]; rfl, (Mod.rfl' (fun b => b = B) w).setd (p := ⟨B, 10, none⟩) (.inl rfl) _⟩
theorem rjobFroz {w : World} {B : Nat} {lv : Value} {J : PJob} {T : TypeId} (h : w.heap[B]? = some (.cells (rjobCells J lv) T (0, 0))) (i : Nat) : w.frozen? ⟨B, i, none⟩ = false := by simp [World.frozen?, h]
theorem RJobOk.setTch {S S' : Nat → Prop} {w : World} {B : Nat} {J : PJob} (h : RJobOk S w B J) (lv : Value) (t : List Int) (hl : IdsR (fun b => S' b ∧ b ≠ B) w lv t) (hS : ∀ b, S b → S' b) : RJobOk S' (w.setCell ⟨B, 10, none⟩ lv) B { J with tch := t } ∧ Mod (fun b => b = B) w (w.setCell ⟨B, 10, none⟩ lv) := by
  obtain ⟨lv0, h1, h2, h3⟩ := h
  obtain ⟨a, m⟩ := rjobSetT h2 lv t
  exact ⟨⟨lv, hS _ h1, a, hl.modS m (fun b hb => hb.2)⟩, m⟩
theorem sizeI64 (w : World) : (sizeOf 2).run Tryz.prog w = .ok 1 w := Tryz.sizeOf2 w

set_option maxRecDepth 100000 in
set_option maxHeartbeats 8000000 in
theorem ref23Step (S SG : Nat → Prop) (B BG : Nat) (J : PJob) (G : PGraph) (w : World) (h : RJobOk S w B J) (hi : JobInv J) (hg : GraphOk 42 SG w BG G) (hG : GInv G) (hsep : ∀ b, SG b → ¬ S b) :
    Calls Tryz.prog 26 #[.pointer (some ⟨B, 0, none⟩), .pointer (some ⟨BG, 0, none⟩)] w fun e w' => e = .returned (.bool (endedJ (stepJ G J) G.next)) ∧ RJobOk S w' B (stepJ G J) ∧ Mod (fun b => b = B) w w' := by
  have HJ := Lib.hid h
  obtain ⟨lv, hS, hB, hl⟩ := h
  have HG := Lib.hid hg; have HGI := Lib.hid hG
  have HSEP := Lib.hid (show ∀ b, SG b → ¬ b = B from fun b hb e => hsep b hb (e ▸ hS))
  have HTL := Lib.hid (show J.tch.length ≤ 4096 from hi.2.2.2.2.2.1)
  obtain ⟨c, hcN⟩ : ∃ c : Nat, J.chunk = (c : Int) := ⟨J.chunk.toNat, by have := hi.1; omega⟩
  have hcl : 1 ≤ c ∧ c ≤ 1024 := by have := hi.1; have := hi.2.1; omega
  obtain ⟨m, hmN⟩ : ∃ m : Nat, m = min c J.tch.length := ⟨_, rfl⟩
  have hmc : m ≤ c ∧ m ≤ J.tch.length ∧ (m < c → J.tch.length = m) := by omega
  have HSA := Lib.hid (show m = c → stepJ G J = { J with tch := J.tch.drop m } from fun h => by
    unfold stepJ
    simp only [hcN, Int.toNat_natCast]
    rw [← hmN, if_neg (by omega)])
  have HSB := Lib.hid (show m < c → c - m < (idsG G J.pos).length → ∀ x, (idsG G J.pos)[c - m - 1]? = some x → stepJ G J = { J with tch := J.tch.drop m, pos := x + 1 } from fun h hx x he => by
    unfold stepJ
    simp only [hcN, Int.toNat_natCast]
    rw [← hmN, if_pos h, if_pos hx, List.getD_eq_getElem?_getD, he]
    rfl)
  have HSC := Lib.hid (show m < c → (idsG G J.pos).length ≤ c - m → stepJ G J = { J with tch := J.tch.drop m, pos := G.next } from fun h hx => by
    unfold stepJ
    simp only [hcN, Int.toNat_natCast]
    rw [← hmN, if_pos h, if_neg (by omega)])
  have HL := Lib.hid hl; have HB := Lib.hid hB
  obtain ⟨al, cl, rfl, hll, hlc, -⟩ := SlR.open hl
  unfold maxLen at hlc
  obtain ⟨-, c8, c9, c10⟩ := rjobB_of hB
  rw [hcN] at c8
  have HCN := Lib.hid hcN
  have hbl := blk_lt hB
  clear hg hG hsep hB hi hl hcN
  go_enter Tryz.func26, Tryz.ntmps26
  go_upto_region 1 with fail
  go_cut [5] (fun v wx => v = .int .i64 (m : Int) ∧ Grow w wx)
  case first =>
    by_cases hlt : J.tch.length < c
    · go_wp2_with fail
      refine wp_region_grow (by kernel_rfl) (by kernel_rfl) ?_
      repeat (go_big_quiet_step (fail))
      refine wpQuiet_nil ?_
      intro w2 hw2
      go_wp2_with fail
      go_meet
      exact ⟨by congr 1; omega, hw2⟩
    · go_wp2_with fail
      refine wp_region_grow (by kernel_rfl) (by kernel_rfl) ?_
      repeat (go_big_quiet_step (fail))
      refine wpQuiet_nil ?_
      intro w2 hw2
      go_wp2_with fail
      go_meet
      exact ⟨by congr 1; omega, hw2⟩
  case rest =>
    obtain ⟨rfl, hg1⟩ := hcut
    obtain ⟨w1, rfl⟩ : ∃ w1, w1 = wc := ⟨_, rfl⟩
    clear hmN
    have HG1 := Lib.hid hg1
    have HB1 := Lib.hid ((hg1.heapEq hbl).trans HB.out)
    have HL1 := Lib.hid (HL.out.growS hg1)
    have HJ1 := Lib.hid (HJ.out.grow hg1)
    have hbl1 : B < w1.heap.size := Nat.lt_of_lt_of_le hbl hg1.size
    obtain ⟨-, d8, d9, d10⟩ := rjobB_of HB1.out
    rw [HCN.out] at d8
    have f10 := rjobFroz HB1.out 10
    have hmI : (0 : Int) ≤ (m : Int) := by omega
    have hmI2 : (m : Int) ≤ (J.tch.length : Int) := by omega
    clear hg1 c8 c9 c10
    go_wp2_with (refine wpList_dropS (by rfl) (.tmp 21) (.tmp 22) 25 2 (by rfl) Tryz.underlying25 1 sizeI64 (.slice al J.tch.length cl) J.tch (by rfl) HL1.out m (by rfl) hmc.2.1 ?_)
    intro lv2 hl2
    have HS2 := Lib.hid (HJ1.out.setTch lv2 _ hl2 (fun _ h => h))
    generalize J.tch.drop m = T2 at *
    obtain ⟨a2, c2, rfl, hll2, hlc2, -⟩ := SlR.open hl2
    obtain ⟨w2, hw2⟩ : ∃ w2, w1.setCell ⟨B, 10, none⟩ (.slice a2 T2.length c2) = w2 := ⟨_, rfl⟩
    rw [hw2] at HS2
    have HJ2 := Lib.hid HS2.out.1
    have HMW2 := Lib.hid (show Mod (fun b => b = B) w w2 from (Mod.of_grow HG1.out).step HS2.out.2)
    have HG2 := Lib.hid (show GraphOk 42 SG w2 BG G from (HG.out.grow HG1.out).keep HS2.out.2 HSEP.out)
    obtain ⟨lw, -, hB2, -⟩ := HJ2.out
    have HB2 := Lib.hid hB2
    have HGR := Lib.hid HG2.out.read
    obtain ⟨-, e8, e9, -⟩ := rjobB_of hB2
    rw [HCN.out] at e8
    have hbl2 := blk_lt hB2
    clear hl2 d9 hB2
    by_cases hlt : m < c
    · obtain ⟨q, rfl⟩ : ∃ q : Nat, c = m + q := ⟨c - m, by omega⟩
      have hq : 0 < q ∧ q ≤ 1024 := by omega
      go_wp2_with fail
      try rw [hw2]
      clear hw2
      refine (ref23Ids SG BG G J.pos w2 HG2.out HGI.out).mono ?_
      rintro e w5 ⟨v5, rfl, hl5, g5⟩
      have HL5 := Lib.hid hl5
      obtain ⟨ai, ci, rfl, hli, hci, hAL⟩ := hl5.at1
      unfold maxLen at hci
      have HLB := Lib.hid (show ∀ x ∈ idsG G J.pos, 1 ≤ x ∧ x < G.next from fun x hx => idsG_bounds HGI.out hx)
      have HLL := Lib.hid (show (idsG G J.pos).length ≤ 1024 by have := idsG_len G J.pos; have := HGI.out.items; omega)
      have HAL := Lib.hid hAL
      have HB5 := Lib.hid ((g5.heapEq hbl2).trans HB2.out)
      have HJ5 := Lib.hid (HJ2.out.grow g5); have HG5 := Lib.hid (HG2.out.grow g5); have HMW5 := Lib.hid (HMW2.out.step (Mod.of_grow g5))
      have HNX := Lib.hid HGI.out.next1
      clear hl5 g5 hAL e8 e9
      generalize idsG G J.pos = l at *
      obtain ⟨-, e8, e9, -⟩ := rjobB_of HB5.out
      rw [HCN.out] at e8
      by_cases hlen : q < l.length
      · have hlx : l[q - 1]? = some l[q - 1] := List.getElem?_eq_getElem (by omega)
        obtain ⟨bl, ol, rfl, hSl, hbl5, hcx⟩ := HAL.out (q - 1) _ hlx
        have HX := Lib.hid (HLB.out _ (List.getElem_mem (show q - 1 < l.length by omega)))
        have HSE := Lib.hid (HSB.out (by omega) (by omega) l[q - 1] (by rw [show m + q - m - 1 = q - 1 by omega]; exact hlx))
        generalize l[q - 1] = x at *
        have hx1 : 1 ≤ x ∧ x + 1 ≤ 4611686018427387904 := by have := HX.out; have := HNX.out; omega
        have f9 := rjobFroz HB5.out 9
        have hq1 : (0 : Int) < (q : Int) := by omega
        have hq2 : (q : Int) < (l.length : Int) := by omega
        clear hlx
        obtain ⟨w6, hw6⟩ : ∃ w6, w5.setCell ⟨B, 9, none⟩ (.int .i64 (x + 1)) = w6 := ⟨_, rfl⟩
        have HS6 := Lib.hid (HJ5.out.setPos (x + 1))
        rw [hw6] at HS6
        go_wp2_with fail
        try rw [hw6]
        clear hw6
        have HJ6 := Lib.hid (show RJobOk S w6 B (stepJ G J) by rw [HSE.out]; exact HS6.out.1)
        have HG6 := Lib.hid (HG5.out.keep HS6.out.2 HSEP.out)
        have HM6 := Lib.hid (HMW5.out.step HS6.out.2)
        refine (ref23Ended S SG B BG (stepJ G J) G w6 HJ6.out HG6.out).mono ?_
        rintro e w7 ⟨rfl, g7⟩
        have HJ7 := Lib.hid (HJ6.out.grow g7); have HM7 := Lib.hid (HM6.out.step (Mod.of_grow g7))
        clear g7
        go_wp2
        go_ret
        exact ⟨rfl, HJ7.out, HM7.out⟩
      · obtain ⟨_, _, _, _, -, -, -, k2, -, -⟩ := HG5.out.read
        have HSE := Lib.hid (HSC.out (by omega) (by omega))
        have f9 := rjobFroz HB5.out 9
        have hq1 : (0 : Int) < (q : Int) := by omega
        have hq2 : (l.length : Int) ≤ (q : Int) := by omega
        obtain ⟨w6, hw6⟩ : ∃ w6, w5.setCell ⟨B, 9, none⟩ (.int .i64 (G.next)) = w6 := ⟨_, rfl⟩
        have HS6 := Lib.hid (HJ5.out.setPos (G.next))
        rw [hw6] at HS6
        go_wp2_with fail
        try rw [hw6]
        clear hw6
        have HJ6 := Lib.hid (show RJobOk S w6 B (stepJ G J) by rw [HSE.out]; exact HS6.out.1)
        have HG6 := Lib.hid (HG5.out.keep HS6.out.2 HSEP.out)
        have HM6 := Lib.hid (HMW5.out.step HS6.out.2)
        refine (ref23Ended S SG B BG (stepJ G J) G w6 HJ6.out HG6.out).mono ?_
        rintro e w7 ⟨rfl, g7⟩
        have HJ7 := Lib.hid (HJ6.out.grow g7); have HM7 := Lib.hid (HM6.out.step (Mod.of_grow g7))
        clear g7
        go_wp2
        go_ret
        exact ⟨rfl, HJ7.out, HM7.out⟩
    · obtain rfl : m = c := by omega
      have HSE := Lib.hid (HSA.out rfl)
      have HJ6 := Lib.hid (show RJobOk S w2 B (stepJ G J) by rw [HSE.out]; exact HJ2.out)
      go_wp2_with fail
      try rw [hw2]
      clear hw2
      refine (ref23Ended S SG B BG (stepJ G J) G w2 HJ6.out HG2.out).mono ?_
      rintro e w7 ⟨rfl, g7⟩
      have HJ7 := Lib.hid (HJ6.out.grow g7); have HM7 := Lib.hid (HMW2.out.step (Mod.of_grow g7))
      clear g7
      go_wp2
      go_ret
      exact ⟨rfl, HJ7.out, HM7.out⟩
end Go.Hg

namespace Go.Hg
open Go.RowKit Go.Proofs

section
variable {P : Program} {ops : Array Oper} {Q : Exit → Act → World → Prop} {md : Region.Mode} {S : World → Prop}

def waitsOn (md : Region.Mode) (ops : Array Oper) (z i : Nat) : Bool := (ops[z]?).any fun o => o.after.any fun e => Region.binds md e && e.on == i
theorem ready_off {i : Nat} {done : Array Bool} (h : i ∈ Region.ready md ops done) {j : Nat} {oj : Oper} (hj : ops[j]? = some oj) (hr : j ∈ Region.ready md ops done) : ∀ e ∈ oj.after, Region.binds md e = true → e.on ≠ i := by
  obtain ⟨-, o2, ho2, hall⟩ := mem_ready.1 hr
  obtain rfl : oj = o2 := Option.some.inj (hj.symm.trans ho2)
  rintro e he hb rfl
  have h1 := hall e he hb
  have h0 := (mem_ready.1 h).1
  rcases Nat.lt_or_ge e.on done.size with h' | h'
  · simp [h'] at h0 h1; rw [h0] at h1; cases h1
  · simp [Array.getElem?_eq_none h'] at h1
theorem not_last {z i : Nat} (hz : waitsOn md ops z i = true) {done : Array Bool} (h : i ∈ Region.ready md ops done) : z ∉ Region.ready md ops done := by
  intro hr
  unfold waitsOn at hz
  cases ho : ops[z]? with
  | none => rw [ho] at hz; cases hz
  | some o =>
    rw [ho] at hz
    obtain ⟨e, he, h2⟩ := Array.any_eq_true'.1 hz
    rw [Bool.and_eq_true] at h2
    exact ready_off h ho hr e he h2.1 (by simpa using h2.2)
theorem wpAnyZ_front {z i : Nat} {oi : Oper} {v : Value} (hz : waitsOn md ops z i = true) (hi : ops[i]? = some oi) (hsel : ∀ (j : Nat) (o : Oper) cs b, ops[j]? = some o → o.op ≠ .select cs b)
    (hQ : ∀ c a w, Q (.panic c) (a.put oi.dst v) w → Q (.panic c) a w) (n : Nat) : ∀ (done : Array Bool) (a : Act) (w : World),
      (∀ j oj, ops[j]? = some oj → j ≠ i → done.getD j true = false → (∀ e ∈ oj.after, Region.binds md e = true → e.on ≠ i) → oi.apart ops oj = true) →
      i ∈ Region.ready md ops done → YieldsIf P ops S oi v a → S w → wpAnyZ P md ops Q S z n (done.setIfInBounds i true) (a.put oi.dst v) w → wpAnyZ P md ops Q S z (n + 1) done a w := by
  induction n with
  | zero =>
    intro done a w _ hr hy hS H
    refine ⟨fun h => absurd (h ▸ hr) (by simp), fun j hj => ?_⟩
    by_cases hji : j = i
    · subst hji; exact hy.wpOp hi hS ⟨fun _ => hS, H⟩
    · exact absurd (H.1 ▸ ready_mono hj hji) (by simp)
  | succ n ih =>
    intro done a w hfree hr hy hS H
    refine ⟨fun h => absurd (h ▸ hr) (by simp), fun j hj => ?_⟩
    by_cases hji : j = i
    · subst hji; exact hy.wpOp hi hS ⟨fun _ => hS, H⟩
    · have hjz : j ≠ z := fun e => not_last hz hr (e ▸ hj)
      obtain ⟨hun, oj, hoj, -⟩ := mem_ready.1 hj
      have h2 := wpOp_putIf hoj (hfree j oj hoj hji hun (ready_off hr hoj hj)) (fun cs b => hsel i oi cs b hi) (fun cs b => hsel j oj cs b hoj) hQ hy (H.2 j (ready_mono hj hji))
      refine wpOp_mono (fun a' w' h3 => ⟨h3.2.1, ih (done.setIfInBounds j true) a' w' (fun k ok hk hki hu hno => hfree k ok hk hki ?_ hno) (ready_mono hr (Ne.symm hji)) h3.1 (h3.2.1 hjz) ?_⟩) h2
      · by_cases hjk : j = k
        · subst hjk; exact hun
        · rwa [getD_set_ne true hjk] at hu
      · rw [Array.setIfInBounds_comm _ _ hji]
        exact h3.2.2
theorem wpAnyZ_take {z i : Nat} {oi : Oper} {v : Value} {n : Nat} {done : Array Bool} {a : Act} {w : World} (hz : waitsOn md ops z i = true) (hi : ops[i]? = some oi)
    (hs : Region.noSelect ops = true) (hf : Region.free md ops done i = true) (hr : (Region.ready md ops done).contains i = true)
    (hQ : ∀ c a w, Q (.panic c) (a.put oi.dst v) w → Q (.panic c) a w) (hy : YieldsIf P ops S oi v a) (hS : S w)
    (h : wpAnyZ P md ops Q S z n (done.setIfInBounds i true) (a.put oi.dst v) w) : wpAnyZ P md ops Q S z (n + 1) done a w :=
  wpAnyZ_front hz hi (Region.noSelect_spec hs) hQ n done a w (Region.free_spec hi hf) (by simpa using hr) hy hS h
theorem AllZ.last {z n : Nat} {done : Array Bool} {a : Act} {w : World} {o : Oper} (ho : ops[z]? = some o)
    (h : ∀ K' : Act → World → Prop, Shut (∀ a w, wpAnyZ P md ops Q S z n (done.setIfInBounds z true) a w → K' a w) → if Region.wanted o (yielded ops a.tmps) = true then Oper.wp P o a w K' Q else K' (a.put o.dst undef) w) :
    AllZ P md ops Q S z n done a w [z] := fun j hj => by
  obtain rfl : j = z := by simpa using hj
  exact wpOp_step ho (fun K' hK => h K' (fun a w hW => hK a w ⟨fun e => absurd rfl e, hW⟩))
theorem wpAnyZ_ready {rs : List Nat} {z n : Nat} {done : Array Bool} {a : Act} {w : World} (hr : Region.ready md ops done = rs) (hne : rs ≠ []) (h : AllZ P md ops Q S z n done a w rs) : wpAnyZ P md ops Q S z (n + 1) done a w :=
  ⟨fun h0 => absurd (hr ▸ h0) hne, hr ▸ h⟩
theorem wpAnyZ_done {z : Nat} {done : Array Bool} {a : Act} {w : World} (hr : Region.ready md ops done = []) (h : Q .normal a w) : ∀ n, wpAnyZ P md ops Q S z n done a w
  | 0 => ⟨hr, h⟩
  | _ + 1 => ⟨fun _ => h, by rw [hr]; simp⟩
theorem wp_region_Z {id z : Nat} {a : Act} {w : World} (hm : P.follows .mixedOrders = true) (hS : S w.drew)
    (h : S w.drew → wpAnyZ P .any ops Q S z ops.size (Array.replicate ops.size false) a w.drew) : (Code.region id ops true).wp P Q a w :=
  wp_region_any hm (h hS).any
theorem exec_takeS {o : Oper} {a : Act} {w : World} (s hi : Operand) (t e : TypeId) (hop : o.op = Op.slice t s none (some hi) none) (ht : P.underlying t = some (.slice e)) (sz : Nat) (hsz : ∀ w, (sizeOf e).run P w = .ok sz w)
    (av : Option Addr) (n cap k : Nat) (hs : a.eval s = .slice av n cap) (hhi : a.eval hi = .int .i64 k) (hk : k ≤ cap) : (execOp a.eval o).run P w = .ok (.value (.slice av k cap)) w := by
  have he : P.elem t = e := by unfold Program.elem; rw [ht]
  have ht' : P.underlying t = some (.slice (P.elem t)) := by rw [he]; exact ht
  have hr : (Instr.sliceAt t (.slice av n cap) none (some (.int .i64 (k : Int))) none).run P w = .ok (.slice av k cap) w := by
    rw [run_sliceAt_slice _ _ _ _ _ _ ht', run_slice_h _ _ _ _ _ ht' _ _ (by omega) (by omega), he, hsz]
    have e : Go.sliced av 0 (k : Int).toNat cap sz = .slice av k cap := by
      unfold Go.sliced
      by_cases hc : cap = 0
      · rw [if_pos hc]; simp
      · rw [if_neg hc]
        cases av with
        | none => simp
        | some x => cases x; simp [Addr.add]
    simp only [Result.andThen, e]
  simp [execOp, hop, hs, hhi, hr, Result.andThen]
theorem exec_dropS {o : Oper} {a : Act} {w : World} (s lo : Operand) (t e : TypeId) (hop : o.op = Op.slice t s (some lo) none none) (ht : P.underlying t = some (.slice e)) (sz : Nat) (hsz : ∀ w, (sizeOf e).run P w = .ok sz w)
    (av : Option Addr) (n cap k : Nat) (hs : a.eval s = .slice av n cap) (hlo : a.eval lo = .int .i64 k) (hk : k ≤ n) : (execOp a.eval o).run P w = .ok (.value (sliced av k n cap sz)) w := by
  have he : P.elem t = e := by unfold Program.elem; rw [ht]
  have ht' : P.underlying t = some (.slice (P.elem t)) := by rw [he]; exact ht
  have hr : (Instr.sliceAt t (.slice av n cap) (some (.int .i64 (k : Int))) none none).run P w = .ok (sliced av k n cap sz) w := by
    rw [run_sliceAt_slice _ _ _ _ _ _ ht', run_slice_l _ _ _ _ _ ht' _ _ (by omega) (by omega), he, hsz]
    rfl
  simp [execOp, hop, hs, hlo, hr, Result.andThen]
end
end Go.Hg
