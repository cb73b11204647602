/- (*build.Job).Touch; hedgerowref23.New, At, Left: the reference's job; (*build.Job).At, Left, ended, Rule; (*build.Job).ended; (*hedgerowref23.Job).Ended; The ids of a graph from one on, rising; a job's step: plain words; The reference's ids merged, a job's step keeps its words: plain words; graph.acts: a kind's two functions; graph.May, Do. Conditions: those that each theorem names. -/
import Derived.WalkKit
import Derived.WalkSpells
import Derived.WalkLawsBesides
import Derived.Lib.Hide
import Derived.BigQuiet
import Derived.Deep.LoopGhost
import Derived.Test.YtfachjfohhhgeaaGreatDoorRows
import Derived.Lib.SliceRun
import Derived.WideMake
import Derived.Deep.RegionLaw
import Derived.Lib.Overlaps
import Derived.Deep.RegionHeld3
import Derived.Laws.ResultCell
import Derived.Maps.OwnOps
import Derived.Maps.OwnSet
import Derived.Carry
import Derived.Lib.SlKeysI
import Derived.Conc.LoneCalls
import Derived.Conc.SmallLaws
import Derived.Deep.CutBlock
import Derived.Deep.DeepCutAuto
import Derived.Laws.EntriesVeiled
import Derived.Test.YtfachjfohhhgeaaGreatDoorBpF
namespace Go.Hg
open Go.RowKit Go.Proofs

def touchJ (J : PJob) (x : Int) : PJob := if J.pos ≤ x ∨ x ∈ J.tch then J else if J.tch.length = 4096 then { J with pos := 1, tch := [] } else { J with tch := putL J.tch x }
theorem putL_len1 {l : List Int} {x : Int} (h : x ∉ l) : (putL l x).length = l.length + 1 := by
  unfold putL
  rw [if_neg h]
  simp only [List.length_append, List.length_take, List.length_cons, List.length_drop]
  omega
theorem tchF_put (l : List Int) (x : Int) : tchF (putL l x) = fput (tchF l) x (.int .i64 1) := by
  funext k
  unfold tchF fput
  by_cases h : k = x
  · subst h; simp [mem_putL]
  · simp [mem_putL, h]
theorem touchJ_inv {J : PJob} (h : JobInv J) {x : Int} (hx : (Lit.int .i64 x).wf = true) : JobInv (touchJ J x) := by
  unfold touchJ
  split
  · exact h
  · split
    · obtain ⟨h1, h2, -⟩ := h
      exact ⟨h1, h2, by show (1 : Int) ≤ 1; omega, by show (1 : Int) ≤ 4611686018427387904; omega, List.Pairwise.nil, by simp, by simp⟩
    · rename_i hn hl
      obtain ⟨h1, h2, h3, h4, h5, h6, h7⟩ := h
      refine ⟨h1, h2, h3, h4, putL_rises h5 x, ?_, fun y hy => ?_⟩
      · show (putL J.tch x).length ≤ 4096
        rw [putL_len1 (fun h => hn (.inr h))]; omega
      · rcases (mem_putL _ _ _).1 hy with hy | rfl
        · exact h7 y hy
        · exact hx
theorem touchJ_r (J : PJob) (x : Int) : (touchJ J x).r = J.r ∧ (touchJ J x).chunk = J.chunk := by
  unfold touchJ
  split
  · exact ⟨rfl, rfl⟩
  · split <;> exact ⟨rfl, rfl⟩
def touchL (J : PJob) (l : List Int) : PJob := l.foldl touchJ J
theorem touchL_snoc (J : PJob) (l : List Int) (x : Int) : touchL J (l ++ [x]) = touchJ (touchL J l) x := by simp [touchL]
theorem touchL_inv {J : PJob} (h : JobInv J) : ∀ {l : List Int}, (∀ x ∈ l, (Lit.int .i64 x).wf = true) → JobInv (touchL J l) := by
  intro l
  induction l generalizing J with
  | nil => intro _; exact h
  | cons a t ih => intro hl; exact ih (touchJ_inv h (hl a (.head _))) (fun x hx => hl x (.tail _ hx))

theorem wpList_lenIz {P : Program} {ops : Array Oper} {rest : List Oper} {o : Oper} {a : Act} {Q : Exit → Act → World → Prop} (w : World) (hg : o.guard = none) (m : Operand) (t : TypeId) (hop : o.op = Op.call { callee := Callee.builtin Builtin.len, args := #[m], argTypes := #[t] }) (kt et : TypeId) (ht : P.underlying t = some (.map kt et))
    (b n : Nat) (f : Int → Option Value) (hm : a.eval m = .map (some b)) (h : MapI w b f n) (L : List Int) (hn : L.Nodup) (hL : ∀ k, (f k).isSome = true ↔ k ∈ L) (z : Int) (hz : (L.length : Int) = z)
    (hK : wpList P ops Q rest (a.put o.dst (.int .i64 z)) w) : wpList P ops Q (o :: rest) a w :=
  wpList_lenI w hg m t hop kt et ht b n f hm h L hn hL (by rw [hz]; exact hK)
set_option maxRecDepth 100000 in
set_option maxHeartbeats 4000000 in
theorem jobTouch (S SI : Nat → Prop) (B : Nat) (J : PJob) (v : Value) (l : List Int) (w : World) (h : JobOk S w B J) (hi : JobInv J) (hl : IdsR SI w v l) (hsep : ∀ b, SI b → ¬ S b) (h64 : ∀ x ∈ l, (Lit.int .i64 x).wf = true) :
    Calls Tryz.prog 15 #[.pointer (some ⟨B, 0, none⟩), v] w fun e w' => e = .returned (.tuple #[]) ∧ JobOk S w' B (touchL J l) ∧ Mod S w w' := by
  obtain ⟨aa, ca, rfl, hal, hac, hA⟩ := SlR.open hl
  unfold maxLen at hac
  have HL := Lib.hid hl; have HJ := Lib.hid h; have HI := Lib.hid hi; have H64 := Lib.hid h64; have HSEP := Lib.hid hsep
  clear hl hA h hi h64 hsep
  go_enter Tryz.func15, Tryz.ntmps15
  go_wp2
  go_loopg [10] l.length (fun g iv wr => ∃ k : Nat, k ≤ l.length ∧ g = l.length - k ∧ iv = .int .i64 k ∧ JobOk S wr B (touchL J (l.take k)) ∧ Mod S w wr)
  case atStart => exact ⟨0, by omega, by omega, rfl, HJ.out, Mod.rfl' _ _⟩
  case round =>
    obtain ⟨k, hk, rfl, rfl, hj, hgr⟩ := hrel
    by_cases hkl : k < l.length
    · obtain ⟨_, _, he, -, -, hA'⟩ := SlR.open (HL.out.modS hgr HSEP.out)
      cases he
      obtain ⟨ba, oa, ra, rfl, hSa, hba, hRa, hca⟩ := hA' k l[k] (List.getElem?_eq_getElem hkl)
      have hca0 := hca 0 (.int .i64 l[k]) (by rw [show ra = [.int .i64 l[k]] from hRa]; rfl)
      rw [Nat.mul_one, Nat.add_zero] at hca0
      have HX := Lib.hid (show (Lit.int .i64 l[k]).wf = true from H64.out _ (List.getElem_mem hkl))
      have HTL := Lib.hid (show touchL J (l.take (k + 1)) = touchJ (touchL J (l.take k)) l[k] by rw [List.take_succ_eq_append_getElem hkl, touchL_snoc])
      have HIN := Lib.hid (touchL_inv HI.out (fun x hx => H64.out x (List.mem_of_mem_take hx)) : JobInv (touchL J (l.take k)))
      have HGR := Lib.hid hgr
      clear hca hRa hSa hba hgr hA'
      generalize l[k] = x at *
      generalize touchL J (l.take k) = Jk at *
      obtain ⟨cb, mb, s, r, tm, hS1, hS2, hS3, hn1, hn2, hn3, hB, hcb, hm⟩ := hj
      obtain ⟨-, -, c9, c10, c11⟩ := jobB_of hB
      have HB := Lib.hid hB; have HCB := Lib.hid hcb; have HM := Lib.hid hm
      have HJOK := Lib.hid (show JobOk S wr B Jk from ⟨cb, mb, s, r, tm, hS1, hS2, hS3, hn1, hn2, hn3, hB, hcb, hm⟩)
      clear hB hcb hm
      by_cases hp : Jk.pos ≤ x
      · have HTJ := Lib.hid (show touchJ Jk x = Jk by unfold touchJ; rw [if_pos (.inl hp)])
        go_wp2
        go_roundg (l.length - (k + 1))
        case measure => omega
        case rel => exact ⟨k + 1, by omega, rfl, by go_num, by rw [HTL.out, HTJ.out]; exact HJOK.out, HGR.out⟩
      · by_cases hx : x ∈ Jk.tch
        · have HTJ := Lib.hid (show touchJ Jk x = Jk by unfold touchJ; rw [if_pos (.inr hx)])
          have hlk : (Instr.lookup 86 (.map (some mb)) (.int .i64 x) false).run Tryz.prog wr = .ok (.int .i64 1) wr := by
            have := HM.out.look Tryz.underlying86 Tryz.underlying2 (zeroIntB wr) x
            rw [this]; simp [tchF, hx]
          go_wp2
          go_roundg (l.length - (k + 1))
          case measure => omega
          case rel => exact ⟨k + 1, by omega, rfl, by go_num, by rw [HTL.out, HTJ.out]; exact HJOK.out, HGR.out⟩
        · have HNE := Lib.hid (show ¬(Jk.pos ≤ x ∨ x ∈ Jk.tch) from fun h => h.elim hp hx)
          have hlk : (Instr.lookup 86 (.map (some mb)) (.int .i64 x) false).run Tryz.prog wr = .ok (.int .i64 0) wr := by
            have := HM.out.look Tryz.underlying86 Tryz.underlying2 (zeroIntB wr) x
            rw [this]; simp [tchF, hx]
          go_upto_region 5 with fail
          refine arr_region (show Arr _ _ _ [0, 1, 2, 3, 4, 5] _ _ from ?_)
          refine arr_value (w' := wr) (v := .pointer (some ⟨B, 0, none⟩)) (i := 0) rfl (by kernel_rfl) (by simp [go_sem, execOp, Act.eval, Act.put]) ?_
          refine arr_value (w' := wr) (v := .pointer (some ⟨B, 0, none⟩)) (i := 1) rfl (by kernel_rfl) (by simp [go_sem, execOp, Act.eval, Act.put]) ?_
          refine arr_value (w' := wr) (v := .pointer (some ⟨B, 10, none⟩)) (i := 2) rfl (by kernel_rfl) (by simp [go_sem, execOp, Act.eval, Act.put]) ?_
          refine arr_value (w' := wr) (v := .chan (some cb)) (i := 3) rfl (by kernel_rfl) (by simp [go_sem, execOp, Act.eval, Act.put, c10]) ?_
          refine arr_value (w' := wr) (v := .int .i64 x) (i := 4) rfl (by kernel_rfl) (by simp [go_sem, execOp, Act.eval, Act.put]) ?_
          refine arr_send (i := 5) (c := cb) (v := .int .i64 x) (z := .tuple #[]) (cap := 4097) (buf := #[]) (s := s) (r := r) (tm := tm) rfl (by kernel_rfl) (by simp [go_sem, execOp, Go.Conc.scase, Act.eval, Act.put]) HCB.out (by simp) ?_
          refine arr_nil ?_
          simp [Act.put, Exit.then]
          obtain ⟨w2, hw2⟩ : ∃ w2, w2 = wr.setChan cb 4097 #[.int .i64 x] false (s + 1) r tm := ⟨_, rfl⟩
          have hmod2 : Mod (fun b => b = cb) wr w2 := by subst hw2; exact ⟨rfl, rfl, rfl, by simp [World.setChan], fun k hk hne => by simp only [World.setChan]; rw [Array.getElem?_setIfInBounds_ne (fun e => hne e.symm)]⟩
          have hch2 : w2.heap[cb]? = some (.chan 4097 #[.int .i64 x] false (s + 1) r tm) := by subst hw2; simp only [World.setChan]; rw [Array.getElem?_setIfInBounds_self, if_pos (Array.getElem?_eq_some_iff.1 HCB.out).1]
          have hm2 := HM.out.mod hmod2 (fun e => hn3 e.symm)
          have hB2 := (hmod2.block B (blk_lt HB.out) hn1).trans HB.out
          rw [← hw2]
          have HM2 := Lib.hid hm2; have HMOD2 := Lib.hid hmod2; have HCH2 := Lib.hid hch2; have HB2 := Lib.hid hB2
          clear hm2 hmod2 hch2 hB2 hw2 hlk c9 c10 c11 hca0
          go_wp2_with fail
          refine (jobTakes Jk B cb mb (s + 1) r tm x 4096 (tchF Jk.tch) w2 HB2.out HCH2.out HM2.out (by simp [tchF, hx]) hn1 hn2 hn3).mono ?_
          rintro e w3 ⟨rfl, hmod3, hch3, hm3⟩
          have hB3 := (hmod3.block B (blk_lt HB2.out) (by omega)).trans HB2.out
          rw [← tchF_put] at hm3
          have HM3 := Lib.hid hm3; have HCH3 := Lib.hid hch3; have HB3 := Lib.hid hB3
          have HMOD3 := Lib.hid (show Mod S w w3 from HGR.out.step ((HMOD2.out.mono (fun b hb => hb ▸ hS2)).step (hmod3.mono (fun b hb => by rcases hb with rfl | rfl <;> assumption))))
          have HND := Lib.hid (show (putL Jk.tch x).Nodup from (putL_rises HIN.out.2.2.2.2.1 x).imp (fun {a b} hab => by omega))
          have HLN := Lib.hid (putL_len1 hx)
          obtain ⟨-, -, c9, c10, c11⟩ := jobB_of hB3
          clear hmod3 hch3 hm3 hB3
          by_cases hfull : Jk.tch.length = 4096
          · have HTJ := Lib.hid (show touchJ Jk x = { Jk with pos := 1, tch := [] } by unfold touchJ; rw [if_neg HNE.out, if_pos hfull])
            have HZ := Lib.hid (show ((putL Jk.tch x).length : Int) = 4097 by rw [HLN.out, hfull]; rfl)
            obtain ⟨w4, hcl, hm4, hmod4, hs4⟩ := HM3.out.clear Tryz.underlying86 0
            have hB4 := (hmod4.block B (blk_lt HB3.out) hn2).trans HB3.out
            have f9 := jobFroz hB4 9
            obtain ⟨-, -, d9, -, -⟩ := jobB_of hB4
            have HSET := Lib.hid (jobSetPos hB4 1)
            have HM4 := Lib.hid hm4; have HMOD4 := Lib.hid hmod4; have HCH4 := Lib.hid ((hmod4.block cb (blk_lt HCH3.out) hn3).trans HCH3.out)
            clear hfull hm4 hmod4 hs4 hB4
            go_wp2_with (first | (at_len; go_must (refine wpList_lenIz _ rfl (.tmp 39) 86 rfl 2 3 Tryz.underlying86 _ _ _ rfl HM3.out (putL Jk.tch x) HND.out (tchF_some _) 4097 HZ.out ?_)))
            go_roundg (l.length - (k + 1))
            case measure => omega
            case rel => exact ⟨k + 1, by omega, rfl, by go_num, by rw [HTL.out, HTJ.out]; exact ⟨cb, mb, _, _, _, hS1, hS2, hS3, hn1, hn2, hn3, HSET.out.1, (HSET.out.2.block cb (blk_lt HCH4.out) (fun e => hn1 e.symm)).trans HCH4.out, by show MapI _ _ (tchF []) _; rw [tchF_nil]; exact (HM4.out.mod HSET.out.2 (fun e => hn2 e.symm)).mono (by omega)⟩, (HMOD3.out.step (HMOD4.out.mono (fun b hb => hb ▸ hS3))).step (HSET.out.2.mono (fun b hb => hb ▸ hS1))⟩
          · have HTJ := Lib.hid (show touchJ Jk x = { Jk with tch := putL Jk.tch x } by unfold touchJ; rw [if_neg HNE.out, if_neg hfull])
            have hle := HIN.out.2.2.2.2.2.1
            obtain ⟨z, hz⟩ : ∃ z : Int, ((putL Jk.tch x).length : Int) = z := ⟨_, rfl⟩
            have hz2 : z ≤ 4096 := by rw [← hz, HLN.out]; omega
            have HZ := Lib.hid hz
            clear hfull hz hle
            go_wp2_with (first | (at_len; go_must (refine wpList_lenIz _ rfl (.tmp 39) 86 rfl 2 3 Tryz.underlying86 _ _ _ rfl HM3.out (putL Jk.tch x) HND.out (tchF_some _) z HZ.out ?_)))
            go_roundg (l.length - (k + 1))
            case measure => omega
            case rel => exact ⟨k + 1, by omega, rfl, by go_num, by rw [HTL.out, HTJ.out]; exact ⟨cb, mb, _, _, _, hS1, hS2, hS3, hn1, hn2, hn3, HB3.out, HCH3.out, (HM3.out.fits HND.out (tchF_some _)).mono (by rw [← HZ.out] at hz2; omega)⟩, HMOD3.out⟩
    · obtain rfl : k = l.length := by omega
      rw [List.take_length] at hj
      have HJK := Lib.hid hj; have HGR := Lib.hid hgr
      clear hj hgr
      go_wp2
      go_end0
      exact ⟨rfl, HJK.out, HGR.out⟩
end Go.Hg

namespace Go.Hg
open Go.RowKit Go.Proofs

abbrev rjobCells (J : PJob) (lv : Value) : Array Value := #[.int .i64 J.r.id, .int .i64 J.r.kind, .string J.r.typ, .string J.r.name, .string J.r.from_, .string J.r.to_, .int .i64 J.r.n, .int .i64 J.r.state, .int .i64 J.chunk, .int .i64 J.pos, lv]
def RJobOk (S : Nat → Prop) (w : World) (B : Nat) (J : PJob) : Prop :=
  ∃ lv, S B ∧ w.heap[B]? = some (.cells (rjobCells J lv) 108 (0, 0)) ∧ IdsR (fun b => S b ∧ b ≠ B) w lv J.tch
theorem RJobOk.grow {S : Nat → Prop} {w w' : World} {B : Nat} {J : PJob} (h : RJobOk S w B J) (g : Grow w w') : RJobOk S w' B J := by
  obtain ⟨lv, h1, h2, h3⟩ := h
  exact ⟨lv, h1, (g.heapEq (blk_lt h2)).trans h2, h3.growS g⟩
theorem RJobOk.keep {S F : Nat → Prop} {w w' : World} {B : Nat} {J : PJob} (h : RJobOk S w B J) (g : Mod F w w') (hd : ∀ b, S b → ¬ F b) : RJobOk S w' B J := by
  obtain ⟨lv, h1, h2, h3⟩ := h
  exact ⟨lv, h1, (g.block B (blk_lt h2) (hd B h1)).trans h2, h3.modS g (fun b hb => hd b hb.1)⟩
def RNewPost (w : World) (r : PRule) (chunk : Int) (e : Ending) (w' : World) : Prop :=
  Grow w w' ∧ ((newE r chunk ≠ 0 ∧ e = .returned (.tuple #[.pointer none, .int .i64 (newE r chunk)])) ∨ (newE r chunk = 0 ∧ ∃ B, e = .returned (.tuple #[.pointer (some ⟨B, 0, none⟩), .int .i64 0]) ∧ RJobOk (fun b => w.heap.size ≤ b) w' B ⟨r, chunk, 1, []⟩))

set_option maxRecDepth 100000 in
set_option maxHeartbeats 2000000 in
theorem ref23New (r : PRule) (chunk : Int) (w : World) : Calls Tryz.prog 25 #[r.args, .int .i64 chunk] w (RNewPost w r chunk) := by
  have HW := Lib.hid (show ∀ o1, Grow w (w.alloc o1) from fun o1 => (Grow.rfl' w).allocd o1)
  have HC := Lib.hid (show ∀ w', Grow (w.alloc (.cells #[.int .i64 r.id, .int .i64 r.kind, .string r.typ, .string r.name, .string r.from_, .string r.to_, .int .i64 r.n, .int .i64 r.state] 23)) w' → w'.heap[w.heap.size]? = some (.cells #[.int .i64 r.id, .int .i64 r.kind, .string r.typ, .string r.name, .string r.from_, .string r.to_, .int .i64 r.n, .int .i64 r.state] 23) from fun w' g => by rw [g.heapEq (by simp)]; exact heap_alloc_new w _)
  go_enter Tryz.func25, Tryz.ntmps25
  go_wp2_with fail
  refine (refForm r _).mono ?_
  rintro e w1 ⟨rfl, g1⟩
  have HG01 := Lib.hid ((HW.out _).step g1)
  have HC1 := Lib.hid (HC.out w1 g1)
  obtain ⟨fr, hfr⟩ : ∃ fr, formR r = fr := ⟨_, rfl⟩
  rw [hfr]
  have HF := Lib.hid hfr
  clear g1 hfr
  cases fr
  · go_wp2
    go_ret2
    exact ⟨HG01.out, .inl (by have hE : newE r chunk = 11 := (by unfold newE; rw [HF.out]; rfl); rw [hE]; exact ⟨by decide, rfl⟩)⟩
  · by_cases h1 : chunk < 1
    · have HE := Lib.hid (show newE r chunk = 1 by unfold newE; rw [HF.out]; simp [h1])
      go_wp2
      go_ret2
      exact ⟨HG01.out, .inl (by rw [HE.out]; exact ⟨by decide, rfl⟩)⟩
    · by_cases h2 : 1024 < chunk
      · have HE := Lib.hid (show newE r chunk = 1 by unfold newE; rw [HF.out]; simp [h2])
        go_wp2
        go_ret2
        exact ⟨HG01.out, .inl (by rw [HE.out]; exact ⟨by decide, rfl⟩)⟩
      · have HE := Lib.hid (show newE r chunk = 0 by unfold newE; rw [HF.out]; simp; omega)
        have hbl := blk_lt HC1.out
        obtain ⟨c0, c1, c2, c3, c4, c5, c6, c7⟩ := ruleB_of (rest := []) HC1.out
        go_wp2
        go_ret2
        exact ⟨HG01.out.step ((Grow.rfl' _).allocd _), .inr ⟨HE.out, _, rfl, .slice none 0 0, HG01.out.size, heap_alloc_new w1 _, (OwnL.nil _ 2 1 _).toSl (by simp)⟩⟩

theorem rjobB_of {w : World} {B : Nat} {lv : Value} {J : PJob} {T : TypeId} (h : w.heap[B]? = some (.cells (rjobCells J lv) T (0, 0))) :
    RuleB w B J.r ∧ w.cell? ⟨B, 8, none⟩ = some (.int .i64 J.chunk) ∧ w.cell? ⟨B, 9, none⟩ = some (.int .i64 J.pos) ∧ w.cell? ⟨B, 10, none⟩ = some lv :=
  ⟨ruleB_of (rest := [.int .i64 J.chunk, .int .i64 J.pos, lv]) h, by simp [World.cell?, h], by simp [World.cell?, h], by simp [World.cell?, h]⟩
set_option maxRecDepth 100000 in
set_option maxHeartbeats 2000000 in
theorem ref23At (S : Nat → Prop) (B : Nat) (J : PJob) (w : World) (h : RJobOk S w B J) : Calls Tryz.prog 31 #[.pointer (some ⟨B, 0, none⟩)] w fun e w' => e = .returned (.int .i64 J.pos) ∧ w' = w := by
  obtain ⟨lv, hS1, hB, hl⟩ := h
  obtain ⟨-, -, c9, -⟩ := rjobB_of hB
  clear hB hl
  go_enter Tryz.func31, Tryz.ntmps31
  go_wp2
  go_ret
  exact ⟨rfl, rfl⟩
set_option maxRecDepth 100000 in
set_option maxHeartbeats 2000000 in
theorem ref23Left (S : Nat → Prop) (B : Nat) (J : PJob) (w : World) (h : RJobOk S w B J) : Calls Tryz.prog 32 #[.pointer (some ⟨B, 0, none⟩)] w fun e w' => e = .returned (.int .i64 J.tch.length) ∧ w' = w := by
  obtain ⟨lv, hS1, hB, hl⟩ := h
  obtain ⟨_, _, rfl, -, -, -⟩ := SlR.open hl
  obtain ⟨-, -, -, c10⟩ := rjobB_of hB
  clear hB hl
  go_enter Tryz.func32, Tryz.ntmps32
  go_wp2
  go_ret
  exact ⟨rfl, rfl⟩
end Go.Hg

namespace Go.Hg
open Go.RowKit Go.Proofs

set_option maxRecDepth 100000 in
set_option maxHeartbeats 2000000 in
theorem jobAt (S : Nat → Prop) (B : Nat) (J : PJob) (w : World) (h : JobOk S w B J) : Calls Tryz.prog 19 #[.pointer (some ⟨B, 0, none⟩)] w fun e w' => e = .returned (.int .i64 J.pos) ∧ w' = w := by
  obtain ⟨cb, mb, s, r, tm, hS1, hS2, hS3, hn1, hn2, hn3, hB, hcb, hm⟩ := h
  obtain ⟨-, -, c9, -, -⟩ := jobB_of hB
  clear hcb hm hB
  go_enter Tryz.func19, Tryz.ntmps19
  go_wp2
  go_ret
  exact ⟨rfl, rfl⟩
set_option maxRecDepth 100000 in
set_option maxHeartbeats 2000000 in
theorem jobLeft (S : Nat → Prop) (B : Nat) (J : PJob) (w : World) (h : JobOk S w B J) (hi : JobInv J) : Calls Tryz.prog 22 #[.pointer (some ⟨B, 0, none⟩)] w fun e w' => e = .returned (.int .i64 J.tch.length) ∧ w' = w := by
  obtain ⟨cb, mb, s, r, tm, hS1, hS2, hS3, hn1, hn2, hn3, hB, hcb, hm⟩ := h
  obtain ⟨-, -, -, -, c11⟩ := jobB_of hB
  have HM := Lib.hid hm
  have HND := Lib.hid (show J.tch.Nodup from hi.2.2.2.2.1.imp (fun {a b} hab => by omega))
  clear hcb hm hB hi
  go_enter Tryz.func22, Tryz.ntmps22
  go_wp2_with (at_len; go_must (refine wpList_lenI _ rfl (.tmp 8) 86 rfl 2 3 Tryz.underlying86 _ _ _ rfl HM.out J.tch HND.out (tchF_some _) ?_))
  go_ret
  exact ⟨rfl, rfl⟩

theorem jobLenRun {J : PJob} {w : World} {mb : Nat} (hm : MapI w mb (tchF J.tch) 4096) (hi : JobInv J) (W : World) (g : Grow w W) (ty : TypeId) :
    (Builtin.len_ #[86] ty #[.map (some mb)]).run Tryz.prog W = .ok (.int .i64 J.tch.length) W :=
  (hm.grow g).len Tryz.underlying86 (hi.2.2.2.2.1.imp (fun {a b} hab => by omega)) (tchF_some _) ty
end Go.Hg

namespace Go.Hg
open Go.RowKit Go.Proofs

theorem quiet_lenI {P : Program} {C : World → Prop} {a : Act} {o : Oper} {K : Act → Prop} (m : Operand) (t : TypeId) (hop : o.op = Op.call { callee := Callee.builtin Builtin.len, args := #[m], argTypes := #[t] }) (mb : Nat) (n : Int) (hm : a.eval m = .map (some mb))
    (hr : ∀ W, C W → ∀ ty, (Builtin.len_ #[t] ty #[.map (some mb)]).run P W = .ok (.int .i64 n) W) (hk : K (a.put o.dst (.int .i64 n))) : o.quiet P a C K :=
  ⟨_, fun w hw => by unfold Oper.quietAt; simp [execOp, hop, resolve, invoke, builtin, hm, hr w hw, Result.andThen]; exact ⟨rfl, rfl⟩, hk⟩
def endedJ (J : PJob) (next : Int) : Bool := decide (J.pos = next) && decide (J.tch = [])
set_option maxRecDepth 100000 in
set_option maxHeartbeats 2000000 in
theorem jobEnded (S SG : Nat → Prop) (B BG : Nat) (J : PJob) (G : PGraph) (w : World) (h : JobOk S w B J) (hi : JobInv J) (hg : GraphOk 106 SG w BG G) :
    Calls Tryz.prog 43 #[.pointer (some ⟨B, 0, none⟩), .pointer (some ⟨BG, 0, none⟩)] w fun e w' => e = .returned (.bool (endedJ J G.next)) ∧ Grow w w' := by
  obtain ⟨cb, mb, s, r, tm, hS1, hS2, hS3, hn1, hn2, hn3, hB, hcb, hm⟩ := h
  have HLR := Lib.hid (jobLenRun hm hi)
  have HG := Lib.hid hg
  obtain ⟨-, -, c9, -, c11⟩ := jobB_of hB
  have hbl := blk_lt hB
  clear hcb hm hi hg hB
  obtain ⟨b1, hb1⟩ : ∃ b, decide (J.pos = G.next) = b := ⟨_, rfl⟩
  have hb2 : (J.pos == G.next) = b1 := by rw [← hb1]; exact Bool.beq_eq_decide_eq _ _
  obtain ⟨n, hn⟩ : ∃ n : Int, (J.tch.length : Int) = n := ⟨_, rfl⟩
  have HE := Lib.hid (show endedJ J G.next = (b1 && decide (n = 0)) by unfold endedJ; rw [hb1, ← hn]; congr 1; rw [decide_eq_decide]; cases J.tch <;> simp; omega)
  have hlr : ∀ W, Grow w W → ∀ ty, (Builtin.len_ #[86] ty #[.map (some mb)]).run Tryz.prog W = .ok (.int .i64 n) W := fun W g ty => by rw [HLR.out W g ty, hn]
  clear hb1 hn
  cases b1
  · go_enter Tryz.func43, Tryz.ntmps43
    go_wp2_with fail
    refine wp_region_grow (by kernel_rfl) (by kernel_rfl) ?_
    repeat (go_big_quiet_step (first | (go_at_call 23; exact calls_gr ((graphNext SG BG G _ (HG.out.grow (by first | assumption | exact Gr.h _))).mono fun e w' ⟨he, hw⟩ => ⟨he, by subst hw; exact Grow.rfl' _⟩))))
    refine wpQuiet_nil ?_
    intro w2 hw2
    go_wp2
    go_ret
    rw [HE.out]
    exact ⟨by simp, hw2⟩
  · go_enter Tryz.func43, Tryz.ntmps43
    go_wp2_with fail
    refine wp_region_grow (by kernel_rfl) (by kernel_rfl) ?_
    repeat (go_big_quiet_step (first | (go_at_call 23; exact calls_gr ((graphNext SG BG G _ (HG.out.grow (by first | assumption | exact Gr.h _))).mono fun e w' ⟨he, hw⟩ => ⟨he, by subst hw; exact Grow.rfl' _⟩))))
    refine BigFrame.wpQuiet_want (by kernel_rfl) (fun K hK => quiet_lenI (.tmp 16) _ rfl mb n rfl (fun W hW => hlr W (hW.elim fun g e => e ▸ Gr.h g)) (hK _ ?_))
    simp only [Act.put, List.setIfInBounds_toArray, List.set_cons_succ, List.set_cons_zero]
    repeat (go_big_quiet_step (fail))
    refine wpQuiet_nil ?_
    intro w2 hw2
    go_wp2
    go_ret
    rw [HE.out]
    exact ⟨by simp; exact Bool.beq_eq_decide_eq _ _, hw2⟩
end Go.Hg

namespace Go.Hg
open Go.RowKit Go.Proofs

set_option maxRecDepth 100000 in
set_option maxHeartbeats 2000000 in
theorem ref23Ended (S SG : Nat → Prop) (B BG : Nat) (J : PJob) (G : PGraph) (w : World) (h : RJobOk S w B J) (hg : GraphOk 42 SG w BG G) :
    Calls Tryz.prog 53 #[.pointer (some ⟨B, 0, none⟩), .pointer (some ⟨BG, 0, none⟩)] w fun e w' => e = .returned (.bool (endedJ J G.next)) ∧ Grow w w' := by
  obtain ⟨lv, hS1, hB, hl⟩ := h
  obtain ⟨_, _, rfl, -, -, -⟩ := SlR.open hl
  obtain ⟨na, nc, ea, ec, hb, d0, d1, d2, -, -⟩ := hg.read
  obtain ⟨-, -, c9, c10⟩ := rjobB_of hB
  have hbl := blk_lt hB
  clear hB hl hg
  obtain ⟨b1, hb1⟩ : ∃ b, decide (J.pos = G.next) = b := ⟨_, rfl⟩
  have hb2 : (J.pos == G.next) = b1 := by rw [← hb1]; exact Bool.beq_eq_decide_eq _ _
  obtain ⟨n, hn⟩ : ∃ n : Nat, J.tch.length = n := ⟨_, rfl⟩
  have HE := Lib.hid (show endedJ J G.next = (b1 && decide ((n : Int) = 0)) by unfold endedJ; rw [hb1, ← hn]; congr 1; rw [decide_eq_decide]; cases J.tch <;> simp; omega)
  rw [hn] at c10
  clear hb1 hn
  cases b1
  all_goals
    go_enter Tryz.func53, Tryz.ntmps53
    go_wp2_with fail
    refine wp_region_grow (by kernel_rfl) (by kernel_rfl) ?_
    repeat (go_big_quiet_step (fail))
    refine wpQuiet_nil ?_
    intro w2 hw2
    go_wp2
    go_ret
    rw [HE.out]
  · exact ⟨by simp, hw2⟩
  · exact ⟨by first | (simp; done) | (simp; cases n <;> simp <;> omega) | (simp; exact Bool.beq_eq_decide_eq _ _), hw2⟩
end Go.Hg

namespace Go.Hg

def allIds (G : PGraph) : List Int := G.nodes.map (·.id) ++ G.edges.map (·.id)
def idsG (G : PGraph) (f : Int) : List Int := ((allIds G).filter (fun x => decide (f ≤ x))).mergeSort (fun a b => decide (a ≤ b))
theorem sortedPerm_eq {l m : List Int} (h1 : l.Pairwise (· ≤ ·)) (h2 : m.Pairwise (· ≤ ·)) (hp : l.Perm m) : l = m := by
  induction l generalizing m with
  | nil => exact (List.nil_perm.1 hp).symm ▸ rfl
  | cons a t ih =>
    cases m with
    | nil => exact absurd hp.length_eq (by simp)
    | cons b u =>
      have ha : a ∈ b :: u := hp.mem_iff.1 (.head _)
      have hb : b ∈ a :: t := hp.mem_iff.2 (.head _)
      rw [List.pairwise_cons] at h1 h2
      have hab : a = b := by
        rcases List.mem_cons.1 ha with h | h
        · exact h
        · rcases List.mem_cons.1 hb with h' | h'
          · exact h'.symm
          · have := h1.1 b h'; have := h2.1 a h; omega
      subst hab
      rw [ih h1.2 h2.2 (List.Perm.cons_inv hp)]
theorem idsG_sorted (G : PGraph) (f : Int) : (idsG G f).Pairwise (· ≤ ·) := by
  have h := List.pairwise_mergeSort (le := fun a b : Int => decide (a ≤ b)) (fun a b c h1 h2 => by simp at *; omega) (fun a b => by simp; omega) ((allIds G).filter (fun x => decide (f ≤ x)))
  exact h.imp (fun {a b} h => by simpa using h)
theorem idsG_perm (G : PGraph) (f : Int) : (idsG G f).Perm ((allIds G).filter (fun x => decide (f ≤ x))) := List.mergeSort_perm _ _
theorem idsG_of {G : PGraph} {f : Int} {L : List Int} (h1 : L.Pairwise (· ≤ ·)) (h2 : L.Perm ((allIds G).filter (fun x => decide (f ≤ x)))) : L = idsG G f :=
  sortedPerm_eq h1 (idsG_sorted G f) (h2.trans (idsG_perm G f).symm)
theorem idsG_len (G : PGraph) (f : Int) : (idsG G f).length ≤ G.nodes.length + G.edges.length := by
  rw [(idsG_perm G f).length_eq]
  refine Nat.le_trans (List.length_filter_le _ _) ?_
  simp [allIds]
theorem idsG_mem {G : PGraph} {f x : Int} : x ∈ idsG G f ↔ f ≤ x ∧ (x ∈ G.nodes.map (·.id) ∨ x ∈ G.edges.map (·.id)) := by
  rw [(idsG_perm G f).mem_iff, List.mem_filter, allIds, List.mem_append]
  simp only [decide_eq_true_eq]
  exact And.comm
def stepJ (G : PGraph) (J : PJob) : PJob :=
  let n := min J.chunk.toNat J.tch.length
  if n < J.chunk.toNat then
    let l := idsG G J.pos
    if J.chunk.toNat - n < l.length then { J with tch := J.tch.drop n, pos := l.getD (J.chunk.toNat - n - 1) 0 + 1 } else { J with tch := J.tch.drop n, pos := G.next }
  else { J with tch := J.tch.drop n }
end Go.Hg

namespace Go.Hg

def mergeZ : List Int → List Int → List Int
  | [], t => t
  | a :: s, [] => a :: s
  | a :: s, b :: t => if a < b then a :: mergeZ s (b :: t) else b :: mergeZ (a :: s) t
termination_by s t => s.length + t.length
theorem mergeZ_nilR (s : List Int) : mergeZ s [] = s := by cases s <;> simp [mergeZ]
theorem mergeZ_nilL (t : List Int) : mergeZ [] t = t := by simp [mergeZ]
theorem mergeZ_lt {a b : Int} {s t : List Int} (h : a < b) : mergeZ (a :: s) (b :: t) = a :: mergeZ s (b :: t) := by rw [mergeZ, if_pos h]
theorem mergeZ_ge {a b : Int} {s t : List Int} (h : ¬ a < b) : mergeZ (a :: s) (b :: t) = b :: mergeZ (a :: s) t := by rw [mergeZ, if_neg h]
theorem mergeZ_perm (s t : List Int) : (mergeZ s t).Perm (s ++ t) := by
  induction s generalizing t with
  | nil => rw [mergeZ_nilL]; exact List.Perm.refl _
  | cons a s ih =>
    induction t with
    | nil => rw [mergeZ_nilR]; simp
    | cons b t ih2 =>
      by_cases h : a < b
      · rw [mergeZ_lt h]; exact (ih (b :: t)).cons a
      · rw [mergeZ_ge h]
        exact (ih2.cons b).trans (List.perm_middle (l₁ := a :: s) (l₂ := t)).symm
theorem mergeZ_sorted {s t : List Int} (h1 : s.Pairwise (· ≤ ·)) (h2 : t.Pairwise (· ≤ ·)) : (mergeZ s t).Pairwise (· ≤ ·) := by
  induction s generalizing t with
  | nil => rw [mergeZ_nilL]; exact h2
  | cons a s ih =>
    induction t with
    | nil => rw [mergeZ_nilR]; exact h1
    | cons b t ih2 =>
      have g1 := List.pairwise_cons.1 h1
      have g2 := List.pairwise_cons.1 h2
      by_cases h : a < b
      · rw [mergeZ_lt h, List.pairwise_cons]
        refine ⟨fun x hx => ?_, ih g1.2 h2⟩
        rcases List.mem_append.1 ((mergeZ_perm _ _).mem_iff.1 hx) with hx | hx
        · exact g1.1 x hx
        · rcases List.mem_cons.1 hx with rfl | hx
          · omega
          · have := g2.1 x hx; omega
      · rw [mergeZ_ge h, List.pairwise_cons]
        refine ⟨fun x hx => ?_, ih2 g2.2⟩
        rcases List.mem_append.1 ((mergeZ_perm _ _).mem_iff.1 hx) with hx | hx
        · rcases List.mem_cons.1 hx with rfl | hx
          · omega
          · have := g1.1 x hx; omega
        · exact g2.1 x hx
theorem idsG_merge {G : PGraph} (hi : GInv G) (f : Int) : (mergeZ (G.nodes.map (·.id)) (G.edges.map (·.id))).filter (fun x => decide (f ≤ x)) = idsG G f :=
  idsG_of ((mergeZ_sorted (hi.nodes.imp (fun {a b} h => by omega)) (hi.edges.imp (fun {a b} h => by omega))).filter _) ((mergeZ_perm _ _).filter _)
theorem mergeZ_node {N E : List Int} {i k : Nat} (hi : i < N.length) (h : k = E.length ∨ ∃ hk : k < E.length, N[i] < E[k]) : mergeZ (N.drop i) (E.drop k) = N[i] :: mergeZ (N.drop (i + 1)) (E.drop k) := by
  rw [List.drop_eq_getElem_cons hi]
  rcases h with rfl | ⟨hk, h⟩
  · rw [List.drop_length, mergeZ_nilR, mergeZ_nilR]
  · rw [List.drop_eq_getElem_cons hk, mergeZ_lt h]
theorem mergeZ_edge {N E : List Int} {i k : Nat} (hk : k < E.length) (h : N.length ≤ i ∨ ∃ hi : i < N.length, ¬ N[i] < E[k]) : mergeZ (N.drop i) (E.drop k) = E[k] :: mergeZ (N.drop i) (E.drop (k + 1)) := by
  rw [List.drop_eq_getElem_cons hk]
  rcases h with h | ⟨hi, h⟩
  · rw [List.drop_eq_nil_of_le h, mergeZ_nilL, mergeZ_nilL]
  · rw [List.drop_eq_getElem_cons hi, mergeZ_ge h]

theorem idsG_bounds {G : PGraph} (hi : GInv G) {f x : Int} (h : x ∈ idsG G f) : 1 ≤ x ∧ x < G.next := by
  obtain ⟨-, h⟩ := idsG_mem.1 h
  rcases h with h | h
  · obtain ⟨n, hn, rfl⟩ := List.mem_map.1 h
    exact ⟨(hi.nodesB n hn).1, (hi.nodesB n hn).2.1⟩
  · obtain ⟨n, hn, rfl⟩ := List.mem_map.1 h
    exact ⟨(hi.edgesB n hn).1, (hi.edgesB n hn).2.1⟩
theorem stepJ_inv {G : PGraph} (hG : GInv G) {J : PJob} (h : JobInv J) : JobInv (stepJ G J) := by
  obtain ⟨h1, h2, h3, h4, h5, h6, h7⟩ := h
  have d5 : (J.tch.drop (min J.chunk.toNat J.tch.length)).Pairwise (· < ·) := h5.sublist (List.drop_sublist _ _)
  have d6 : (J.tch.drop (min J.chunk.toNat J.tch.length)).length ≤ 4096 := by rw [List.length_drop]; omega
  have d7 : ∀ x ∈ J.tch.drop (min J.chunk.toNat J.tch.length), (Lit.int .i64 x).wf = true := fun x hx => h7 x (List.mem_of_mem_drop hx)
  have hn0 := hG.next0; have hn1 := hG.next1
  unfold stepJ
  simp only
  split
  · rename_i hlt
    split
    · rename_i hlen
      have hm : J.chunk.toNat - min J.chunk.toNat J.tch.length - 1 < (idsG G J.pos).length := by omega
      have hb := idsG_bounds hG (List.getElem_mem hm)
      have he : (idsG G J.pos).getD (J.chunk.toNat - min J.chunk.toNat J.tch.length - 1) 0 = (idsG G J.pos)[J.chunk.toNat - min J.chunk.toNat J.tch.length - 1] := by rw [List.getD_eq_getElem?_getD, List.getElem?_eq_getElem hm]; rfl
      refine ⟨h1, h2, ?_, ?_, d5, d6, d7⟩
      · show 1 ≤ (idsG G J.pos).getD _ 0 + 1
        rw [he]; omega
      · show (idsG G J.pos).getD _ 0 + 1 ≤ 4611686018427387904
        rw [he]; omega
    · exact ⟨h1, h2, hn0, hn1, d5, d6, d7⟩
  · exact ⟨h1, h2, h3, h4, d5, d6, d7⟩
theorem stepJ_r (G : PGraph) (J : PJob) : (stepJ G J).r = J.r ∧ (stepJ G J).chunk = J.chunk := by
  unfold stepJ
  simp only
  split
  · split <;> exact ⟨rfl, rfl⟩
  · exact ⟨rfl, rfl⟩
end Go.Hg

namespace Go.Hg
open Go.RowKit Go.Proofs

theorem zeroAct (w : World) : (zeroValue 102).run Tryz.prog w = .ok (.agg #[.nilFunc, .nilFunc]) w := by kernel_rfl

set_option maxRecDepth 100000 in
set_option maxHeartbeats 1000000 in
theorem acts1 (w : World) : Calls Tryz.prog 51 #[.int .i64 1] w fun e w' => e = .returned (.tuple #[.agg #[.func (.func 84) #[] #[], .func (.func 85) #[] #[]], .bool true]) ∧ Grow w w' := by
  have hsz : (w.alloc (.cells #[.nilFunc, .nilFunc] 102)).heap.size = w.heap.size + 1 := by simp
  have hT : Tryz.prog.underlying 143 = some (.map 3 102) := Tryz.underlying143
  have hI : Tryz.prog.underlying 3 = some (.int .i64) := Tryz.underlying3
  have i1 := run_ins _ _ hsz hT hI #[] 0 1 (.agg #[.func (.func 84) #[] #[], .func (.func 85) #[] #[]]) rfl
  have i2 := run_ins _ _ hsz hT hI #[{ key := .int .i64 1, val := .agg #[.func (.func 84) #[] #[], .func (.func 85) #[] #[]], born := 0 }] 1 2 (.agg #[.func (.func 86) #[] #[], .func (.func 87) #[] #[]]) rfl
  have i3 := run_ins _ _ hsz hT hI #[{ key := .int .i64 1, val := .agg #[.func (.func 84) #[] #[], .func (.func 85) #[] #[]], born := 0 }, { key := .int .i64 2, val := .agg #[.func (.func 86) #[] #[], .func (.func 87) #[] #[]], born := 1 }] 2 3 (.agg #[.func (.func 88) #[] #[], .func (.func 89) #[] #[]]) rfl
  have i4 := run_ins _ _ hsz hT hI #[{ key := .int .i64 1, val := .agg #[.func (.func 84) #[] #[], .func (.func 85) #[] #[]], born := 0 }, { key := .int .i64 2, val := .agg #[.func (.func 86) #[] #[], .func (.func 87) #[] #[]], born := 1 }, { key := .int .i64 3, val := .agg #[.func (.func 88) #[] #[], .func (.func 89) #[] #[]], born := 2 }] 3 4 (.agg #[.func (.func 90) #[] #[], .func (.func 91) #[] #[]]) rfl
  have i5 := run_ins _ _ hsz hT hI #[{ key := .int .i64 1, val := .agg #[.func (.func 84) #[] #[], .func (.func 85) #[] #[]], born := 0 }, { key := .int .i64 2, val := .agg #[.func (.func 86) #[] #[], .func (.func 87) #[] #[]], born := 1 }, { key := .int .i64 3, val := .agg #[.func (.func 88) #[] #[], .func (.func 89) #[] #[]], born := 2 }, { key := .int .i64 4, val := .agg #[.func (.func 90) #[] #[], .func (.func 91) #[] #[]], born := 3 }] 4 5 (.agg #[.func (.func 92) #[] #[], .func (.func 93) #[] #[]]) rfl
  simp only [List.push_toArray, List.cons_append, List.nil_append, Nat.reduceAdd] at i1 i2 i3 i4 i5
  have hmm := @run_makeMap Tryz.prog
  have HG := Lib.hid (show ∀ o1 o2 o3, Grow w (((w.alloc o1).alloc o2).alloc o3) from fun o1 o2 o3 => (((Grow.rfl' w).allocd o1).allocd o2).allocd o3)
  have lk := run_look_hit _ _ hsz hT hI #[{ key := .int .i64 1, val := .agg #[.func (.func 84) #[] #[], .func (.func 85) #[] #[]], born := 0 }, { key := .int .i64 2, val := .agg #[.func (.func 86) #[] #[], .func (.func 87) #[] #[]], born := 1 }, { key := .int .i64 3, val := .agg #[.func (.func 88) #[] #[], .func (.func 89) #[] #[]], born := 2 }, { key := .int .i64 4, val := .agg #[.func (.func 90) #[] #[], .func (.func 91) #[] #[]], born := 3 }, { key := .int .i64 5, val := .agg #[.func (.func 92) #[] #[], .func (.func 93) #[] #[]], born := 4 }] 5 1 0 _ rfl
  clear hsz
  go_enter Tryz.func51, Tryz.ntmps51
  go_wp2
  refine bodyPost_ret (v := .tuple #[.agg #[.func (.func 84) #[] #[], .func (.func 85) #[] #[]], .bool true]) ?_ rfl ⟨rfl, HG.out _ _ _⟩
  rw [results_cell_tmp rfl]
  go_simp

set_option maxRecDepth 100000 in
set_option maxHeartbeats 1000000 in
theorem acts2 (w : World) : Calls Tryz.prog 51 #[.int .i64 2] w fun e w' => e = .returned (.tuple #[.agg #[.func (.func 86) #[] #[], .func (.func 87) #[] #[]], .bool true]) ∧ Grow w w' := by
  have hsz : (w.alloc (.cells #[.nilFunc, .nilFunc] 102)).heap.size = w.heap.size + 1 := by simp
  have hT : Tryz.prog.underlying 143 = some (.map 3 102) := Tryz.underlying143
  have hI : Tryz.prog.underlying 3 = some (.int .i64) := Tryz.underlying3
  have i1 := run_ins _ _ hsz hT hI #[] 0 1 (.agg #[.func (.func 84) #[] #[], .func (.func 85) #[] #[]]) rfl
  have i2 := run_ins _ _ hsz hT hI #[{ key := .int .i64 1, val := .agg #[.func (.func 84) #[] #[], .func (.func 85) #[] #[]], born := 0 }] 1 2 (.agg #[.func (.func 86) #[] #[], .func (.func 87) #[] #[]]) rfl
  have i3 := run_ins _ _ hsz hT hI #[{ key := .int .i64 1, val := .agg #[.func (.func 84) #[] #[], .func (.func 85) #[] #[]], born := 0 }, { key := .int .i64 2, val := .agg #[.func (.func 86) #[] #[], .func (.func 87) #[] #[]], born := 1 }] 2 3 (.agg #[.func (.func 88) #[] #[], .func (.func 89) #[] #[]]) rfl
  have i4 := run_ins _ _ hsz hT hI #[{ key := .int .i64 1, val := .agg #[.func (.func 84) #[] #[], .func (.func 85) #[] #[]], born := 0 }, { key := .int .i64 2, val := .agg #[.func (.func 86) #[] #[], .func (.func 87) #[] #[]], born := 1 }, { key := .int .i64 3, val := .agg #[.func (.func 88) #[] #[], .func (.func 89) #[] #[]], born := 2 }] 3 4 (.agg #[.func (.func 90) #[] #[], .func (.func 91) #[] #[]]) rfl
  have i5 := run_ins _ _ hsz hT hI #[{ key := .int .i64 1, val := .agg #[.func (.func 84) #[] #[], .func (.func 85) #[] #[]], born := 0 }, { key := .int .i64 2, val := .agg #[.func (.func 86) #[] #[], .func (.func 87) #[] #[]], born := 1 }, { key := .int .i64 3, val := .agg #[.func (.func 88) #[] #[], .func (.func 89) #[] #[]], born := 2 }, { key := .int .i64 4, val := .agg #[.func (.func 90) #[] #[], .func (.func 91) #[] #[]], born := 3 }] 4 5 (.agg #[.func (.func 92) #[] #[], .func (.func 93) #[] #[]]) rfl
  simp only [List.push_toArray, List.cons_append, List.nil_append, Nat.reduceAdd] at i1 i2 i3 i4 i5
  have hmm := @run_makeMap Tryz.prog
  have HG := Lib.hid (show ∀ o1 o2 o3, Grow w (((w.alloc o1).alloc o2).alloc o3) from fun o1 o2 o3 => (((Grow.rfl' w).allocd o1).allocd o2).allocd o3)
  have lk := run_look_hit _ _ hsz hT hI #[{ key := .int .i64 1, val := .agg #[.func (.func 84) #[] #[], .func (.func 85) #[] #[]], born := 0 }, { key := .int .i64 2, val := .agg #[.func (.func 86) #[] #[], .func (.func 87) #[] #[]], born := 1 }, { key := .int .i64 3, val := .agg #[.func (.func 88) #[] #[], .func (.func 89) #[] #[]], born := 2 }, { key := .int .i64 4, val := .agg #[.func (.func 90) #[] #[], .func (.func 91) #[] #[]], born := 3 }, { key := .int .i64 5, val := .agg #[.func (.func 92) #[] #[], .func (.func 93) #[] #[]], born := 4 }] 5 2 1 _ rfl
  clear hsz
  go_enter Tryz.func51, Tryz.ntmps51
  go_wp2
  refine bodyPost_ret (v := .tuple #[.agg #[.func (.func 86) #[] #[], .func (.func 87) #[] #[]], .bool true]) ?_ rfl ⟨rfl, HG.out _ _ _⟩
  rw [results_cell_tmp rfl]
  go_simp

set_option maxRecDepth 100000 in
set_option maxHeartbeats 1000000 in
theorem acts3 (w : World) : Calls Tryz.prog 51 #[.int .i64 3] w fun e w' => e = .returned (.tuple #[.agg #[.func (.func 88) #[] #[], .func (.func 89) #[] #[]], .bool true]) ∧ Grow w w' := by
  have hsz : (w.alloc (.cells #[.nilFunc, .nilFunc] 102)).heap.size = w.heap.size + 1 := by simp
  have hT : Tryz.prog.underlying 143 = some (.map 3 102) := Tryz.underlying143
  have hI : Tryz.prog.underlying 3 = some (.int .i64) := Tryz.underlying3
  have i1 := run_ins _ _ hsz hT hI #[] 0 1 (.agg #[.func (.func 84) #[] #[], .func (.func 85) #[] #[]]) rfl
  have i2 := run_ins _ _ hsz hT hI #[{ key := .int .i64 1, val := .agg #[.func (.func 84) #[] #[], .func (.func 85) #[] #[]], born := 0 }] 1 2 (.agg #[.func (.func 86) #[] #[], .func (.func 87) #[] #[]]) rfl
  have i3 := run_ins _ _ hsz hT hI #[{ key := .int .i64 1, val := .agg #[.func (.func 84) #[] #[], .func (.func 85) #[] #[]], born := 0 }, { key := .int .i64 2, val := .agg #[.func (.func 86) #[] #[], .func (.func 87) #[] #[]], born := 1 }] 2 3 (.agg #[.func (.func 88) #[] #[], .func (.func 89) #[] #[]]) rfl
  have i4 := run_ins _ _ hsz hT hI #[{ key := .int .i64 1, val := .agg #[.func (.func 84) #[] #[], .func (.func 85) #[] #[]], born := 0 }, { key := .int .i64 2, val := .agg #[.func (.func 86) #[] #[], .func (.func 87) #[] #[]], born := 1 }, { key := .int .i64 3, val := .agg #[.func (.func 88) #[] #[], .func (.func 89) #[] #[]], born := 2 }] 3 4 (.agg #[.func (.func 90) #[] #[], .func (.func 91) #[] #[]]) rfl
  have i5 := run_ins _ _ hsz hT hI #[{ key := .int .i64 1, val := .agg #[.func (.func 84) #[] #[], .func (.func 85) #[] #[]], born := 0 }, { key := .int .i64 2, val := .agg #[.func (.func 86) #[] #[], .func (.func 87) #[] #[]], born := 1 }, { key := .int .i64 3, val := .agg #[.func (.func 88) #[] #[], .func (.func 89) #[] #[]], born := 2 }, { key := .int .i64 4, val := .agg #[.func (.func 90) #[] #[], .func (.func 91) #[] #[]], born := 3 }] 4 5 (.agg #[.func (.func 92) #[] #[], .func (.func 93) #[] #[]]) rfl
  simp only [List.push_toArray, List.cons_append, List.nil_append, Nat.reduceAdd] at i1 i2 i3 i4 i5
  have hmm := @run_makeMap Tryz.prog
  have HG := Lib.hid (show ∀ o1 o2 o3, Grow w (((w.alloc o1).alloc o2).alloc o3) from fun o1 o2 o3 => (((Grow.rfl' w).allocd o1).allocd o2).allocd o3)
  have lk := run_look_hit _ _ hsz hT hI #[{ key := .int .i64 1, val := .agg #[.func (.func 84) #[] #[], .func (.func 85) #[] #[]], born := 0 }, { key := .int .i64 2, val := .agg #[.func (.func 86) #[] #[], .func (.func 87) #[] #[]], born := 1 }, { key := .int .i64 3, val := .agg #[.func (.func 88) #[] #[], .func (.func 89) #[] #[]], born := 2 }, { key := .int .i64 4, val := .agg #[.func (.func 90) #[] #[], .func (.func 91) #[] #[]], born := 3 }, { key := .int .i64 5, val := .agg #[.func (.func 92) #[] #[], .func (.func 93) #[] #[]], born := 4 }] 5 3 2 _ rfl
  clear hsz
  go_enter Tryz.func51, Tryz.ntmps51
  go_wp2
  refine bodyPost_ret (v := .tuple #[.agg #[.func (.func 88) #[] #[], .func (.func 89) #[] #[]], .bool true]) ?_ rfl ⟨rfl, HG.out _ _ _⟩
  rw [results_cell_tmp rfl]
  go_simp

set_option maxRecDepth 100000 in
set_option maxHeartbeats 1000000 in
theorem acts4 (w : World) : Calls Tryz.prog 51 #[.int .i64 4] w fun e w' => e = .returned (.tuple #[.agg #[.func (.func 90) #[] #[], .func (.func 91) #[] #[]], .bool true]) ∧ Grow w w' := by
  have hsz : (w.alloc (.cells #[.nilFunc, .nilFunc] 102)).heap.size = w.heap.size + 1 := by simp
  have hT : Tryz.prog.underlying 143 = some (.map 3 102) := Tryz.underlying143
  have hI : Tryz.prog.underlying 3 = some (.int .i64) := Tryz.underlying3
  have i1 := run_ins _ _ hsz hT hI #[] 0 1 (.agg #[.func (.func 84) #[] #[], .func (.func 85) #[] #[]]) rfl
  have i2 := run_ins _ _ hsz hT hI #[{ key := .int .i64 1, val := .agg #[.func (.func 84) #[] #[], .func (.func 85) #[] #[]], born := 0 }] 1 2 (.agg #[.func (.func 86) #[] #[], .func (.func 87) #[] #[]]) rfl
  have i3 := run_ins _ _ hsz hT hI #[{ key := .int .i64 1, val := .agg #[.func (.func 84) #[] #[], .func (.func 85) #[] #[]], born := 0 }, { key := .int .i64 2, val := .agg #[.func (.func 86) #[] #[], .func (.func 87) #[] #[]], born := 1 }] 2 3 (.agg #[.func (.func 88) #[] #[], .func (.func 89) #[] #[]]) rfl
  have i4 := run_ins _ _ hsz hT hI #[{ key := .int .i64 1, val := .agg #[.func (.func 84) #[] #[], .func (.func 85) #[] #[]], born := 0 }, { key := .int .i64 2, val := .agg #[.func (.func 86) #[] #[], .func (.func 87) #[] #[]], born := 1 }, { key := .int .i64 3, val := .agg #[.func (.func 88) #[] #[], .func (.func 89) #[] #[]], born := 2 }] 3 4 (.agg #[.func (.func 90) #[] #[], .func (.func 91) #[] #[]]) rfl
  have i5 := run_ins _ _ hsz hT hI #[{ key := .int .i64 1, val := .agg #[.func (.func 84) #[] #[], .func (.func 85) #[] #[]], born := 0 }, { key := .int .i64 2, val := .agg #[.func (.func 86) #[] #[], .func (.func 87) #[] #[]], born := 1 }, { key := .int .i64 3, val := .agg #[.func (.func 88) #[] #[], .func (.func 89) #[] #[]], born := 2 }, { key := .int .i64 4, val := .agg #[.func (.func 90) #[] #[], .func (.func 91) #[] #[]], born := 3 }] 4 5 (.agg #[.func (.func 92) #[] #[], .func (.func 93) #[] #[]]) rfl
  simp only [List.push_toArray, List.cons_append, List.nil_append, Nat.reduceAdd] at i1 i2 i3 i4 i5
  have hmm := @run_makeMap Tryz.prog
  have HG := Lib.hid (show ∀ o1 o2 o3, Grow w (((w.alloc o1).alloc o2).alloc o3) from fun o1 o2 o3 => (((Grow.rfl' w).allocd o1).allocd o2).allocd o3)
  have lk := run_look_hit _ _ hsz hT hI #[{ key := .int .i64 1, val := .agg #[.func (.func 84) #[] #[], .func (.func 85) #[] #[]], born := 0 }, { key := .int .i64 2, val := .agg #[.func (.func 86) #[] #[], .func (.func 87) #[] #[]], born := 1 }, { key := .int .i64 3, val := .agg #[.func (.func 88) #[] #[], .func (.func 89) #[] #[]], born := 2 }, { key := .int .i64 4, val := .agg #[.func (.func 90) #[] #[], .func (.func 91) #[] #[]], born := 3 }, { key := .int .i64 5, val := .agg #[.func (.func 92) #[] #[], .func (.func 93) #[] #[]], born := 4 }] 5 4 3 _ rfl
  clear hsz
  go_enter Tryz.func51, Tryz.ntmps51
  go_wp2
  refine bodyPost_ret (v := .tuple #[.agg #[.func (.func 90) #[] #[], .func (.func 91) #[] #[]], .bool true]) ?_ rfl ⟨rfl, HG.out _ _ _⟩
  rw [results_cell_tmp rfl]
  go_simp

set_option maxRecDepth 100000 in
set_option maxHeartbeats 1000000 in
theorem acts5 (w : World) : Calls Tryz.prog 51 #[.int .i64 5] w fun e w' => e = .returned (.tuple #[.agg #[.func (.func 92) #[] #[], .func (.func 93) #[] #[]], .bool true]) ∧ Grow w w' := by
  have hsz : (w.alloc (.cells #[.nilFunc, .nilFunc] 102)).heap.size = w.heap.size + 1 := by simp
  have hT : Tryz.prog.underlying 143 = some (.map 3 102) := Tryz.underlying143
  have hI : Tryz.prog.underlying 3 = some (.int .i64) := Tryz.underlying3
  have i1 := run_ins _ _ hsz hT hI #[] 0 1 (.agg #[.func (.func 84) #[] #[], .func (.func 85) #[] #[]]) rfl
  have i2 := run_ins _ _ hsz hT hI #[{ key := .int .i64 1, val := .agg #[.func (.func 84) #[] #[], .func (.func 85) #[] #[]], born := 0 }] 1 2 (.agg #[.func (.func 86) #[] #[], .func (.func 87) #[] #[]]) rfl
  have i3 := run_ins _ _ hsz hT hI #[{ key := .int .i64 1, val := .agg #[.func (.func 84) #[] #[], .func (.func 85) #[] #[]], born := 0 }, { key := .int .i64 2, val := .agg #[.func (.func 86) #[] #[], .func (.func 87) #[] #[]], born := 1 }] 2 3 (.agg #[.func (.func 88) #[] #[], .func (.func 89) #[] #[]]) rfl
  have i4 := run_ins _ _ hsz hT hI #[{ key := .int .i64 1, val := .agg #[.func (.func 84) #[] #[], .func (.func 85) #[] #[]], born := 0 }, { key := .int .i64 2, val := .agg #[.func (.func 86) #[] #[], .func (.func 87) #[] #[]], born := 1 }, { key := .int .i64 3, val := .agg #[.func (.func 88) #[] #[], .func (.func 89) #[] #[]], born := 2 }] 3 4 (.agg #[.func (.func 90) #[] #[], .func (.func 91) #[] #[]]) rfl
  have i5 := run_ins _ _ hsz hT hI #[{ key := .int .i64 1, val := .agg #[.func (.func 84) #[] #[], .func (.func 85) #[] #[]], born := 0 }, { key := .int .i64 2, val := .agg #[.func (.func 86) #[] #[], .func (.func 87) #[] #[]], born := 1 }, { key := .int .i64 3, val := .agg #[.func (.func 88) #[] #[], .func (.func 89) #[] #[]], born := 2 }, { key := .int .i64 4, val := .agg #[.func (.func 90) #[] #[], .func (.func 91) #[] #[]], born := 3 }] 4 5 (.agg #[.func (.func 92) #[] #[], .func (.func 93) #[] #[]]) rfl
  simp only [List.push_toArray, List.cons_append, List.nil_append, Nat.reduceAdd] at i1 i2 i3 i4 i5
  have hmm := @run_makeMap Tryz.prog
  have HG := Lib.hid (show ∀ o1 o2 o3, Grow w (((w.alloc o1).alloc o2).alloc o3) from fun o1 o2 o3 => (((Grow.rfl' w).allocd o1).allocd o2).allocd o3)
  have lk := run_look_hit _ _ hsz hT hI #[{ key := .int .i64 1, val := .agg #[.func (.func 84) #[] #[], .func (.func 85) #[] #[]], born := 0 }, { key := .int .i64 2, val := .agg #[.func (.func 86) #[] #[], .func (.func 87) #[] #[]], born := 1 }, { key := .int .i64 3, val := .agg #[.func (.func 88) #[] #[], .func (.func 89) #[] #[]], born := 2 }, { key := .int .i64 4, val := .agg #[.func (.func 90) #[] #[], .func (.func 91) #[] #[]], born := 3 }, { key := .int .i64 5, val := .agg #[.func (.func 92) #[] #[], .func (.func 93) #[] #[]], born := 4 }] 5 5 4 _ rfl
  clear hsz
  go_enter Tryz.func51, Tryz.ntmps51
  go_wp2
  refine bodyPost_ret (v := .tuple #[.agg #[.func (.func 92) #[] #[], .func (.func 93) #[] #[]], .bool true]) ?_ rfl ⟨rfl, HG.out _ _ _⟩
  rw [results_cell_tmp rfl]
  go_simp

set_option maxRecDepth 100000 in
set_option maxHeartbeats 1000000 in
theorem acts0 (k : Int) (w : World) (h1 : k ≠ 1) (h2 : k ≠ 2) (h3 : k ≠ 3) (h4 : k ≠ 4) (h5 : k ≠ 5) : Calls Tryz.prog 51 #[.int .i64 k] w fun e w' => e = .returned (.tuple #[.agg #[.nilFunc, .nilFunc], .bool false]) ∧ Grow w w' := by
  have hsz : (w.alloc (.cells #[.nilFunc, .nilFunc] 102)).heap.size = w.heap.size + 1 := by simp
  have hT : Tryz.prog.underlying 143 = some (.map 3 102) := Tryz.underlying143
  have hI : Tryz.prog.underlying 3 = some (.int .i64) := Tryz.underlying3
  have i1 := run_ins _ _ hsz hT hI #[] 0 1 (.agg #[.func (.func 84) #[] #[], .func (.func 85) #[] #[]]) rfl
  have i2 := run_ins _ _ hsz hT hI #[{ key := .int .i64 1, val := .agg #[.func (.func 84) #[] #[], .func (.func 85) #[] #[]], born := 0 }] 1 2 (.agg #[.func (.func 86) #[] #[], .func (.func 87) #[] #[]]) rfl
  have i3 := run_ins _ _ hsz hT hI #[{ key := .int .i64 1, val := .agg #[.func (.func 84) #[] #[], .func (.func 85) #[] #[]], born := 0 }, { key := .int .i64 2, val := .agg #[.func (.func 86) #[] #[], .func (.func 87) #[] #[]], born := 1 }] 2 3 (.agg #[.func (.func 88) #[] #[], .func (.func 89) #[] #[]]) rfl
  have i4 := run_ins _ _ hsz hT hI #[{ key := .int .i64 1, val := .agg #[.func (.func 84) #[] #[], .func (.func 85) #[] #[]], born := 0 }, { key := .int .i64 2, val := .agg #[.func (.func 86) #[] #[], .func (.func 87) #[] #[]], born := 1 }, { key := .int .i64 3, val := .agg #[.func (.func 88) #[] #[], .func (.func 89) #[] #[]], born := 2 }] 3 4 (.agg #[.func (.func 90) #[] #[], .func (.func 91) #[] #[]]) rfl
  have i5 := run_ins _ _ hsz hT hI #[{ key := .int .i64 1, val := .agg #[.func (.func 84) #[] #[], .func (.func 85) #[] #[]], born := 0 }, { key := .int .i64 2, val := .agg #[.func (.func 86) #[] #[], .func (.func 87) #[] #[]], born := 1 }, { key := .int .i64 3, val := .agg #[.func (.func 88) #[] #[], .func (.func 89) #[] #[]], born := 2 }, { key := .int .i64 4, val := .agg #[.func (.func 90) #[] #[], .func (.func 91) #[] #[]], born := 3 }] 4 5 (.agg #[.func (.func 92) #[] #[], .func (.func 93) #[] #[]]) rfl
  simp only [List.push_toArray, List.cons_append, List.nil_append, Nat.reduceAdd] at i1 i2 i3 i4 i5
  have hmm := @run_makeMap Tryz.prog
  have HG := Lib.hid (show ∀ o1 o2 o3, Grow w (((w.alloc o1).alloc o2).alloc o3) from fun o1 o2 o3 => (((Grow.rfl' w).allocd o1).allocd o2).allocd o3)
  have lk := run_look_miss _ _ hsz hT hI #[{ key := .int .i64 1, val := .agg #[.func (.func 84) #[] #[], .func (.func 85) #[] #[]], born := 0 }, { key := .int .i64 2, val := .agg #[.func (.func 86) #[] #[], .func (.func 87) #[] #[]], born := 1 }, { key := .int .i64 3, val := .agg #[.func (.func 88) #[] #[], .func (.func 89) #[] #[]], born := 2 }, { key := .int .i64 4, val := .agg #[.func (.func 90) #[] #[], .func (.func 91) #[] #[]], born := 3 }, { key := .int .i64 5, val := .agg #[.func (.func 92) #[] #[], .func (.func 93) #[] #[]], born := 4 }] 5 k _ zeroAct (by simp [Instr.findNow, Instr.sameNow, beq_eq_false_iff_ne.2 h1, beq_eq_false_iff_ne.2 h2, beq_eq_false_iff_ne.2 h3, beq_eq_false_iff_ne.2 h4, beq_eq_false_iff_ne.2 h5])
  clear hsz h1 h2 h3 h4 h5
  go_enter Tryz.func51, Tryz.ntmps51
  go_wp2
  refine bodyPost_ret (v := .tuple #[.agg #[.nilFunc, .nilFunc], .bool false]) ?_ rfl ⟨rfl, HG.out _ _ _⟩
  rw [results_cell_tmp rfl]
  go_simp
end Go.Hg

namespace Go.Hg
open Go.RowKit Go.Proofs

def CatAt (w : World) (b : Nat) (nv ev rv iv : Value) (c : PCat) : Prop := w.heap[b]? = some (.cells #[nv, ev, rv, iv, .int .i64 c.nextRule] 59 (0, 0))
theorem CatAt.grow {w w' : World} {b : Nat} {nv ev rv iv : Value} {c : PCat} (h : CatAt w b nv ev rv iv c) (g : Grow w w') : CatAt w' b nv ev rv iv c := (g.heapEq (blk_lt h)).trans h
theorem CatAt.at {w : World} {b : Nat} {nv ev rv iv : Value} {c : PCat} (h : CatAt w b nv ev rv iv c) : b < w.heap.size ∧ w.cell? ⟨b, 0, none⟩ = some nv ∧ w.cell? ⟨b, 1, none⟩ = some ev ∧ w.cell? ⟨b, 2, none⟩ = some rv ∧ w.cell? ⟨b, 3, none⟩ = some iv ∧ w.cell? ⟨b, 4, none⟩ = some (.int .i64 c.nextRule) :=
  ⟨blk_lt h, by rw [blk_cell h]; rfl, by rw [blk_cell h]; rfl, by rw [blk_cell h]; rfl, by rw [blk_cell h]; rfl, by rw [blk_cell h]; rfl⟩
theorem boxes (w : World) (nv ev rv iv : Value) (c : PCat) (o : POp) : CatAt ((w.alloc (.cells #[nv, ev, rv, iv, .int .i64 c.nextRule] 59)).alloc (.cells o.cells.toArray 50)) w.heap.size nv ev rv iv c ∧ OpAt ((w.alloc (.cells #[nv, ev, rv, iv, .int .i64 c.nextRule] 59)).alloc (.cells o.cells.toArray 50)) (w.heap.size + 1) o := by
  constructor
  · unfold CatAt
    rw [heap_alloc_old _ _ (by simp)]
    exact heap_alloc_new w _
  · have := heap_alloc_new (w.alloc (.cells #[nv, ev, rv, iv, .int .i64 c.nextRule] 59)) (.cells o.cells.toArray 50)
    rw [World.size_alloc] at this
    exact this

set_option maxRecDepth 100000 in
set_option maxHeartbeats 1000000 in
theorem may1 (S SC : Nat → Prop) (B : Nat) (G : PGraph) (nv ev rv iv : Value) (c : PCat) (o : POp) (w : World) (h : GraphOk 106 S w B G) (hG : GInv G) (hc : CatR SC w nv ev rv iv c) (hk : o.kind = 1) :
    Calls Tryz.prog 50 #[.pointer (some ⟨B, 0, none⟩), c.arg nv ev rv iv, o.args] w fun e w' => e = .returned (.int .i64 (mayG c o G)) ∧ Grow w w' := by
  have HGR := Lib.hid h; have HI := Lib.hid hG; have HC := Lib.hid hc
  obtain ⟨kind, id, typ, from_, to_, name, v, cascade⟩ := o
  subst hk
  obtain ⟨na, nc, ea, ec, ra, rc, ia, ic, rfl, rfl, rfl, rfl⟩ := hc.slices
  have HW := Lib.hid (show ∀ o1 o2, Grow w ((w.alloc o1).alloc o2) from fun o1 o2 => ((Grow.rfl' w).allocd o1).allocd o2)
  have HBX := Lib.hid (boxes w (.slice na c.nodes.length nc) (.slice ea c.edges.length ec) (.slice ra c.rules.length rc) (.slice ia c.indexes.length ic) c ⟨1, id, typ, from_, to_, name, v, cascade⟩)
  clear h hc hG
  go_enter Tryz.func50, Tryz.ntmps50
  go_wp2_with fail
  refine (acts1 _).mono ?_
  rintro e w2 ⟨rfl, hg⟩
  have HG2 := Lib.hid ((HW.out _ _).step hg)
  obtain ⟨hl1, k0, k1, k2, k3, k4⟩ := (HBX.out.1.grow hg).at
  obtain ⟨hl2, c0, c1, c2, c3, c4, c5, c6, c7, c8, c9⟩ := (HBX.out.2.grow hg).at
  clear hg
  go_wp2_with fail
  refine (mayAddNode S SC B G _ _ _ _ c ⟨1, id, typ, from_, to_, name, v, cascade⟩ _ (HGR.out.grow (HG2.out.allocd _)) HI.out (HC.out.grow (HG2.out.allocd _)) rfl).mono ?_
  rintro e w3 ⟨rfl, hg⟩
  have HG3 := Lib.hid ((HG2.out.allocd _).step hg)
  clear hg k0 k1 k2 k3 k4 c0 c1 c2 c3 c4 c5 c6 c7 c8 c9
  go_wp2
  go_ret
  exact ⟨rfl, HG3.out⟩

set_option maxRecDepth 100000 in
set_option maxHeartbeats 1000000 in
theorem may2 (S SC : Nat → Prop) (B : Nat) (G : PGraph) (nv ev rv iv : Value) (c : PCat) (o : POp) (w : World) (h : GraphOk 106 S w B G) (hG : GInv G) (hc : CatR SC w nv ev rv iv c) (hk : o.kind = 2) :
    Calls Tryz.prog 50 #[.pointer (some ⟨B, 0, none⟩), c.arg nv ev rv iv, o.args] w fun e w' => e = .returned (.int .i64 (mayG c o G)) ∧ Grow w w' := by
  have HGR := Lib.hid h; have HI := Lib.hid hG; have HC := Lib.hid hc
  obtain ⟨kind, id, typ, from_, to_, name, v, cascade⟩ := o
  subst hk
  obtain ⟨na, nc, ea, ec, ra, rc, ia, ic, rfl, rfl, rfl, rfl⟩ := hc.slices
  have HW := Lib.hid (show ∀ o1 o2, Grow w ((w.alloc o1).alloc o2) from fun o1 o2 => ((Grow.rfl' w).allocd o1).allocd o2)
  have HBX := Lib.hid (boxes w (.slice na c.nodes.length nc) (.slice ea c.edges.length ec) (.slice ra c.rules.length rc) (.slice ia c.indexes.length ic) c ⟨2, id, typ, from_, to_, name, v, cascade⟩)
  clear h hc hG
  go_enter Tryz.func50, Tryz.ntmps50
  go_wp2_with fail
  refine (acts2 _).mono ?_
  rintro e w2 ⟨rfl, hg⟩
  have HG2 := Lib.hid ((HW.out _ _).step hg)
  obtain ⟨hl1, k0, k1, k2, k3, k4⟩ := (HBX.out.1.grow hg).at
  obtain ⟨hl2, c0, c1, c2, c3, c4, c5, c6, c7, c8, c9⟩ := (HBX.out.2.grow hg).at
  clear hg
  go_wp2_with fail
  refine (mayDropNode S SC B G _ _ _ _ c ⟨2, id, typ, from_, to_, name, v, cascade⟩ _ (HGR.out.grow (HG2.out.allocd _)) HI.out (HC.out.grow (HG2.out.allocd _)) rfl).mono ?_
  rintro e w3 ⟨rfl, hg⟩
  have HG3 := Lib.hid ((HG2.out.allocd _).step hg)
  clear hg k0 k1 k2 k3 k4 c0 c1 c2 c3 c4 c5 c6 c7 c8 c9
  go_wp2
  go_ret
  exact ⟨rfl, HG3.out⟩

set_option maxRecDepth 100000 in
set_option maxHeartbeats 1000000 in
theorem may3 (S SC : Nat → Prop) (B : Nat) (G : PGraph) (nv ev rv iv : Value) (c : PCat) (o : POp) (w : World) (h : GraphOk 106 S w B G) (hG : GInv G) (hc : CatR SC w nv ev rv iv c) (hk : o.kind = 3) :
    Calls Tryz.prog 50 #[.pointer (some ⟨B, 0, none⟩), c.arg nv ev rv iv, o.args] w fun e w' => e = .returned (.int .i64 (mayG c o G)) ∧ Grow w w' := by
  have HGR := Lib.hid h; have HI := Lib.hid hG; have HC := Lib.hid hc
  obtain ⟨kind, id, typ, from_, to_, name, v, cascade⟩ := o
  subst hk
  obtain ⟨na, nc, ea, ec, ra, rc, ia, ic, rfl, rfl, rfl, rfl⟩ := hc.slices
  have HW := Lib.hid (show ∀ o1 o2, Grow w ((w.alloc o1).alloc o2) from fun o1 o2 => ((Grow.rfl' w).allocd o1).allocd o2)
  have HBX := Lib.hid (boxes w (.slice na c.nodes.length nc) (.slice ea c.edges.length ec) (.slice ra c.rules.length rc) (.slice ia c.indexes.length ic) c ⟨3, id, typ, from_, to_, name, v, cascade⟩)
  clear h hc hG
  go_enter Tryz.func50, Tryz.ntmps50
  go_wp2_with fail
  refine (acts3 _).mono ?_
  rintro e w2 ⟨rfl, hg⟩
  have HG2 := Lib.hid ((HW.out _ _).step hg)
  obtain ⟨hl1, k0, k1, k2, k3, k4⟩ := (HBX.out.1.grow hg).at
  obtain ⟨hl2, c0, c1, c2, c3, c4, c5, c6, c7, c8, c9⟩ := (HBX.out.2.grow hg).at
  clear hg
  go_wp2_with fail
  refine (mayAddEdge S SC B G _ _ _ _ c ⟨3, id, typ, from_, to_, name, v, cascade⟩ _ (HGR.out.grow (HG2.out.allocd _)) HI.out (HC.out.grow (HG2.out.allocd _)) rfl).mono ?_
  rintro e w3 ⟨rfl, hg⟩
  have HG3 := Lib.hid ((HG2.out.allocd _).step hg)
  clear hg k0 k1 k2 k3 k4 c0 c1 c2 c3 c4 c5 c6 c7 c8 c9
  go_wp2
  go_ret
  exact ⟨rfl, HG3.out⟩

set_option maxRecDepth 100000 in
set_option maxHeartbeats 1000000 in
theorem may4 (S SC : Nat → Prop) (B : Nat) (G : PGraph) (nv ev rv iv : Value) (c : PCat) (o : POp) (w : World) (h : GraphOk 106 S w B G) (hG : GInv G) (hc : CatR SC w nv ev rv iv c) (hk : o.kind = 4) :
    Calls Tryz.prog 50 #[.pointer (some ⟨B, 0, none⟩), c.arg nv ev rv iv, o.args] w fun e w' => e = .returned (.int .i64 (mayG c o G)) ∧ Grow w w' := by
  have HGR := Lib.hid h; have HI := Lib.hid hG; have HC := Lib.hid hc
  obtain ⟨kind, id, typ, from_, to_, name, v, cascade⟩ := o
  subst hk
  obtain ⟨na, nc, ea, ec, ra, rc, ia, ic, rfl, rfl, rfl, rfl⟩ := hc.slices
  have HW := Lib.hid (show ∀ o1 o2, Grow w ((w.alloc o1).alloc o2) from fun o1 o2 => ((Grow.rfl' w).allocd o1).allocd o2)
  have HBX := Lib.hid (boxes w (.slice na c.nodes.length nc) (.slice ea c.edges.length ec) (.slice ra c.rules.length rc) (.slice ia c.indexes.length ic) c ⟨4, id, typ, from_, to_, name, v, cascade⟩)
  clear h hc hG
  go_enter Tryz.func50, Tryz.ntmps50
  go_wp2_with fail
  refine (acts4 _).mono ?_
  rintro e w2 ⟨rfl, hg⟩
  have HG2 := Lib.hid ((HW.out _ _).step hg)
  obtain ⟨hl1, k0, k1, k2, k3, k4⟩ := (HBX.out.1.grow hg).at
  obtain ⟨hl2, c0, c1, c2, c3, c4, c5, c6, c7, c8, c9⟩ := (HBX.out.2.grow hg).at
  clear hg
  go_wp2_with fail
  refine (mayDropEdge S SC B G _ _ _ _ c ⟨4, id, typ, from_, to_, name, v, cascade⟩ _ (HGR.out.grow (HG2.out.allocd _)) HI.out (HC.out.grow (HG2.out.allocd _)) rfl).mono ?_
  rintro e w3 ⟨rfl, hg⟩
  have HG3 := Lib.hid ((HG2.out.allocd _).step hg)
  clear hg k0 k1 k2 k3 k4 c0 c1 c2 c3 c4 c5 c6 c7 c8 c9
  go_wp2
  go_ret
  exact ⟨rfl, HG3.out⟩

set_option maxRecDepth 100000 in
set_option maxHeartbeats 1000000 in
theorem may5 (S SC : Nat → Prop) (B : Nat) (G : PGraph) (nv ev rv iv : Value) (c : PCat) (o : POp) (w : World) (h : GraphOk 106 S w B G) (hG : GInv G) (hc : CatR SC w nv ev rv iv c) (hk : o.kind = 5) :
    Calls Tryz.prog 50 #[.pointer (some ⟨B, 0, none⟩), c.arg nv ev rv iv, o.args] w fun e w' => e = .returned (.int .i64 (mayG c o G)) ∧ Grow w w' := by
  have HGR := Lib.hid h; have HI := Lib.hid hG; have HC := Lib.hid hc
  obtain ⟨kind, id, typ, from_, to_, name, v, cascade⟩ := o
  subst hk
  obtain ⟨na, nc, ea, ec, ra, rc, ia, ic, rfl, rfl, rfl, rfl⟩ := hc.slices
  have HW := Lib.hid (show ∀ o1 o2, Grow w ((w.alloc o1).alloc o2) from fun o1 o2 => ((Grow.rfl' w).allocd o1).allocd o2)
  have HBX := Lib.hid (boxes w (.slice na c.nodes.length nc) (.slice ea c.edges.length ec) (.slice ra c.rules.length rc) (.slice ia c.indexes.length ic) c ⟨5, id, typ, from_, to_, name, v, cascade⟩)
  clear h hc hG
  go_enter Tryz.func50, Tryz.ntmps50
  go_wp2_with fail
  refine (acts5 _).mono ?_
  rintro e w2 ⟨rfl, hg⟩
  have HG2 := Lib.hid ((HW.out _ _).step hg)
  obtain ⟨hl1, k0, k1, k2, k3, k4⟩ := (HBX.out.1.grow hg).at
  obtain ⟨hl2, c0, c1, c2, c3, c4, c5, c6, c7, c8, c9⟩ := (HBX.out.2.grow hg).at
  clear hg
  go_wp2_with fail
  refine (maySetProp S SC B G _ _ _ _ c ⟨5, id, typ, from_, to_, name, v, cascade⟩ _ (HGR.out.grow (HG2.out.allocd _)) HI.out (HC.out.grow (HG2.out.allocd _)) rfl).mono ?_
  rintro e w3 ⟨rfl, hg⟩
  have HG3 := Lib.hid ((HG2.out.allocd _).step hg)
  clear hg k0 k1 k2 k3 k4 c0 c1 c2 c3 c4 c5 c6 c7 c8 c9
  go_wp2
  go_ret
  exact ⟨rfl, HG3.out⟩

set_option maxRecDepth 100000 in
set_option maxHeartbeats 1000000 in
theorem may0 (SC : Nat → Prop) (B : Nat) (G : PGraph) (nv ev rv iv : Value) (c : PCat) (o : POp) (w : World) (hc : CatR SC w nv ev rv iv c) (h1 : o.kind ≠ 1) (h2 : o.kind ≠ 2) (h3 : o.kind ≠ 3) (h4 : o.kind ≠ 4) (h5 : o.kind ≠ 5) :
    Calls Tryz.prog 50 #[.pointer (some ⟨B, 0, none⟩), c.arg nv ev rv iv, o.args] w fun e w' => e = .returned (.int .i64 (mayG c o G)) ∧ Grow w w' := by
  have HM := Lib.hid (show mayG c o G = 150 by unfold mayG; rw [if_neg h1, if_neg h2, if_neg h3, if_neg h4, if_neg h5])
  have HA := Lib.hid (fun w => acts0 o.kind w h1 h2 h3 h4 h5)
  obtain ⟨na, nc, ea, ec, ra, rc, ia, ic, rfl, rfl, rfl, rfl⟩ := hc.slices
  have HW := Lib.hid (show ∀ o1 o2, Grow w ((w.alloc o1).alloc o2) from fun o1 o2 => ((Grow.rfl' w).allocd o1).allocd o2)
  clear hc h1 h2 h3 h4 h5
  go_enter Tryz.func50, Tryz.ntmps50
  go_wp2_with fail
  refine (HA.out _).mono ?_
  rintro e w2 ⟨rfl, hg⟩
  have HG2 := Lib.hid ((HW.out _ _).step hg)
  clear hg
  go_wp2
  go_ret
  exact ⟨by rw [HM.out]; rfl, HG2.out.allocd _⟩

theorem graphMay (S SC : Nat → Prop) (B : Nat) (G : PGraph) (nv ev rv iv : Value) (c : PCat) (o : POp) (w : World) (h : GraphOk 106 S w B G) (hG : GInv G) (hc : CatR SC w nv ev rv iv c) :
    Calls Tryz.prog 50 #[.pointer (some ⟨B, 0, none⟩), c.arg nv ev rv iv, o.args] w fun e w' => e = .returned (.int .i64 (mayG c o G)) ∧ Grow w w' := by
  by_cases h1 : o.kind = 1
  · exact may1 S SC B G nv ev rv iv c o w h hG hc h1
  by_cases h2 : o.kind = 2
  · exact may2 S SC B G nv ev rv iv c o w h hG hc h2
  by_cases h3 : o.kind = 3
  · exact may3 S SC B G nv ev rv iv c o w h hG hc h3
  by_cases h4 : o.kind = 4
  · exact may4 S SC B G nv ev rv iv c o w h hG hc h4
  by_cases h5 : o.kind = 5
  · exact may5 S SC B G nv ev rv iv c o w h hG hc h5
  exact may0 SC B G nv ev rv iv c o w hc h1 h2 h3 h4 h5

def DoPost (S : Nat → Prop) (B : Nat) (G : PGraph) (c : PCat) (o : POp) (w : World) (e : Ending) (w' : World) : Prop :=
  e = .returned (.tuple #[.int .i64 (if mayG c o G = 0 then idG o G else 0), .int .i64 (mayG c o G)]) ∧ GraphOk 106 (fun b => S b ∨ w.heap.size ≤ b) w' B (stepG c o G) ∧ Mod S w w'

set_option maxRecDepth 100000 in
set_option maxHeartbeats 1000000 in
theorem doNo (S SC : Nat → Prop) (B : Nat) (G : PGraph) (nv ev rv iv : Value) (c : PCat) (o : POp) (w : World) (h : GraphOk 106 S w B G) (hG : GInv G) (hc : CatR SC w nv ev rv iv c) (hm : ¬ mayG c o G = 0) :
    Calls Tryz.prog 20 #[.pointer (some ⟨B, 0, none⟩), c.arg nv ev rv iv, o.args] w (DoPost S B G c o w) := by
  have HGR := Lib.hid h; have HI := Lib.hid hG; have HC := Lib.hid hc; have HM := Lib.hid hm
  obtain ⟨na, nc, ea, ec, ra, rc, ia, ic, rfl, rfl, rfl, rfl⟩ := hc.slices
  have HW := Lib.hid (show ∀ o1 o2, Grow w ((w.alloc o1).alloc o2) from fun o1 o2 => ((Grow.rfl' w).allocd o1).allocd o2)
  have hmb : (mayG c o G == 0) = false := by simpa using hm
  clear h hc hG
  go_enter Tryz.func20, Tryz.ntmps20
  go_wp2_with fail
  refine (graphMay S SC B G _ _ _ _ c o _ (HGR.out.grow (HW.out _ _)) HI.out (HC.out.grow (HW.out _ _))).mono ?_
  rintro e w2 ⟨rfl, hg⟩
  have HG2 := Lib.hid ((HW.out _ _).step hg)
  clear hg
  go_wp2
  go_ret2
  refine ⟨by rw [if_neg HM.out]; rfl, ?_, Mod.of_grow HG2.out⟩
  unfold stepG
  rw [if_neg HM.out]
  exact (HGR.out.grow HG2.out).sub (fun b hb => .inl hb)

theorem may_full1 {c : PCat} {G : PGraph} {id from_ to_ : Int} {typ name : ByteArray} {v : PVal} {cascade : Bool} (h : mayG c ⟨1, id, typ, from_, to_, name, v, cascade⟩ G = 0) : fullG G = false := by
  unfold mayG at h
  cases hf : fullG G
  · rfl
  · simp only [hf] at h
    simp at h
    split at h <;> simp at h
set_option maxRecDepth 100000 in
set_option maxHeartbeats 1000000 in
theorem do1 (S SC : Nat → Prop) (B : Nat) (G : PGraph) (nv ev rv iv : Value) (c : PCat) (o : POp) (w : World) (h : GraphOk 106 S w B G) (hG : GInv G) (hc : CatR SC w nv ev rv iv c) (hm : mayG c o G = 0) (hk : o.kind = 1) :
    Calls Tryz.prog 20 #[.pointer (some ⟨B, 0, none⟩), c.arg nv ev rv iv, o.args] w (DoPost S B G c o w) := by
  have HGR := Lib.hid h; have HI := Lib.hid hG; have HC := Lib.hid hc
  obtain ⟨kind, id, typ, from_, to_, name, v, cascade⟩ := o
  subst hk
  have HM := Lib.hid hm
  obtain ⟨na, nc, ea, ec, ra, rc, ia, ic, rfl, rfl, rfl, rfl⟩ := hc.slices
  have HW := Lib.hid (show ∀ o1 o2, Grow w ((w.alloc o1).alloc o2) from fun o1 o2 => ((Grow.rfl' w).allocd o1).allocd o2)
  have HBX := Lib.hid (boxes w (.slice na c.nodes.length nc) (.slice ea c.edges.length ec) (.slice ra c.rules.length rc) (.slice ia c.indexes.length ic) c ⟨1, id, typ, from_, to_, name, v, cascade⟩)
  clear h hc hG hm
  go_enter Tryz.func20, Tryz.ntmps20
  go_wp2_with fail
  refine (graphMay S SC B G _ _ _ _ c ⟨1, id, typ, from_, to_, name, v, cascade⟩ _ (HGR.out.grow (HW.out _ _)) HI.out (HC.out.grow (HW.out _ _))).mono ?_
  rintro e w2 ⟨rfl, hg⟩
  rw [HM.out]
  have HG2 := Lib.hid ((HW.out _ _).step hg)
  have HOP2 := Lib.hid (HBX.out.2.grow hg)
  obtain ⟨hl2, c0, -⟩ := HOP2.out.at
  clear hg
  go_wp2_with fail
  refine (acts1 _).mono ?_
  rintro e w3 ⟨rfl, hg⟩
  have HG3 := Lib.hid (HG2.out.step hg)
  clear hl2 c0
  obtain ⟨hl2, c0, c1, c2, c3, c4, c5, c6, c7, c8, c9⟩ := (HOP2.out.grow hg).at
  clear hg
  go_wp2_with fail
  refine (addNode S B G ⟨1, id, typ, from_, to_, name, v, cascade⟩ _ (HGR.out.grow (HG3.out.allocd _)) HI.out (may_full1 HM.out)).mono ?_
  rintro e w4 ⟨rfl, hgr, hmd⟩
  have HGR4 := Lib.hid hgr; have HMD := Lib.hid ((Mod.of_grow (HG3.out.allocd _)).step hmd)
  clear hgr hmd c0 c1 c2 c3 c4 c5 c6 c7 c8 c9
  go_wp2
  go_ret2
  refine ⟨by rw [if_pos HM.out, HM.out]; rfl, ?_, HMD.out⟩
  unfold stepG
  rw [if_pos HM.out]
  exact HGR4.out.sub (fun b hb => hb.imp (fun x => x) (fun h => Nat.le_trans (HG3.out.allocd _).size h))

theorem may_has2 {c : PCat} {G : PGraph} {id from_ to_ : Int} {typ name : ByteArray} {v : PVal} {cascade : Bool} (h : mayG c ⟨2, id, typ, from_, to_, name, v, cascade⟩ G = 0) : hasN G id = true := by
  unfold mayG at h
  cases hf : hasN G id
  · simp [hf] at h
  · rfl
set_option maxRecDepth 100000 in
set_option maxHeartbeats 1000000 in
theorem do2 (S SC : Nat → Prop) (B : Nat) (G : PGraph) (nv ev rv iv : Value) (c : PCat) (o : POp) (w : World) (h : GraphOk 106 S w B G) (hG : GInv G) (hc : CatR SC w nv ev rv iv c) (hm : mayG c o G = 0) (hk : o.kind = 2) :
    Calls Tryz.prog 20 #[.pointer (some ⟨B, 0, none⟩), c.arg nv ev rv iv, o.args] w (DoPost S B G c o w) := by
  have HGR := Lib.hid h; have HI := Lib.hid hG; have HC := Lib.hid hc
  obtain ⟨kind, id, typ, from_, to_, name, v, cascade⟩ := o
  subst hk
  have HM := Lib.hid hm
  obtain ⟨na, nc, ea, ec, ra, rc, ia, ic, rfl, rfl, rfl, rfl⟩ := hc.slices
  have HW := Lib.hid (show ∀ o1 o2, Grow w ((w.alloc o1).alloc o2) from fun o1 o2 => ((Grow.rfl' w).allocd o1).allocd o2)
  have HBX := Lib.hid (boxes w (.slice na c.nodes.length nc) (.slice ea c.edges.length ec) (.slice ra c.rules.length rc) (.slice ia c.indexes.length ic) c ⟨2, id, typ, from_, to_, name, v, cascade⟩)
  clear h hc hG hm
  go_enter Tryz.func20, Tryz.ntmps20
  go_wp2_with fail
  refine (graphMay S SC B G _ _ _ _ c ⟨2, id, typ, from_, to_, name, v, cascade⟩ _ (HGR.out.grow (HW.out _ _)) HI.out (HC.out.grow (HW.out _ _))).mono ?_
  rintro e w2 ⟨rfl, hg⟩
  rw [HM.out]
  have HG2 := Lib.hid ((HW.out _ _).step hg)
  have HOP2 := Lib.hid (HBX.out.2.grow hg)
  obtain ⟨hl2, c0, -⟩ := HOP2.out.at
  clear hg
  go_wp2_with fail
  refine (acts2 _).mono ?_
  rintro e w3 ⟨rfl, hg⟩
  have HG3 := Lib.hid (HG2.out.step hg)
  clear hl2 c0
  obtain ⟨hl2, c0, c1, c2, c3, c4, c5, c6, c7, c8, c9⟩ := (HOP2.out.grow hg).at
  clear hg
  go_wp2_with fail
  refine (dropNode S B G ⟨2, id, typ, from_, to_, name, v, cascade⟩ _ (HGR.out.grow (HG3.out.allocd _)) HI.out (may_has2 HM.out)).mono ?_
  rintro e w4 ⟨rfl, hgr, hmd⟩
  have HGR4 := Lib.hid hgr; have HMD := Lib.hid ((Mod.of_grow (HG3.out.allocd _)).step hmd)
  clear hgr hmd c0 c1 c2 c3 c4 c5 c6 c7 c8 c9
  go_wp2
  go_ret2
  refine ⟨by rw [if_pos HM.out, HM.out]; rfl, ?_, HMD.out⟩
  unfold stepG
  rw [if_pos HM.out]
  exact HGR4.out.sub (fun b hb => .inl hb)

theorem may_full3 {c : PCat} {G : PGraph} {id from_ to_ : Int} {typ name : ByteArray} {v : PVal} {cascade : Bool} (h : mayG c ⟨3, id, typ, from_, to_, name, v, cascade⟩ G = 0) : fullG G = false := by
  unfold mayG at h
  cases hf : fullG G
  · rfl
  · simp only [hf] at h
    simp at h
    repeat (first | (split at h) | (simp at h))
set_option maxRecDepth 100000 in
set_option maxHeartbeats 1000000 in
theorem do3 (S SC : Nat → Prop) (B : Nat) (G : PGraph) (nv ev rv iv : Value) (c : PCat) (o : POp) (w : World) (h : GraphOk 106 S w B G) (hG : GInv G) (hc : CatR SC w nv ev rv iv c) (hm : mayG c o G = 0) (hk : o.kind = 3) :
    Calls Tryz.prog 20 #[.pointer (some ⟨B, 0, none⟩), c.arg nv ev rv iv, o.args] w (DoPost S B G c o w) := by
  have HGR := Lib.hid h; have HI := Lib.hid hG; have HC := Lib.hid hc
  obtain ⟨kind, id, typ, from_, to_, name, v, cascade⟩ := o
  subst hk
  have HM := Lib.hid hm
  obtain ⟨na, nc, ea, ec, ra, rc, ia, ic, rfl, rfl, rfl, rfl⟩ := hc.slices
  have HW := Lib.hid (show ∀ o1 o2, Grow w ((w.alloc o1).alloc o2) from fun o1 o2 => ((Grow.rfl' w).allocd o1).allocd o2)
  have HBX := Lib.hid (boxes w (.slice na c.nodes.length nc) (.slice ea c.edges.length ec) (.slice ra c.rules.length rc) (.slice ia c.indexes.length ic) c ⟨3, id, typ, from_, to_, name, v, cascade⟩)
  clear h hc hG hm
  go_enter Tryz.func20, Tryz.ntmps20
  go_wp2_with fail
  refine (graphMay S SC B G _ _ _ _ c ⟨3, id, typ, from_, to_, name, v, cascade⟩ _ (HGR.out.grow (HW.out _ _)) HI.out (HC.out.grow (HW.out _ _))).mono ?_
  rintro e w2 ⟨rfl, hg⟩
  rw [HM.out]
  have HG2 := Lib.hid ((HW.out _ _).step hg)
  have HOP2 := Lib.hid (HBX.out.2.grow hg)
  obtain ⟨hl2, c0, -⟩ := HOP2.out.at
  clear hg
  go_wp2_with fail
  refine (acts3 _).mono ?_
  rintro e w3 ⟨rfl, hg⟩
  have HG3 := Lib.hid (HG2.out.step hg)
  clear hl2 c0
  obtain ⟨hl2, c0, c1, c2, c3, c4, c5, c6, c7, c8, c9⟩ := (HOP2.out.grow hg).at
  clear hg
  go_wp2_with fail
  refine (addEdge S B G ⟨3, id, typ, from_, to_, name, v, cascade⟩ _ (HGR.out.grow (HG3.out.allocd _)) HI.out (may_full3 HM.out)).mono ?_
  rintro e w4 ⟨rfl, hgr, hmd⟩
  have HGR4 := Lib.hid hgr; have HMD := Lib.hid ((Mod.of_grow (HG3.out.allocd _)).step hmd)
  clear hgr hmd c0 c1 c2 c3 c4 c5 c6 c7 c8 c9
  go_wp2
  go_ret2
  refine ⟨by rw [if_pos HM.out, HM.out]; rfl, ?_, HMD.out⟩
  unfold stepG
  rw [if_pos HM.out]
  exact HGR4.out.sub (fun b hb => hb.imp (fun x => x) (fun h => Nat.le_trans (HG3.out.allocd _).size h))

theorem may_has4 {c : PCat} {G : PGraph} {id from_ to_ : Int} {typ name : ByteArray} {v : PVal} {cascade : Bool} (h : mayG c ⟨4, id, typ, from_, to_, name, v, cascade⟩ G = 0) : hasE G id = true := by
  unfold mayG at h
  cases hf : hasE G id
  · simp [hf] at h
  · rfl
set_option maxRecDepth 100000 in
set_option maxHeartbeats 1000000 in
theorem do4 (S SC : Nat → Prop) (B : Nat) (G : PGraph) (nv ev rv iv : Value) (c : PCat) (o : POp) (w : World) (h : GraphOk 106 S w B G) (hG : GInv G) (hc : CatR SC w nv ev rv iv c) (hm : mayG c o G = 0) (hk : o.kind = 4) :
    Calls Tryz.prog 20 #[.pointer (some ⟨B, 0, none⟩), c.arg nv ev rv iv, o.args] w (DoPost S B G c o w) := by
  have HGR := Lib.hid h; have HI := Lib.hid hG; have HC := Lib.hid hc
  obtain ⟨kind, id, typ, from_, to_, name, v, cascade⟩ := o
  subst hk
  have HM := Lib.hid hm
  obtain ⟨na, nc, ea, ec, ra, rc, ia, ic, rfl, rfl, rfl, rfl⟩ := hc.slices
  have HW := Lib.hid (show ∀ o1 o2, Grow w ((w.alloc o1).alloc o2) from fun o1 o2 => ((Grow.rfl' w).allocd o1).allocd o2)
  have HBX := Lib.hid (boxes w (.slice na c.nodes.length nc) (.slice ea c.edges.length ec) (.slice ra c.rules.length rc) (.slice ia c.indexes.length ic) c ⟨4, id, typ, from_, to_, name, v, cascade⟩)
  clear h hc hG hm
  go_enter Tryz.func20, Tryz.ntmps20
  go_wp2_with fail
  refine (graphMay S SC B G _ _ _ _ c ⟨4, id, typ, from_, to_, name, v, cascade⟩ _ (HGR.out.grow (HW.out _ _)) HI.out (HC.out.grow (HW.out _ _))).mono ?_
  rintro e w2 ⟨rfl, hg⟩
  rw [HM.out]
  have HG2 := Lib.hid ((HW.out _ _).step hg)
  have HOP2 := Lib.hid (HBX.out.2.grow hg)
  obtain ⟨hl2, c0, -⟩ := HOP2.out.at
  clear hg
  go_wp2_with fail
  refine (acts4 _).mono ?_
  rintro e w3 ⟨rfl, hg⟩
  have HG3 := Lib.hid (HG2.out.step hg)
  clear hl2 c0
  obtain ⟨hl2, c0, c1, c2, c3, c4, c5, c6, c7, c8, c9⟩ := (HOP2.out.grow hg).at
  clear hg
  go_wp2_with fail
  refine (dropEdge S B G ⟨4, id, typ, from_, to_, name, v, cascade⟩ _ (HGR.out.grow (HG3.out.allocd _)) HI.out (may_has4 HM.out)).mono ?_
  rintro e w4 ⟨rfl, hgr, hmd⟩
  have HGR4 := Lib.hid hgr; have HMD := Lib.hid ((Mod.of_grow (HG3.out.allocd _)).step hmd)
  clear hgr hmd c0 c1 c2 c3 c4 c5 c6 c7 c8 c9
  go_wp2
  go_ret2
  refine ⟨by rw [if_pos HM.out, HM.out]; rfl, ?_, HMD.out⟩
  unfold stepG
  rw [if_pos HM.out]
  exact HGR4.out.sub (fun b hb => .inl hb)

theorem may_find5 {c : PCat} {G : PGraph} {id from_ to_ : Int} {typ name : ByteArray} {v : PVal} {cascade : Bool} (h : mayG c ⟨5, id, typ, from_, to_, name, v, cascade⟩ G = 0) : ∃ ps, findP G id = some ps := by
  unfold mayG at h
  cases hf : findP G id
  · simp [hf] at h
    split at h <;> simp at h
  · exact ⟨_, rfl⟩
set_option maxRecDepth 100000 in
set_option maxHeartbeats 1000000 in
theorem do5 (S SC : Nat → Prop) (B : Nat) (G : PGraph) (nv ev rv iv : Value) (c : PCat) (o : POp) (w : World) (h : GraphOk 106 S w B G) (hG : GInv G) (hc : CatR SC w nv ev rv iv c) (hm : mayG c o G = 0) (hk : o.kind = 5) :
    Calls Tryz.prog 20 #[.pointer (some ⟨B, 0, none⟩), c.arg nv ev rv iv, o.args] w (DoPost S B G c o w) := by
  have HGR := Lib.hid h; have HI := Lib.hid hG; have HC := Lib.hid hc
  obtain ⟨kind, id, typ, from_, to_, name, v, cascade⟩ := o
  subst hk
  have HM := Lib.hid hm
  obtain ⟨ps, hps⟩ := may_find5 hm
  have HPS := Lib.hid hps; clear hps
  obtain ⟨na, nc, ea, ec, ra, rc, ia, ic, rfl, rfl, rfl, rfl⟩ := hc.slices
  have HW := Lib.hid (show ∀ o1 o2, Grow w ((w.alloc o1).alloc o2) from fun o1 o2 => ((Grow.rfl' w).allocd o1).allocd o2)
  have HBX := Lib.hid (boxes w (.slice na c.nodes.length nc) (.slice ea c.edges.length ec) (.slice ra c.rules.length rc) (.slice ia c.indexes.length ic) c ⟨5, id, typ, from_, to_, name, v, cascade⟩)
  clear h hc hG hm
  go_enter Tryz.func20, Tryz.ntmps20
  go_wp2_with fail
  refine (graphMay S SC B G _ _ _ _ c ⟨5, id, typ, from_, to_, name, v, cascade⟩ _ (HGR.out.grow (HW.out _ _)) HI.out (HC.out.grow (HW.out _ _))).mono ?_
  rintro e w2 ⟨rfl, hg⟩
  rw [HM.out]
  have HG2 := Lib.hid ((HW.out _ _).step hg)
  have HOP2 := Lib.hid (HBX.out.2.grow hg)
  obtain ⟨hl2, c0, -⟩ := HOP2.out.at
  clear hg
  go_wp2_with fail
  refine (acts5 _).mono ?_
  rintro e w3 ⟨rfl, hg⟩
  have HG3 := Lib.hid (HG2.out.step hg)
  clear hl2 c0
  obtain ⟨hl2, c0, c1, c2, c3, c4, c5, c6, c7, c8, c9⟩ := (HOP2.out.grow hg).at
  clear hg
  go_wp2_with fail
  refine (setProp S B G ⟨5, id, typ, from_, to_, name, v, cascade⟩ ps _ (HGR.out.grow (HG3.out.allocd _)) HI.out HPS.out).mono ?_
  rintro e w4 ⟨rfl, hgr, hmd⟩
  have HGR4 := Lib.hid hgr; have HMD := Lib.hid ((Mod.of_grow (HG3.out.allocd _)).step hmd)
  clear hgr hmd c0 c1 c2 c3 c4 c5 c6 c7 c8 c9
  go_wp2
  go_ret2
  refine ⟨by rw [if_pos HM.out, HM.out]; rfl, ?_, HMD.out⟩
  unfold stepG
  rw [if_pos HM.out]
  exact HGR4.out.sub (fun b hb => hb.imp (fun x => x) (fun h => Nat.le_trans (HG3.out.allocd _).size h))

theorem may_kind {c : PCat} {o : POp} {G : PGraph} (h : mayG c o G = 0) : o.kind = 1 ∨ o.kind = 2 ∨ o.kind = 3 ∨ o.kind = 4 ∨ o.kind = 5 := by
  by_cases h1 : o.kind = 1
  · exact .inl h1
  by_cases h2 : o.kind = 2
  · exact .inr (.inl h2)
  by_cases h3 : o.kind = 3
  · exact .inr (.inr (.inl h3))
  by_cases h4 : o.kind = 4
  · exact .inr (.inr (.inr (.inl h4)))
  by_cases h5 : o.kind = 5
  · exact .inr (.inr (.inr (.inr h5)))
  unfold mayG at h
  rw [if_neg h1, if_neg h2, if_neg h3, if_neg h4, if_neg h5] at h
  simp at h
theorem graphDo (S SC : Nat → Prop) (B : Nat) (G : PGraph) (nv ev rv iv : Value) (c : PCat) (o : POp) (w : World) (h : GraphOk 106 S w B G) (hG : GInv G) (hc : CatR SC w nv ev rv iv c) :
    Calls Tryz.prog 20 #[.pointer (some ⟨B, 0, none⟩), c.arg nv ev rv iv, o.args] w (DoPost S B G c o w) := by
  by_cases hm : mayG c o G = 0
  · rcases may_kind hm with hk | hk | hk | hk | hk
    · exact do1 S SC B G nv ev rv iv c o w h hG hc hm hk
    · exact do2 S SC B G nv ev rv iv c o w h hG hc hm hk
    · exact do3 S SC B G nv ev rv iv c o w h hG hc hm hk
    · exact do4 S SC B G nv ev rv iv c o w h hG hc hm hk
    · exact do5 S SC B G nv ev rv iv c o w h hG hc hm hk
  · exact doNo S SC B G nv ev rv iv c o w h hG hc hm
end Go.Hg
