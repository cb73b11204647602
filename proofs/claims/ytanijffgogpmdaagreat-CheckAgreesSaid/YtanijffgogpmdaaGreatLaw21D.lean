/- law21.CheckAgrees: returns true. No condition. Printed by gen21d.py. -/
import Derived.Test.YtanijffgogpmdaaGreatLaw21B
import Derived.Deep.DeepCutAuto
namespace Go.Hg
open Go.RowKit Go.Proofs

/-- what takes away what breaks a rule -/
def dropOp (r : PRule) (x : Int) : POp := if r.kind = 3 then ⟨4, x, ByteArray.empty, 0, 0, ByteArray.empty, ⟨0, 0, ByteArray.empty⟩, false⟩ else ⟨2, x, ByteArray.empty, 0, 0, ByteArray.empty, ⟨0, 0, ByteArray.empty⟩, true⟩
def dropsG (r : PRule) (G : PGraph) (l : List Int) : PGraph := l.foldl (fun G x => stepG typesC (dropOp r x) G) G
theorem dropsG_snoc (r : PRule) (G : PGraph) (l : List Int) (x : Int) : dropsG r G (l ++ [x]) = stepG typesC (dropOp r x) (dropsG r G l) := by simp [dropsG]
theorem dropsG_inv {r : PRule} {G : PGraph} (h : GInv G) (l : List Int) : GInv (dropsG r G l) := by
  unfold dropsG
  induction l generalizing G with
  | nil => exact h
  | cons a t ih => exact ih h.stepG
theorem dropsG_good {r : PRule} {G : PGraph} (h : goodG G = true) (l : List Int) : goodG (dropsG r G l) = true := by
  unfold dropsG
  induction l generalizing G with
  | nil => exact h
  | cons a t ih => exact ih (goodG_step typesC_names h)
theorem mem_dec_append (a : Int) (l : List Int) (x : Int) : decide (a ∈ l ++ [x]) = (decide (a ∈ l) || decide (a = x)) := by
  rw [Bool.eq_iff_iff]
  simp
theorem without_snoc (N : List PNode) (E : List PEdge) (r : PRule) (l : List Int) (x : Int) : withoutR N E r (l ++ [x]) =
    if r.kind = 3 then ((withoutR N E r l).1, (withoutR N E r l).2.filter fun e => !decide (e.id = x)) else ((withoutR N E r l).1.filter fun n => !decide (n.id = x), (withoutR N E r l).2.filter fun e => !(decide (e.from_ = x) || decide (e.to_ = x))) := by
  unfold withoutR
  by_cases hk : r.kind = 3
  · rw [if_pos hk, if_pos hk, if_pos hk]
    simp only [List.filter_filter, mem_dec_append, Bool.not_or]
    refine Prod.ext rfl (List.filter_congr fun e _ => ?_)
    exact Bool.and_comm _ _
  · rw [if_neg hk, if_neg hk, if_neg hk]
    simp only [List.filter_filter, mem_dec_append, Bool.not_or]
    refine Prod.ext (List.filter_congr fun e _ => Bool.and_comm _ _) (List.filter_congr fun e _ => ?_)
    cases decide (e.from_ ∈ l) <;> cases decide (e.to_ ∈ l) <;> cases decide (e.from_ = x) <;> cases decide (e.to_ = x) <;> rfl
theorem atE_or (e : PEdge) (x : Int) : atE e x = (decide (e.from_ = x) || decide (e.to_ = x)) := by
  unfold atE
  rw [Bool.eq_iff_iff]
  simp
/-- the dropped graph, by what is left -/
theorem drops_ok {G : PGraph} {r : PRule} {L : List Int} (_ : GInv G) (hf : formR r = true) (hb : BrokenR G.nodes G.edges r L) (hn : L.Nodup) (hends : ∀ e ∈ G.edges, ∃ x ∈ G.nodes, x.id = e.from_) :
    ∀ k, k ≤ L.length → (dropsG r G (L.take k)).nodes = (withoutR G.nodes G.edges r (L.take k)).1 ∧ (dropsG r G (L.take k)).edges = (withoutR G.nodes G.edges r (L.take k)).2 ∧ ∀ (hk : k < L.length), mayG typesC (dropOp r L[k]) (dropsG r G (L.take k)) = 0 := by
  have start : (dropsG r G []).nodes = (withoutR G.nodes G.edges r []).1 ∧ (dropsG r G []).edges = (withoutR G.nodes G.edges r []).2 := by
    unfold dropsG withoutR
    by_cases hk : r.kind = 3
    · rw [if_pos hk]; simp; exact (List.filter_eq_self.2 fun _ _ => rfl).symm
    · rw [if_neg hk]; simp; exact ⟨(List.filter_eq_self.2 fun _ _ => rfl).symm, (List.filter_eq_self.2 fun _ _ => rfl).symm⟩
  have may : ∀ k (hk : k < L.length), (dropsG r G (L.take k)).nodes = (withoutR G.nodes G.edges r (L.take k)).1 → (dropsG r G (L.take k)).edges = (withoutR G.nodes G.edges r (L.take k)).2 → mayG typesC (dropOp r L[k]) (dropsG r G (L.take k)) = 0 := by
    intro k hk h1 h2
    have hnot : L[k] ∉ L.take k := by
      intro hm
      obtain ⟨j, hj, e⟩ := List.mem_take_iff_getElem.1 hm
      exact List.pairwise_iff_getElem.1 hn j k (by omega) hk (by omega) e
    have hth := hb.there hf hends L[k] (List.getElem_mem hk)
    by_cases h3 : r.kind = 3
    · rw [if_pos h3] at hth
      obtain ⟨e, he, hid⟩ := hth
      have hE : hasE (dropsG r G (L.take k)) L[k] = true := by
        unfold hasE
        rw [h2]
        unfold withoutR
        rw [if_pos h3]
        exact List.any_eq_true.2 ⟨e, List.mem_filter.2 ⟨he, by rw [hid]; simpa using hnot⟩, by simpa using hid⟩
      unfold mayG dropOp
      rw [if_pos h3]
      simp [hE]
    · rw [if_neg h3] at hth
      obtain ⟨e, he, hid⟩ := hth
      have hN : hasN (dropsG r G (L.take k)) L[k] = true := by
        unfold hasN
        rw [h1]
        unfold withoutR
        rw [if_neg h3]
        exact List.any_eq_true.2 ⟨e, List.mem_filter.2 ⟨he, by rw [hid]; simpa using hnot⟩, by simpa using hid⟩
      unfold mayG dropOp
      rw [if_neg h3]
      simp [hN]
  intro k
  induction k with
  | zero => exact fun _ => ⟨start.1, start.2, fun hk => may 0 hk start.1 start.2⟩
  | succ k ih =>
    intro hk
    obtain ⟨h1, h2, h3⟩ := ih (by omega)
    have hm := h3 (by omega)
    have hT : L.take (k + 1) = L.take k ++ [L[k]] := List.take_succ_eq_append_getElem (by omega)
    have hS : dropsG r G (L.take (k + 1)) = doG (dropOp r L[k]) (dropsG r G (L.take k)) := by
      rw [hT, dropsG_snoc]
      unfold stepG
      rw [if_pos hm]
    have key : (dropsG r G (L.take (k + 1))).nodes = (withoutR G.nodes G.edges r (L.take (k + 1))).1 ∧ (dropsG r G (L.take (k + 1))).edges = (withoutR G.nodes G.edges r (L.take (k + 1))).2 := by
      rw [hS, hT, without_snoc]
      by_cases h4 : r.kind = 3
      · rw [if_pos h4, ← h1, ← h2]
        unfold doG dropOp dropEdgeG
        rw [if_pos h4]
        exact ⟨rfl, rfl⟩
      · rw [if_neg h4, ← h1, ← h2]
        unfold doG dropOp dropNodeG
        rw [if_neg h4]
        simp only [atE_or]
        exact ⟨rfl, rfl⟩
    exact ⟨key.1, key.2, fun hk => may (k + 1) hk key.1 key.2⟩
theorem drops_all {G : PGraph} {r : PRule} {L : List Int} (hG : GInv G) (hf : formR r = true) (hb : BrokenR G.nodes G.edges r L) (hn : L.Nodup) (hends : ∀ e ∈ G.edges, ∃ x ∈ G.nodes, x.id = e.from_) :
    BrokenR (dropsG r G L).nodes (dropsG r G L).edges r [] := by
  have h := drops_ok hG hf hb hn hends L.length (Nat.le_refl _)
  rw [List.take_length] at h
  rw [h.1, h.2.1]
  exact hb.without hf
theorem ends_from {G : PGraph} (hg : goodG G = true) : ∀ e ∈ G.edges, ∃ x ∈ G.nodes, x.id = e.from_ := by
  obtain ⟨hi, hx⟩ := goodG_iff.1 hg
  intro e he
  exact hasN_true.1 (hx.edges e he).2.1
/-- a change of a graph whose blocks are of P -/
def GraphP (P : Nat → Prop) (w : World) (B : Nat) (G : PGraph) : Prop := ∃ S : Nat → Prop, GraphOk 120 S w B G ∧ ∀ b, S b → P b
theorem GraphP.grow {P : Nat → Prop} {w w' : World} {B : Nat} {G : PGraph} (h : GraphP P w B G) (g : Grow w w') : GraphP P w' B G := by
  obtain ⟨S, h1, h2⟩ := h
  exact ⟨S, h1.grow g, h2⟩
theorem doP (P SC : Nat → Prop) (B : Nat) (G : PGraph) (nv ev rv iv : Value) (c : PCat) (o : POp) (w0 w : World) (h : GraphP P w0 B G) (g : Grow w0 w) (hP : ∀ b, w.heap.size ≤ b → P b) (hG : GInv G) (hc : CatR SC w nv ev rv iv c) :
    Calls Tryz.prog 22 #[.pointer (some ⟨B, 0, none⟩), c.arg nv ev rv iv, o.args] w fun e w' =>
      e = .returned (.tuple #[.int .i64 (if mayG c o G = 0 then idG o G else 0), .int .i64 (mayG c o G)]) ∧ GraphP P w' B (stepG c o G) ∧ Mod (fun b => P b ∧ b < w0.heap.size) w w' := by
  obtain ⟨S, h1, h2⟩ := h
  exact (graphDo _ SC B G nv ev rv iv c o w (h1.cut.grow g) hG hc).mono fun e w' ⟨k1, k2, k3⟩ => ⟨k1, ⟨_, k2, fun b hb => hb.elim (fun h => h2 b h.1) (hP b)⟩, k3.mono fun b hb => ⟨h2 b hb.1, hb.2⟩⟩
theorem len_zero (L : List Int) : ((L.length : Int) == 0) = decide (L = []) := by
  rw [int_beq]
  cases L with
  | nil => rfl
  | cons a t => exact decide_eq_decide.2 ⟨fun h => by simp at h; omega, fun h => by cases h⟩

set_option maxRecDepth 100000 in
set_option maxHeartbeats 16000000 in
theorem law21Agrees (S : Nat → Prop) (v : Value) (l : List POp) (r : PRule) (w : World) (hl : OpsR S w v l) :
    Calls Tryz.prog 4 #[v, r.args] w fun e w' => e = .returned (.bool true) ∧ Grow w w' := by
  have HL := Lib.hid hl
  obtain ⟨_, _, rfl, _⟩ := SlR.open hl
  have HW := Lib.hid (show ∀ o1, Grow w (w.alloc o1) from fun o1 => (Grow.rfl' w).allocd o1)
  have HRN := Lib.hid (fun w' => ruleBoxNew w r w')
  clear hl
  go_enter Tryz.func4, Tryz.ntmps4
  go_wp2_with fail
  refine (lawMade S _ l _ (HL.out.growS (HW.out _))).mono ?_
  intro e w2 h2
  rcases h2 with ⟨-, rfl, g2⟩ | ⟨-, B1, B2, rfl, hpr⟩
  · have HG2 := Lib.hid ((HW.out _).step g2)
    clear g2
    go_wp2_with fail
    refine (law21Wakes w2).mono ?_
    rintro e w3 ⟨rfl, g3⟩
    have HG3 := Lib.hid (HG2.out.step g3)
    clear g3
    go_wp2
    go_ret
    exact ⟨rfl, HG3.out⟩
  have hgd0 : goodG (madeG l) = true := madeK_good _ _
  have hi0 : GInv (madeG l) := madeK_inv _ _
  generalize madeG l = G at *
  have HGD := Lib.hid hgd0; have HI := Lib.hid hi0
  obtain ⟨S1, S2, hok, -, -, hs1, -, g2⟩ := hpr
  have HG2 := Lib.hid ((HW.out _).step g2)
  have HR2 := Lib.hid (HRN.out w2 g2)
  have HOK := Lib.hid hok; have HS1 := Lib.hid hs1
  have hsz2 : w.heap.size < w2.heap.size := blk_lt HR2.out
  clear g2 hok hs1 hgd0 hi0
  obtain ⟨hrl, c1, c2, c3, c4, c5, c6, c7, c0⟩ := HR2.out.cells
  go_wp2_with fail
  refine (keepLargeRule r w2).mono ?_
  rintro e w3 ⟨b, rfl, g3⟩
  have HG3 := Lib.hid (HG2.out.step g3); have HG23 := Lib.hid g3
  have HR3 := Lib.hid (HR2.out.grow g3)
  clear g3 hrl c1 c2 c3 c4 c5 c6 c7 c0
  cases b
  rotate_left 1
  · go_wp2_with fail
    refine (law21Wakes w3).mono ?_
    rintro e w4 ⟨rfl, g4⟩
    have HG4 := Lib.hid (HG3.out.step g4)
    clear g4
    go_wp2
    go_ret
    exact ⟨rfl, HG4.out⟩
  obtain ⟨hrl, c1, c2, c3, c4, c5, c6, c7, c0⟩ := HR3.out.cells
  go_wp2_with fail
  refine (refForm r w3).mono ?_
  rintro e w4 ⟨rfl, g4⟩
  obtain ⟨bf, hbf⟩ : ∃ b, formR r = b := ⟨_, rfl⟩
  have HF := Lib.hid hbf
  rw [hbf]
  have HG4 := Lib.hid (HG3.out.step g4); have HG24 := Lib.hid (HG23.out.step g4)
  have HR4 := Lib.hid (HR3.out.grow g4)
  clear g4 hbf hrl c1 c2 c3 c4 c5 c6 c7 c0
  cases bf
  · go_wp2_with fail
    refine (law21Wakes w4).mono ?_
    rintro e w5 ⟨rfl, g5⟩
    have HG5 := Lib.hid (HG4.out.step g5)
    clear g5
    go_wp2
    go_ret
    exact ⟨rfl, HG5.out⟩
  have HB1 := Lib.hid (show G.nodes.length ≤ 4096 by have := HI.out.items; omega)
  have HB2 := Lib.hid (show G.edges.length ≤ 4096 by have := HI.out.items; omega)
  have H64 := Lib.hid (ends64f HGD.out)
  have HGA := Lib.hid (gAt_of HOK.out.rd HI.out); have HGN := Lib.hid (gNode_of HOK.out.rd HI.out)
  obtain ⟨hrl, c1, c2, c3, c4, c5, c6, c7, c0⟩ := HR4.out.cells
  go_wp2_with fail
  refine (checkBroken _ G.nodes G.edges r w4 (HGA.out.grow HG24.out) (HGN.out.grow HG24.out) HB1.out HB2.out H64.out).mono ?_
  rintro e w5 ⟨v5, L, rfl, hL, hv5, g5⟩
  have HBR := Lib.hid hL
  have HLP := Lib.hid (rises_nodup (hL.nodup HI.out.nodes HI.out.edges))
  have HKE := Lib.hid (hL.nil_iff HF.out)
  have HG5 := Lib.hid (HG4.out.step g5); have HG25 := Lib.hid (HG24.out.step g5)
  have HR5 := Lib.hid (HR4.out.grow g5)
  have HV5 := Lib.hid hv5
  obtain ⟨av, cv, rfl, hvl, hvc, hA⟩ := SlR.open hv5
  unfold maxLen at hvc
  have hw45 : w4.heap.size ≤ w5.heap.size := g5.size
  have HA := Lib.hid (show ∀ (k : Nat) (hk : k < L.length), ∃ ba oa, av = some ⟨ba, oa, none⟩ ∧ w4.heap.size ≤ ba ∧ ba < w5.heap.size ∧ w5.cell? ⟨ba, oa + k, none⟩ = some (.int .i64 L[k]) from fun k hk => by
    obtain ⟨ba, oa, q, h1, h2, h3, rfl, h4⟩ := hA k L[k] (List.getElem?_eq_getElem hk)
    have h5 := h4 0 _ rfl
    exact ⟨ba, oa, h1, h2, h3, by simpa using h5⟩)
  clear hL hv5 g5 hA hrl c1 c2 c3 c4 c5 c6 c7 c0
  have HS := Lib.hid (show ∀ w', Grow w5 w' → RuleC w' w.heap.size r from fun w' g => (HR5.out.grow g).toC)
  have HD := Lib.hid (show Grow w5 w5.drew from (Grow.rfl' w5).drewd)
  have HAS := Lib.hid (fun (w' : World) (g : Grow w5 w') => HGA.out w' (HG25.out.step g))
  have HKP := Lib.hid (show ∀ w' nv ev, NodesR (fun _ => True) w' nv G.nodes ∧ EdgesR (fun _ => True) w' ev G.edges → Calls Tryz.prog 19 #[nv, ev, r.args] w' fun e w2 => e = .returned (.bool (decide (L = []))) ∧ Grow w' w2 from fun w' nv ev h => HKE.out ▸ ruleKeeps G.nodes G.edges nv ev r w' _ h.1 h.2 H64.out)
  obtain ⟨bz, hbz⟩ : ∃ b, decide (L = []) = b := ⟨_, rfl⟩
  have hlz : ((L.length : Int) == 0) = bz := by rw [len_zero, hbz]
  have hlz2 : (L.length == 0) = bz := by rw [← hbz]; cases L <;> simp
  rw [hbz] at HKP
  go_upto_region 5 with fail
  go_cut [43] (fun s wx => s = .bool false ∧ Grow w5 wx)
  case first =>
    go_region_held3 (fun w' => RuleC w' w.heap.size r) (first | exact HS.out _ HD.out | exact HS.out _ HG9.out | exact HS.out _ HGC.out | exact HS.out _ HGa.out) (first | (go_at_call 21; refine (HAS.out _ HGa.out).2.mono ?_; rintro e wc ⟨vc, rfl, he, gc⟩; have HP := Lib.hid (And.intro (HNa.out.grow gc) (edgesT he)); have HGC := Lib.hid (HGa.out.step gc); obtain ⟨_, _, rfl, _⟩ := SlR.open he; clear he gc) | (go_at_call 20; refine (HAS.out _ HGa.out).1.mono ?_; rintro e wc ⟨vc, rfl, hn, gc⟩; have HP := Lib.hid (And.intro (nodesT hn) (HEa.out.grow gc)); have HGC := Lib.hid (HGa.out.step gc); obtain ⟨_, _, rfl, _⟩ := SlR.open hn; clear hn gc) | (go_at_call 20; refine (HAS.out _ HD.out).1.mono ?_; rintro e wa ⟨va, rfl, hn, ga⟩; have HNa := Lib.hid (nodesT hn); have HGa := Lib.hid (HD.out.step ga); obtain ⟨_, _, rfl, _⟩ := SlR.open hn; clear hn ga) | (go_at_call 21; refine (HAS.out _ HD.out).2.mono ?_; rintro e wa ⟨va, rfl, he, ga⟩; have HEa := Lib.hid (edgesT he); have HGa := Lib.hid (HD.out.step ga); obtain ⟨_, _, rfl, _⟩ := SlR.open he; clear he ga) | (go_at_call 19; refine (HKP.out _ _ _ HP.out).mono ?_; rintro e w9 ⟨rfl, g9⟩; have HG9 := Lib.hid (HGC.out.step g9); clear g9))
    all_goals (go_wp2_with fail; go_meet; exact ⟨by cases bz <;> rfl, HG9.out⟩)
  case rest =>
    obtain ⟨rfl, hg6⟩ := hcut
    obtain ⟨w6, rfl⟩ : ∃ w6, w6 = wc := ⟨_, rfl⟩
    have HG56 := Lib.hid hg6
    have HG6 := Lib.hid (HG5.out.step hg6)
    have hw56 : w5.heap.size ≤ w6.heap.size := hg6.size
    have hw24 : w2.heap.size ≤ w4.heap.size := HG24.out.size
    have HENDS := Lib.hid (ends_from HGD.out)
    have HDO := Lib.hid (drops_ok HI.out HF.out HBR.out HLP.out HENDS.out)
    have HDA := Lib.hid (drops_all HI.out HF.out HBR.out HLP.out HENDS.out)
    obtain ⟨P, hP⟩ : ∃ P : Nat → Prop, P = fun b => (w.heap.size + 1 ≤ b ∧ b < w2.heap.size) ∨ w6.heap.size ≤ b := ⟨_, rfl⟩
    have HP1 := Lib.hid (show ∀ b, w6.heap.size ≤ b → P b from fun b hb => by rw [hP]; exact .inr hb)
    have HP2 := Lib.hid (show ∀ b, P b → w.heap.size ≤ b from fun b hb => by rw [hP] at hb; rcases hb with hb | hb <;> omega)
    have HP3 := Lib.hid (show ¬ P w.heap.size from fun hb => by rw [hP] at hb; rcases hb with hb | hb <;> omega)
    have HP4 := Lib.hid (show ∀ b, w4.heap.size ≤ b → b < w5.heap.size → ¬ P b from fun b h1 h2 hb => by rw [hP] at hb; rcases hb with hb | hb <;> omega)
    have HGP0 := Lib.hid (show GraphP P w6 B1 G from ⟨S1, HOK.out.grow (HG25.out.step hg6), fun b hb => by
      have h1 := HS1.out b hb
      rw [World.size_alloc] at h1
      rw [hP]
      exact .inl h1⟩)
    have HR6 := Lib.hid (HR5.out.grow hg6)
    have HV6 := Lib.hid (show ∀ (k : Nat) (hk : k < L.length), ∃ ba oa, av = some ⟨ba, oa, none⟩ ∧ ∀ w', Mod P w6 w' → ba < w'.heap.size ∧ w'.cell? ⟨ba, oa + k, none⟩ = some (.int .i64 L[k]) from fun k hk => by
      obtain ⟨ba, oa, h1, h2, h3, h4⟩ := HA.out k hk
      refine ⟨ba, oa, h1, fun w' hm => ⟨by have := hm.size; omega, ?_⟩⟩
      rw [World.cell?_of_block (w := w6) (hm.block ba (by omega) (HP4.out ba h2 h3))]
      exact (HG56.out.cell (p := ⟨ba, oa + k, none⟩) h3).trans h4)
    have HBXm := Lib.hid (show ∀ w', Mod P w6 w' → RuleBox w' w.heap.size r from fun w' hm => ruleMod HR6.out hm HP3.out)
    clear hP hg6 hlz hlz2 HA HS HD HAS HKP
    go_wp2_with fail
    go_loopg [9] L.length (fun g kv wr => ∃ k : Nat, k ≤ L.length ∧ g = L.length - k ∧ kv = .int .i64 k ∧ GraphP P wr B1 (dropsG r G (L.take k)) ∧ Mod P w6 wr)
    case atStart => exact ⟨0, by omega, by omega, rfl, HGP0.out, Mod.rfl' _ w6⟩
    case round =>
      obtain ⟨k, hk, rfl, rfl, hgp, hm⟩ := hrel
      have HGP := Lib.hid hgp; have HM := Lib.hid hm
      have hw6r : w6.heap.size ≤ wr.heap.size := hm.size
      clear hgp hm
      have hbx := HBXm.out wr HM.out
      obtain ⟨hrl, c1, c2, c3, c4, c5, c6, c7, c0⟩ := hbx.cells
      by_cases hkl : k < L.length
      · obtain ⟨ba, oa, rfl, hcell⟩ := HV6.out k hkl
        obtain ⟨hal, a0⟩ := hcell wr HM.out
        have HMAY := Lib.hid ((HDO.out k (by omega)).2.2 hkl)
        have HSN := Lib.hid (show dropsG r G (L.take (k + 1)) = stepG typesC (dropOp r L[k]) (dropsG r G (L.take k)) by rw [List.take_succ_eq_append_getElem hkl, dropsG_snoc])
        generalize L[k] = x at *
        have HINV := Lib.hid (dropsG_inv (r := r) HI.out (L.take k))
        generalize dropsG r G (L.take k) = Gk at *
        clear hcell c0 c2 c3 c4 c5 c6 c7 hbx
        by_cases h3 : r.kind = 3
        · have k3 : (r.kind == 3) = true := by rw [int_beq]; exact decide_eq_true h3
          have hop : dropOp r x = ⟨4, x, ByteArray.empty, 0, 0, ByteArray.empty, ⟨0, 0, ByteArray.empty⟩, false⟩ := by unfold dropOp; rw [if_pos h3]
          rw [hop] at HMAY HSN
          clear h3 hop
          obtain ⟨o1, ho1⟩ : ∃ o1 : Obj, o1 = .cells #[.int .i64 4, .int .i64 x, .string ⟨#[]⟩, .int .i64 0, .int .i64 0, .string ⟨#[]⟩, .int .i64 0, .int .i64 0, .string ⟨#[]⟩, .bool false] 44 (0, 0) := ⟨_, rfl⟩
          have HNB := Lib.hid (show ∀ w', Grow (wr.alloc o1) w' → w'.heap[wr.heap.size]? = some o1 from fun w' hg => by rw [hg.heapEq (by simp)]; exact heap_alloc_new wr _)
          have HS := Lib.hid (show ∀ w' : World, w'.heap[wr.heap.size]? = some o1 → (w'.cell? ⟨wr.heap.size, 0, none⟩ = some (.int .i64 4) ∧ w'.cell? ⟨wr.heap.size, 1, none⟩ = some (.int .i64 x) ∧ w'.cell? ⟨wr.heap.size, 2, none⟩ = some (.string ⟨#[]⟩) ∧ w'.cell? ⟨wr.heap.size, 3, none⟩ = some (.int .i64 0) ∧ w'.cell? ⟨wr.heap.size, 4, none⟩ = some (.int .i64 0) ∧ w'.cell? ⟨wr.heap.size, 5, none⟩ = some (.string ⟨#[]⟩) ∧ w'.cell? ⟨wr.heap.size, 6, none⟩ = some (.int .i64 0) ∧ w'.cell? ⟨wr.heap.size, 7, none⟩ = some (.int .i64 0) ∧ w'.cell? ⟨wr.heap.size, 8, none⟩ = some (.string ⟨#[]⟩) ∧ w'.cell? ⟨wr.heap.size, 9, none⟩ = some (.bool false)) from fun w' h => by
            rw [ho1] at h
            exact ⟨(blk_cell h _).trans rfl, (blk_cell h _).trans rfl, (blk_cell h _).trans rfl, (blk_cell h _).trans rfl, (blk_cell h _).trans rfl, (blk_cell h _).trans rfl, (blk_cell h _).trans rfl, (blk_cell h _).trans rfl, (blk_cell h _).trans rfl, (blk_cell h _).trans rfl⟩)
          go_upto_region 13 with fail
          rw [← ho1]
          clear ho1
          have HD := Lib.hid (show Grow (wr.alloc o1) (wr.alloc o1).drew from (Grow.rfl' _).drewd)
          have HAW := Lib.hid (show Grow wr (wr.alloc o1) from (Grow.rfl' _).allocd _)
          go_region_held3 (fun w' => w'.cell? ⟨wr.heap.size, 0, none⟩ = some (.int .i64 4) ∧ w'.cell? ⟨wr.heap.size, 1, none⟩ = some (.int .i64 x) ∧ w'.cell? ⟨wr.heap.size, 2, none⟩ = some (.string ⟨#[]⟩) ∧ w'.cell? ⟨wr.heap.size, 3, none⟩ = some (.int .i64 0) ∧ w'.cell? ⟨wr.heap.size, 4, none⟩ = some (.int .i64 0) ∧ w'.cell? ⟨wr.heap.size, 5, none⟩ = some (.string ⟨#[]⟩) ∧ w'.cell? ⟨wr.heap.size, 6, none⟩ = some (.int .i64 0) ∧ w'.cell? ⟨wr.heap.size, 7, none⟩ = some (.int .i64 0) ∧ w'.cell? ⟨wr.heap.size, 8, none⟩ = some (.string ⟨#[]⟩) ∧ w'.cell? ⟨wr.heap.size, 9, none⟩ = some (.bool false)) (first | exact HS.out _ (HNB.out _ HD.out) | exact HS.out _ (HNB.out _ HT.out) | exact HS.out _ HSD.out) (first | (go_at_call 23; refine (lawTypes _).mono ?_; rintro e wt ⟨nv, ev, rfl, hc, gt⟩; have HC := Lib.hid hc; have HT := Lib.hid (HD.out.step gt); obtain ⟨na, nc, ea, ec, ra, rc, ia, ic, rfl, rfl, -, -⟩ := hc.slices; clear hc gt) | (go_at_call 22; refine (doP P _ B1 Gk _ _ _ _ typesC ⟨4, x, ByteArray.empty, 0, 0, ByteArray.empty, ⟨0, 0, ByteArray.empty⟩, false⟩ wr wt HGP.out (HAW.out.step HT.out) (fun b hb => HP1.out b (by have h1 := HAW.out.size; have h2 := HT.out.size; omega)) HINV.out HC.out).mono ?_; rintro e wd ⟨rfl, hgd, hmd⟩; rw [HMAY.out]; have HGD2 := Lib.hid hgd; have HMD := Lib.hid (HM.out.step ((Mod.of_grow (HAW.out.step HT.out)).step (hmd.mono fun b hb => hb.1))); have HSD := Lib.hid ((hmd.block _ (blk_lt (HNB.out _ HT.out)) (fun hb => absurd hb.2 (Nat.lt_irrefl _))).trans (HNB.out _ HT.out)); clear hgd hmd))
          all_goals go_wp2
          all_goals go_roundg (L.length - (k + 1))
          case measure => omega
          case rel => exact ⟨k + 1, by omega, rfl, by go_num, by rw [HSN.out]; exact HGD2.out, HMD.out⟩
        · have k3 : (r.kind == 3) = false := by rw [int_beq]; exact decide_eq_false h3
          have hop : dropOp r x = ⟨2, x, ByteArray.empty, 0, 0, ByteArray.empty, ⟨0, 0, ByteArray.empty⟩, true⟩ := by unfold dropOp; rw [if_neg h3]
          rw [hop] at HMAY HSN
          clear h3 hop
          obtain ⟨o1, ho1⟩ : ∃ o1 : Obj, o1 = .cells #[.int .i64 2, .int .i64 x, .string ⟨#[]⟩, .int .i64 0, .int .i64 0, .string ⟨#[]⟩, .int .i64 0, .int .i64 0, .string ⟨#[]⟩, .bool true] 44 (0, 0) := ⟨_, rfl⟩
          have HNB := Lib.hid (show ∀ w', Grow (wr.alloc o1) w' → w'.heap[wr.heap.size]? = some o1 from fun w' hg => by rw [hg.heapEq (by simp)]; exact heap_alloc_new wr _)
          have HS := Lib.hid (show ∀ w' : World, w'.heap[wr.heap.size]? = some o1 → (w'.cell? ⟨wr.heap.size, 0, none⟩ = some (.int .i64 2) ∧ w'.cell? ⟨wr.heap.size, 1, none⟩ = some (.int .i64 x) ∧ w'.cell? ⟨wr.heap.size, 2, none⟩ = some (.string ⟨#[]⟩) ∧ w'.cell? ⟨wr.heap.size, 3, none⟩ = some (.int .i64 0) ∧ w'.cell? ⟨wr.heap.size, 4, none⟩ = some (.int .i64 0) ∧ w'.cell? ⟨wr.heap.size, 5, none⟩ = some (.string ⟨#[]⟩) ∧ w'.cell? ⟨wr.heap.size, 6, none⟩ = some (.int .i64 0) ∧ w'.cell? ⟨wr.heap.size, 7, none⟩ = some (.int .i64 0) ∧ w'.cell? ⟨wr.heap.size, 8, none⟩ = some (.string ⟨#[]⟩) ∧ w'.cell? ⟨wr.heap.size, 9, none⟩ = some (.bool true)) from fun w' h => by
            rw [ho1] at h
            exact ⟨(blk_cell h _).trans rfl, (blk_cell h _).trans rfl, (blk_cell h _).trans rfl, (blk_cell h _).trans rfl, (blk_cell h _).trans rfl, (blk_cell h _).trans rfl, (blk_cell h _).trans rfl, (blk_cell h _).trans rfl, (blk_cell h _).trans rfl, (blk_cell h _).trans rfl⟩)
          go_upto_region 13 with fail
          rw [← ho1]
          clear ho1
          have HD := Lib.hid (show Grow (wr.alloc o1) (wr.alloc o1).drew from (Grow.rfl' _).drewd)
          have HAW := Lib.hid (show Grow wr (wr.alloc o1) from (Grow.rfl' _).allocd _)
          go_region_held3 (fun w' => w'.cell? ⟨wr.heap.size, 0, none⟩ = some (.int .i64 2) ∧ w'.cell? ⟨wr.heap.size, 1, none⟩ = some (.int .i64 x) ∧ w'.cell? ⟨wr.heap.size, 2, none⟩ = some (.string ⟨#[]⟩) ∧ w'.cell? ⟨wr.heap.size, 3, none⟩ = some (.int .i64 0) ∧ w'.cell? ⟨wr.heap.size, 4, none⟩ = some (.int .i64 0) ∧ w'.cell? ⟨wr.heap.size, 5, none⟩ = some (.string ⟨#[]⟩) ∧ w'.cell? ⟨wr.heap.size, 6, none⟩ = some (.int .i64 0) ∧ w'.cell? ⟨wr.heap.size, 7, none⟩ = some (.int .i64 0) ∧ w'.cell? ⟨wr.heap.size, 8, none⟩ = some (.string ⟨#[]⟩) ∧ w'.cell? ⟨wr.heap.size, 9, none⟩ = some (.bool true)) (first | exact HS.out _ (HNB.out _ HD.out) | exact HS.out _ (HNB.out _ HT.out) | exact HS.out _ HSD.out) (first | (go_at_call 23; refine (lawTypes _).mono ?_; rintro e wt ⟨nv, ev, rfl, hc, gt⟩; have HC := Lib.hid hc; have HT := Lib.hid (HD.out.step gt); obtain ⟨na, nc, ea, ec, ra, rc, ia, ic, rfl, rfl, -, -⟩ := hc.slices; clear hc gt) | (go_at_call 22; refine (doP P _ B1 Gk _ _ _ _ typesC ⟨2, x, ByteArray.empty, 0, 0, ByteArray.empty, ⟨0, 0, ByteArray.empty⟩, true⟩ wr wt HGP.out (HAW.out.step HT.out) (fun b hb => HP1.out b (by have h1 := HAW.out.size; have h2 := HT.out.size; omega)) HINV.out HC.out).mono ?_; rintro e wd ⟨rfl, hgd, hmd⟩; rw [HMAY.out]; have HGD2 := Lib.hid hgd; have HMD := Lib.hid (HM.out.step ((Mod.of_grow (HAW.out.step HT.out)).step (hmd.mono fun b hb => hb.1))); have HSD := Lib.hid ((hmd.block _ (blk_lt (HNB.out _ HT.out)) (fun hb => absurd hb.2 (Nat.lt_irrefl _))).trans (HNB.out _ HT.out)); clear hgd hmd))
          all_goals go_wp2
          all_goals go_roundg (L.length - (k + 1))
          case measure => omega
          case rel => exact ⟨k + 1, by omega, rfl, by go_num, by rw [HSN.out]; exact HGD2.out, HMD.out⟩
      · have hkk : L.take k = L := List.take_of_length_le (by omega)
        rw [hkk] at HGP
        clear hkk c0 c1 c2 c3 c4 c5 c6 c7 hrl hbx
        obtain ⟨S', hok', -⟩ := HGP.out
        have hi' := dropsG_inv (r := r) HI.out L
        have HGA' := Lib.hid (gAt_of hok'.rd hi'); have HGN' := Lib.hid (gNode_of hok'.rd hi')
        have H64' := Lib.hid (ends64f (dropsG_good (r := r) HGD.out L))
        have HC1 := Lib.hid (show (dropsG r G L).nodes.length ≤ 4096 by have := hi'.items; omega)
        have HC2 := Lib.hid (show (dropsG r G L).edges.length ≤ 4096 by have := hi'.items; omega)
        have HKE' := Lib.hid (show keepR (dropsG r G L).nodes (dropsG r G L).edges r = true by rw [HDA.out.nil_iff HF.out]; rfl)
        have HGW := Lib.hid (show Grow w wr from HG6.out.modd HM.out (fun b hb => HP2.out b hb))
        have HS := Lib.hid (show ∀ w', Grow wr w' → RuleC w' w.heap.size r from fun w' g => ((HBXm.out wr HM.out).grow g).toC)
        have HD := Lib.hid (show Grow wr wr.drew from (Grow.rfl' wr).drewd)
        have HAS := Lib.hid (fun (w' : World) (g : Grow wr w') => HGA'.out w' g)
        have HKP := Lib.hid (show ∀ w' nv ev, NodesR (fun _ => True) w' nv (dropsG r G L).nodes ∧ EdgesR (fun _ => True) w' ev (dropsG r G L).edges → Calls Tryz.prog 19 #[nv, ev, r.args] w' fun e w2 => e = .returned (.bool true) ∧ Grow w' w2 from fun w' nv ev h => HKE'.out ▸ ruleKeeps _ _ nv ev r w' _ h.1 h.2 H64'.out)
        clear hok' hi'
        go_wp2_with fail
        go_region_held3 (fun w' => RuleC w' w.heap.size r) (first | exact HS.out _ HD.out | exact HS.out _ HGZ.out | exact HS.out _ HG9.out | exact HS.out _ HGC.out | exact HS.out _ HGa.out | exact HS.out _ HG8.out) (first | (go_at_call 16; refine (checkBroken _ _ _ r _ (HGA'.out.grow HD.out) (HGN'.out.grow HD.out) HC1.out HC2.out H64'.out).mono ?_; rintro e w8 ⟨v8, L8, rfl, hb8, hv8, g8⟩; obtain rfl := hb8.uniq HDA.out; obtain ⟨_, _, rfl, _⟩ := SlR.open hv8; have HG8 := Lib.hid (HD.out.step g8); clear hb8 hv8 g8) | (go_at_call 21; refine (HAS.out _ HGa.out).2.mono ?_; rintro e wc ⟨vc, rfl, he, gc⟩; have HP := Lib.hid (And.intro (HNa.out.grow gc) (edgesT he)); have HGC := Lib.hid (HGa.out.step gc); obtain ⟨_, _, rfl, _⟩ := SlR.open he; clear he gc) | (go_at_call 20; refine (HAS.out _ HGa.out).1.mono ?_; rintro e wc ⟨vc, rfl, hn, gc⟩; have HP := Lib.hid (And.intro (nodesT hn) (HEa.out.grow gc)); have HGC := Lib.hid (HGa.out.step gc); obtain ⟨_, _, rfl, _⟩ := SlR.open hn; clear hn gc) | (go_at_call 20; refine (HAS.out _ HG8.out).1.mono ?_; rintro e wa ⟨va, rfl, hn, ga⟩; have HNa := Lib.hid (nodesT hn); have HGa := Lib.hid (HG8.out.step ga); obtain ⟨_, _, rfl, _⟩ := SlR.open hn; clear hn ga) | (go_at_call 21; refine (HAS.out _ HG8.out).2.mono ?_; rintro e wa ⟨va, rfl, he, ga⟩; have HEa := Lib.hid (edgesT he); have HGa := Lib.hid (HG8.out.step ga); obtain ⟨_, _, rfl, _⟩ := SlR.open he; clear he ga) | (go_at_call 19; refine (HKP.out _ _ _ HP.out).mono ?_; rintro e w9 ⟨rfl, g9⟩; have HG9 := Lib.hid (HGC.out.step g9); clear g9) | (go_at_call 14; refine (law21Wakes _).mono ?_; rintro e wz ⟨rfl, gz⟩; have HGZ := Lib.hid (HG9.out.step gz); clear gz))
        all_goals go_wp2
        all_goals go_ret
        all_goals exact ⟨rfl, HGW.out.step HGZ.out⟩
end Go.Hg
