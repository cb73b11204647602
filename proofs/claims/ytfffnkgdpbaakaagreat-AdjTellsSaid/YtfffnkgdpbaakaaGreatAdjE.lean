/- adj.Reach, adj.Near: the nodes to which paths lead; A row of one-cell values that is one's own, read from some place on: a queue; what append makes of it; adj.distances: how far nodes are from one, against the edges; adj.Path: the edges of a shortest path; hedgerowref17: Node, Edge: where an Id stands; hedgerowref17: At, props; hedgerowref17: what changes of its lists leave; cut. Conditions: those that each theorem names. -/
import Derived.Test.YtfffnkgdpbaakaaGreatAdjD
import Derived.ArgAppend
import Derived.Test.YtfffnkgdpbaakaaGreatAdjA
import Derived.Test.YtfffnkgdpbaakaaGreatAdjC
namespace Go.Hg
open Go.RowKit Go.Proofs

theorem wpList_lookIv {P : Program} {ops : Array Oper} {rest : List Oper} {o : Oper} {a : Act} {Q : Exit → Act → World → Prop} (w : World) (hg : o.guard = none) (m x : Operand) (t : TypeId) (hop : o.op = Op.lookup t m x false) (kt et : TypeId) (ht : P.underlying t = some (.map kt et)) (hk : P.underlying kt = some (.int .i64)) (z : Value)
    (hz : (zeroValue et).run P w = .ok z w) (b n : Nat) (f : Int → Option Value) (hm : a.eval m = .map (some b)) (h : MapI w b f n) (k : Int) (hx : a.eval x = .int .i64 k) (val : Value) (hv : (f k).getD z = val)
    (hK : wpList P ops Q rest (a.put o.dst val) w) : wpList P ops Q (o :: rest) a w :=
  wpList_lookI w hg m x t hop kt et ht hk z hz b n f hm h k hx (hv ▸ hK)
theorem zeroInt (w : World) : (zeroValue 3).run Tryz.prog w = .ok (.int .i64 0) w := by kernel_rfl
/-- the nodes that were met -/
def metF (M : List Int) : Int → Option Value := fun y => if y ∈ M then some (.int .i64 1) else none
theorem metF_some {M : List Int} {y : Int} (h : y ∈ M) : (metF M y).getD (.int .i64 0) = .int .i64 1 := by simp [metF, h]
theorem metF_none {M : List Int} {y : Int} (h : ¬ y ∈ M) : (metF M y).getD (.int .i64 0) = .int .i64 0 := by simp [metF, h]
theorem metF_put (M : List Int) (y : Int) : fput (metF M) y (.int .i64 1) = metF (M ++ [y]) := by
  funext x
  by_cases hx : x = y
  · subst hx; simp [fput, metF]
  · simp [fput, metF, hx]
theorem metF_iff (M : List Int) (y : Int) : metF M y ≠ none ↔ y ∈ M := by
  by_cases h : y ∈ M <;> simp [metF, h]
theorem metF_nil : metF [] = fun _ => none := by funext x; simp [metF]
/-- an edge's two cells -/
theorem endCells {S F : Nat → Prop} {w wr : World} {aa : Option Addr} {ca : Nat} {L : List PEdge} (hv : SlR S w 2 REnd (.slice aa L.length ca) L) (hm : Mod F w wr) (hF : ∀ b, S b → ¬ F b) {k : Nat} {x : PEdge} (hk : L[k]? = some x) :
    ∃ ba oa, aa = some ⟨ba, oa, none⟩ ∧ ba < wr.heap.size ∧ wr.cell? ⟨ba, oa + k * 2, none⟩ = some (.int .i64 x.id) ∧ wr.cell? ⟨ba, oa + k * 2 + 1, none⟩ = some (.int .i64 x.to_) := by
  obtain ⟨a', c', hva, -, -, hA⟩ := SlR.open hv
  simp only [Value.slice.injEq, true_and] at hva
  obtain ⟨rfl, rfl⟩ := hva
  obtain ⟨ba, oa, r, rfl, hS, hb, hr, hc⟩ := hA k x hk
  unfold REnd at hr
  subst hr
  have e : ∀ o, wr.cell? ⟨ba, o, none⟩ = w.cell? ⟨ba, o, none⟩ := fun o => World.cell?_of_block (w := w) (hm.block ba hb (hF ba hS))
  refine ⟨ba, oa, rfl, Nat.lt_of_lt_of_le hb hm.size, ?_, ?_⟩ <;> rw [e]
  · exact hc 0 _ rfl
  · exact hc 1 _ rfl
theorem idCells {S F : Nat → Prop} {w wr : World} {aa : Option Addr} {ca : Nat} {L : List Int} (hv : IdsR S w (.slice aa L.length ca) L) (hm : Mod F w wr) (hF : ∀ b, S b → ¬ F b) {k : Nat} {x : Int} (hk : L[k]? = some x) :
    ∃ ba oa, aa = some ⟨ba, oa, none⟩ ∧ ba < wr.heap.size ∧ wr.cell? ⟨ba, oa + k, none⟩ = some (.int .i64 x) := by
  obtain ⟨a', c', hva, -, -, hA⟩ := SlR.open hv
  simp only [Value.slice.injEq, true_and] at hva
  obtain ⟨rfl, rfl⟩ := hva
  obtain ⟨ba, oa, r, rfl, hS, hb, hr, hc⟩ := hA k x hk
  subst hr
  have e : ∀ o, wr.cell? ⟨ba, o, none⟩ = w.cell? ⟨ba, o, none⟩ := fun o => World.cell?_of_block (w := w) (hm.block ba hb (hF ba hS))
  refine ⟨ba, oa, rfl, Nat.lt_of_lt_of_le hb hm.size, ?_⟩
  rw [e]
  simpa using hc 0 _ rfl
theorem idsGrow {S : Nat → Prop} {w w' : World} {v : Value} {l : List Int} (h : IdsR S w v l) (g : Grow w w') : IdsR S w' v l := SlR.keep h (fun _ _ hb => g.heapEq hb) g.size (fun _ _ _ h => h)

set_option maxRecDepth 100000 in
set_option maxHeartbeats 16000000 in
theorem adjReach (gv : Value) (E : List PEdge) (id : Int) (typ : ByteArray) (most : Int) (w : World) (hE : EdgesAt gv E w) (hb : E.length ≤ 1024) (h64 : ∀ e ∈ E, (Lit.int .i64 e.to_).wf = true) (hm : most ≤ 1048576) :
    Calls Tryz.prog 15 #[gv, .int .i64 id, .string typ, .int .i64 most] w fun e w' => ∃ v L, e = .returned v ∧ RSet L (Rch E typ most.toNat id) ∧ IdsR (fun x => w.heap.size ≤ x) w' v L ∧ Grow w w' := by
  have HE := Lib.hid hE; have HB := Lib.hid hb; have H64 := Lib.hid h64
  obtain ⟨iP, hiP, hzP0, hzP1, hzP2⟩ := info_parts infoInt
  have hmm := @run_makeMap Tryz.prog
  clear hE hb h64
  go_enter Tryz.func15, Tryz.ntmps15
  go_wp2
  go_step3
  go_wp2_with fail
  refine (adjWays gv E typ w HE.out HB.out).mono ?_
  rintro e w2 ⟨bl, rfl, hgs, hg2⟩
  obtain ⟨f, n, hmb, hbb, hsg⟩ := hgs
  have HMB := Lib.hid hmb; have HBB := Lib.hid hbb; have HSG := Lib.hid hsg; have HG2 := Lib.hid hg2
  have HW2 := Lib.hid (show ∀ o1 o2, Grow w2 ((w2.alloc o1).alloc o2) from fun o1 o2 => ((Grow.rfl' w2).allocd o1).allocd o2)
  have HMI0 := Lib.hid (show ∀ o1, MapI ((w2.alloc (.map #[] 0)).alloc o1) w2.heap.size (metF []) ([] : List Int).length from fun o1 => by
    rw [metF_nil]
    exact (MapI.made w2).grow ((Grow.rfl' _).allocd o1))
  have HR0 := Lib.hid (show IdsR (fun b => b ≠ w2.heap.size) ((w2.alloc (.map #[] 0)).alloc (.cells #[.int .i64 id] 2)) (.slice (some ⟨w2.heap.size + 1, 0, none⟩) [id].length 1) [id] by
    have h := OwnS.lit (w2.alloc (.map #[] 0)) #[.int .i64 id] 2 1 1 (by unfold maxLen; omega) rfl
    simp only [World.size_alloc] at h
    exact IdsO.toR (l := [id]) (ob := some (w2.heap.size + 1)) h (fun q hq => by cases hq; omega))
  have HGW0 := HW2
  have HO0 := Lib.hid (OutI.start (E := E) (typ := typ) id)
  clear hmb hbb hsg hg2
  go_wp2
  go_step3
  go_wp2
  go_loopg [11, 12] most.toNat (fun g rv n wr => ∃ (k : Nat) (M r : List Int), k ≤ most.toNat ∧ g = most.toNat - k ∧ n = .int .i64 k ∧ OutI E typ id M r k ∧ MapI wr w2.heap.size (metF M) M.length ∧ IdsR (fun b => b ≠ w2.heap.size) wr rv r ∧ Grow w2 wr)
  case atStart => exact ⟨0, [], [id], by omega, by omega, rfl, HO0.out, HMI0.out _, HR0.out, HGW0.out _ _⟩
  case round =>
    obtain ⟨wo, rfl⟩ : ∃ wo : World, wo = wr := ⟨_, rfl⟩
    obtain ⟨k, M, r, hk, rfl, rfl, ho, hmi, hr, hgw⟩ := hrel
    have HO := Lib.hid ho; have HMI := Lib.hid hmi; have HR := Lib.hid hr; have HGW := Lib.hid hgw
    obtain ⟨ra, rc, rfl, hrl, hrc, -⟩ := SlR.open hr
    have HBM := Lib.hid hmi.lt
    unfold maxLen at hrc
    clear ho hmi hr hgw HO0 HMI0 HR0 HGW0
    by_cases hkm : (k : Int) < most
    · go_wp2_with fail
      go_loopg [13, 31] r.length (fun g nv jv wz => ∃ (j : Nat) (nx : List Int) (ob : Option Nat), j ≤ r.length ∧ g = r.length - j ∧ jv = .int .i64 j ∧ FrI E typ M nx r j [] ∧ MapI wz w2.heap.size (metF (M ++ nx)) (M.length + nx.length) ∧ IdsO wz nv nx ob ∧ (∀ q, ob = some q → wo.heap.size ≤ q) ∧ Mod (fun b => b = w2.heap.size) wo wz)
      case atStart => exact ⟨0, [], none, by omega, by omega, rfl, .start HO.out.nodup HO.out.ends, by simpa using HMI.out, OwnS.nil _ _ _, by simp, Mod.rfl' _ _⟩
      case round =>
        obtain ⟨wz, rfl⟩ : ∃ wz : World, wz = wr := ⟨_, rfl⟩
        obtain ⟨j, nx, ob, hj, rfl, rfl, hfr, hmp, hno, hob, hmd⟩ := hrel
        have HFR0 := Lib.hid hfr; have HMP0 := Lib.hid hmp; have HNO0 := Lib.hid hno; have HOB0 := Lib.hid hob; have HMD0 := Lib.hid hmd
        obtain ⟨oo, co, rfl, -, -⟩ := hno.isSlice
        clear hfr hmp hno hob hmd
        by_cases hjl : j < r.length
        · have hx := List.getElem?_eq_getElem hjl
          obtain ⟨ba, oa, rfl, hba, a0⟩ := idCells HR.out HMD0.out (fun b hb e => hb e) hx
          have HJ := Lib.hid hx
          clear hx
          generalize r[j] = x at *
          obtain ⟨la, lc, hlv, hal, hac, -⟩ := SlR.open (HSG.out x)
          have HLV := Lib.hid hlv
          have HSL := Lib.hid (show SlR (fun b => w.heap.size ≤ b ∧ b < w2.heap.size) w2 2 REnd (.slice la (outsE E typ x).length lc) (outsE E typ x) from hlv ▸ HSG.out x)
          clear hlv
          unfold maxLen at hac
          obtain ⟨L, hL⟩ : ∃ L, L = outsE E typ x := ⟨_, rfl⟩
          rw [← hL] at HSL HLV hal
          have HLE := Lib.hid hL
          clear hL
          have HLB := Lib.hid (HMB.out.mod ((Mod.of_grow HGW.out).step HMD0.out) (by have := HBB.out; omega))
          go_wp2_with (at_lookup; go_must (refine wpList_lookIv _ rfl (.tmp 35) (.tmp 36) 78 rfl 2 83 Tryz.underlying78 Tryz.underlying2 (.slice none 0 0) (zeroEnds _) _ _ _ rfl HLB.out x rfl (.slice la L.length lc) HLV.out ?_))
          go_wp2_with fail
          clear a0
          go_loopg [13, 39] L.length (fun g nv iv wy => ∃ (i : Nat) (nx : List Int) (ob : Option Nat), i ≤ L.length ∧ g = L.length - i ∧ iv = .int .i64 i ∧ FrI E typ M nx r j (L.take i) ∧ MapI wy w2.heap.size (metF (M ++ nx)) (M.length + nx.length) ∧ IdsO wy nv nx ob ∧ (∀ q, ob = some q → wo.heap.size ≤ q) ∧ Mod (fun b => b = w2.heap.size) wo wy)
          case atStart => exact ⟨0, nx, ob, by omega, by omega, rfl, HFR0.out, HMP0.out, HNO0.out, HOB0.out, HMD0.out⟩
          case round =>
            obtain ⟨wy, rfl⟩ : ∃ wy : World, wy = wr := ⟨_, rfl⟩
            obtain ⟨i, nx, ob, hi, rfl, rfl, hfr, hmp, hno, hob, hmd⟩ := hrel
            have HFR := Lib.hid hfr; have HMP := Lib.hid hmp; have HNO := Lib.hid hno; have HOB := Lib.hid hob; have HMD := Lib.hid hmd
            obtain ⟨oo, co, rfl, -, -⟩ := hno.isSlice
            clear hfr hmp hno hob hmd HFR0 HMP0 HNO0 HOB0 HMD0
            by_cases hil : i < L.length
            · have hx := List.getElem?_eq_getElem hil
              have HMG := Lib.hid (show Mod (fun b => b = w2.heap.size) w2 wy from (Mod.of_grow HGW.out).step HMD.out)
              obtain ⟨ba, oa, rfl, hba, a0, a1⟩ := endCells HSL.out HMG.out (fun b hb e => by have := hb.2; omega) hx
              have HX := Lib.hid hx
              have HTK := Lib.hid (show L.take (i + 1) = L.take i ++ [L[i]] from List.take_succ_eq_append_getElem hil)
              have HME := Lib.hid (show L[i] ∈ L from List.getElem_mem hil)
              clear hx
              generalize L[i] = x at *
              have HW := Lib.hid (show ∀ o1, Grow wy (wy.alloc o1) from fun o1 => (Grow.rfl' wy).allocd o1)
              have HLN := Lib.hid (show nx.length + 1 ≤ 1025 by have := HFR.out.len; have := HB.out; omega)
              by_cases hin : x.to_ ∈ M ++ nx
              · have HIN := Lib.hid hin
                have HFS := Lib.hid (show FrI E typ M nx r j (L.take (i + 1)) by rw [HTK.out]; exact HFR.out.skip (List.mem_append.1 HIN.out))
                clear hin
                go_wp2_with (at_lookup; go_must (refine wpList_lookIv _ rfl (.tmp 43) (.tmp 45) 80 rfl 2 3 Tryz.underlying80 Tryz.underlying2 (.int .i64 0) (zeroInt _) _ _ _ rfl (HMP.out.grow (HW.out _)) x.to_ rfl (.int .i64 1) (metF_some HIN.out) ?_))
                go_wp2_with fail
                go_roundg (L.length - (i + 1))
                case measure => omega
                case rel => exact ⟨i + 1, nx, ob, by omega, rfl, by go_num, HFS.out, HMP.out.grow (HW.out _), HNO.out.grow (HW.out _), HOB.out, HMD.out.step (Mod.of_grow (HW.out _))⟩
              · have HIN := Lib.hid hin
                have HFS := Lib.hid (show FrI E typ M (nx ++ [x.to_]) r j (L.take (i + 1)) by rw [HTK.out]; exact HFR.out.add HJ.out (HLE.out ▸ HME.out) (fun h => HIN.out (List.mem_append.2 h)))
                clear hin
                go_wp2_with (first | (at_lookup; go_must (refine wpList_lookIv _ rfl (.tmp 43) (.tmp 45) 80 rfl 2 3 Tryz.underlying80 Tryz.underlying2 (.int .i64 0) (zeroInt _) _ _ _ rfl (HMP.out.grow (HW.out _)) x.to_ rfl (.int .i64 0) (metF_none HIN.out) ?_)) | (at_mapUpdate; go_must (refine wpList_updI _ rfl (.tmp 48) (.tmp 50) (.const (.int .i64 1)) 80 rfl 2 3 Tryz.underlying80 Tryz.underlying2 _ _ _ rfl (HMP.out.grow (HW.out _)) x.to_ rfl (.int .i64 1) rfl ?_)))
                intro w5 u1 _ u3 u4
                have HU1 := Lib.hid u1
                have HU3 := Lib.hid (HMD.out.step ((Mod.of_grow (HW.out _)).step u3))
                have hb5 : w5.heap[wy.heap.size]? = some (.cells #[.int .i64 x.id, .int .i64 x.to_] 85 (0, 0)) := by
                  rw [u3.block wy.heap.size (by simp) (by have := HMP.out.lt; omega)]
                  exact heap_alloc_new wy _
                have hl5 := blk_lt hb5
                have y0 : w5.cell? ⟨wy.heap.size, 1, none⟩ = some (.int .i64 x.to_) := by rw [blk_cell hb5]; rfl
                have HN5 := Lib.hid ((HNO.out.grow (HW.out _)).keep (fun q hq => u3.block q (Nat.lt_of_lt_of_le (HNO.out.lt q hq) (HW.out _).size) (by have := HOB.out q hq; have := HBM.out; omega)))
                have HRD := Lib.hid (Rd.lit w5 #[.int .i64 x.to_] 2 1 1 rfl)
                have HW5 := Lib.hid (show ∀ o1, Grow w5 (w5.alloc o1) from fun o1 => (Grow.rfl' w5).allocd o1)
                clear u1 u3 u4 hb5
                go_wp2_with (at_builtin; go_must (refine wpList_append_S _ rfl (.tmp 51) (.tmp 54) 30 rfl 2 iP _ 1 8 Tryz.underlying30 hiP hzP0 hzP1 hzP2 rfl (by decide) (.slice oo nx.length co) nx.length _ ob rfl (HN5.out.grow (HW5.out _)) (.slice (some ⟨w5.heap.size, 0, none⟩) 1 1) rfl 1 _ HRD.out (one1 _ rfl) (by have := HLN.out; unfold maxLen; omega) (by have := HLN.out; omega) ?_))
                intro v6 w6 ob6 p1 p2 p3
                have HN6 := Lib.hid (show IdsO w6 v6 (nx ++ [x.to_]) ob6 by
                  unfold IdsO
                  rw [List.length_append, List.map_append]
                  exact p1)
                have HSZ := Lib.hid HMD.out.size
                have HO6 := Lib.hid (show ∀ q, ob6 = some q → wo.heap.size ≤ q from fun q hq => by
                  have h1 := HU3.out.size
                  rcases p3 with p3 | ⟨g, p3, hge⟩
                  · exact HOB.out q (by rw [← p3]; exact hq)
                  · rw [p3] at hq; cases hq; first | omega | (simp at hge; omega))
                have HM6 := Lib.hid (show MapI w6 w2.heap.size (metF (M ++ (nx ++ [x.to_]))) (M.length + (nx ++ [x.to_]).length) by
                  rw [← List.append_assoc, ← metF_put, List.length_append, ← Nat.add_assoc]
                  exact (HU1.out.grow (HW5.out _)).mod p2 (fun h => by have := HOB.out _ h; have := HBM.out; omega))
                have HD6 := Lib.hid (show Mod (fun b => b = w2.heap.size) wo w6 from (HU3.out.step (Mod.of_grow (HW5.out _))).step' p2 (fun q hq => .inr (HOB.out q hq)))
                clear p1 p2 p3 y0
                go_wp2_with fail
                go_roundg (L.length - (i + 1))
                case measure => omega
                case rel => exact ⟨i + 1, _, ob6, by omega, rfl, by go_num, HFS.out, HM6.out, HN6.out, HO6.out, HD6.out⟩
            · have HFN := Lib.hid (show FrI E typ M nx r (j + 1) [] by
                have h := HFR.out
                rw [List.take_of_length_le (by omega), HLE.out] at h
                exact h.next HJ.out)
              go_wp2_with fail
              go_roundg (r.length - (j + 1))
              case measure => omega
              case rel => exact ⟨j + 1, nx, ob, by omega, rfl, by go_num, HFN.out, HMP.out, HNO.out, HOB.out, HMD.out⟩
        · have HFE := Lib.hid (show FrI E typ M nx r r.length [] by
            obtain rfl : j = r.length := by omega
            exact HFR0.out)
          have HMF := Lib.hid HMP0.out
          have HCL := Lib.hid (show M.length + nx.length ≤ 4096 by have := HFE.out.len; have := HB.out; omega)
          have HWZ := Lib.hid (show Grow w wz from HG2.out.step (HGW.out.modd HMD0.out (fun b hb => by omega)))
          have HGZ := Lib.hid (show Grow w2 wz from HGW.out.modd HMD0.out (fun b hb => by omega))
          rcases nx with _ | ⟨y, nx⟩
          · have HEQ := Lib.hid (show ∀ y, metF (M ++ []) y ≠ none ↔ Rch E typ most.toNat id y from fun y => by
              rw [metF_iff, List.append_nil]
              exact HO.out.done HFE.out (by omega) y)
            have HCN := Lib.hid (show M.length + ([] : List Int).length ≤ 4096 from HCL.out)
            have HWF := Lib.hid (show ∀ y, metF (M ++ []) y ≠ none → (Lit.int .i64 y).wf = true from fun y hy => by
              obtain ⟨e, he, rfl⟩ := ((HEQ.out y).1 hy).ends
              exact H64.out e he)
            go_wp2_with fail
            refine (mapsKeys w2.heap.size _).mono ?_
            rintro e w8 ⟨rfl, rfl⟩
            go_wp2_with fail
            refine (slicesSorted w2.heap.size _ _ _ HMF.out HCN.out HWF.out).mono ?_
            rintro e w9 ⟨v, L, rfl, hL, hI, hg9⟩
            have HL := Lib.hid hL; have HI := Lib.hid hI; have HG9 := Lib.hid hg9
            clear hL hI hg9
            go_wp2
            try rw [Exit.noGoto_ret]
            go_ret
            exact ⟨v, L, rfl, HL.out.congr HEQ.out, HI.out.sub (fun x hx => Nat.le_trans HWZ.out.size hx) (fun _ _ _ h => h), HWZ.out.step HG9.out⟩
          · have HNX := Lib.hid (show OutI E typ id (M ++ (y :: nx)) (y :: nx) (k + 1) from HO.out.next HFE.out)
            have hnl : (((y :: nx).length : Int) == 0) = false := by simp; omega
            have HRR := Lib.hid (show IdsR (fun b => b ≠ w2.heap.size) wz (.slice oo (y :: nx).length co) (y :: nx) from HNO0.out.toR (fun q hq => by have := HOB0.out q hq; have := HBM.out; omega))
            have HMM := Lib.hid (show MapI wz w2.heap.size (metF (M ++ (y :: nx))) (M ++ (y :: nx)).length by rw [List.length_append]; exact HMF.out)
            generalize y :: nx = nr at *
            go_wp2_with fail
            go_roundg (most.toNat - (k + 1))
            case measure => omega
            case rel => exact ⟨k + 1, _, nr, by omega, rfl, by go_num, HNX.out, HMM.out, HRR.out, HGZ.out⟩
    · have HMF := Lib.hid HMI.out
      have HKE := Lib.hid (show k = most.toNat by omega)
      have HEQ := Lib.hid (show ∀ y, metF M y ≠ none ↔ Rch E typ most.toNat id y from fun y => by rw [metF_iff, HO.out.mem, HKE.out])
      have HCN := Lib.hid (show M.length ≤ 4096 by
        have := nodup_le (fun e : PEdge => e.to_) E _ HO.out.nodup HO.out.ends
        have := HB.out
        omega)
      have HWF := Lib.hid (show ∀ y, metF M y ≠ none → (Lit.int .i64 y).wf = true from fun y hy => by
        obtain ⟨e, he, rfl⟩ := ((HEQ.out y).1 hy).ends
        exact H64.out e he)
      have HWZ := Lib.hid (show Grow w wo from HG2.out.step HGW.out)
      clear HKE
      go_wp2_with fail
      refine (mapsKeys w2.heap.size _).mono ?_
      rintro e w8 ⟨rfl, rfl⟩
      go_wp2_with fail
      refine (slicesSorted w2.heap.size _ _ _ HMF.out HCN.out HWF.out).mono ?_
      rintro e w9 ⟨v, L, rfl, hL, hI, hg9⟩
      have HL := Lib.hid hL; have HI := Lib.hid hI; have HG9 := Lib.hid hg9
      clear hL hI hg9
      go_wp2
      try rw [Exit.noGoto_ret]
      go_ret
      exact ⟨v, L, rfl, HL.out.congr HEQ.out, HI.out.sub (fun x hx => Nat.le_trans HWZ.out.size hx) (fun _ _ _ h => h), HWZ.out.step HG9.out⟩
end Go.Hg

namespace Go.Hg
open Go.RowKit

/-- v is a slice of the cells xs: empty without capacity (ob = none), or what stands behind some place of block ob -/
def OwnT (w : World) (E : TypeId) (v : Value) (xs : List Value) (ob : Option Nat) : Prop :=
  (∃ oa, v = .slice oa 0 0 ∧ xs = [] ∧ ob = none) ∨
  ∃ g off cap cur, v = .slice (some ⟨g, off, none⟩) xs.length cap ∧ ob = some g ∧ w.heap[g]? = some (.cells cur E (0, 0)) ∧ xs.length ≤ cap ∧ cap ≤ maxLen ∧ cur.size = off + cap ∧ (cur.toList.drop off).take xs.length = xs
theorem OwnS.toT {w : World} {E : TypeId} {v : Value} {n : Nat} {xs : List Value} {ob : Option Nat} (h : OwnS w E 1 v n xs ob) : OwnT w E v xs ob := by
  have hl := h.1
  rw [Nat.mul_one] at hl
  rcases h.2 with ⟨oa, rfl, rfl, rfl, -⟩ | ⟨g, cap, cur, rfl, rfl, hh, h1, h2, h3, h4⟩
  · exact .inl ⟨oa, rfl, List.eq_nil_of_length_eq_zero hl, rfl⟩
  · exact .inr ⟨g, 0, cap, cur, by rw [hl], rfl, hh, by omega, h2, by omega, by rw [List.drop_zero, hl, ← Nat.mul_one n]; exact h4⟩
theorem OwnT.lt {w : World} {E : TypeId} {v : Value} {xs : List Value} {ob : Option Nat} (h : OwnT w E v xs ob) : ∀ g, ob = some g → g < w.heap.size := by
  intro g hg
  rcases h with ⟨_, _, _, h⟩ | ⟨g', _, _, _, _, h, hh, _⟩
  · rw [h] at hg; cases hg
  · rw [h] at hg; cases hg; exact blk_lt hh
theorem OwnT.keep {w w' : World} {E : TypeId} {v : Value} {xs : List Value} {ob : Option Nat} (h : OwnT w E v xs ob) (hk : ∀ g, ob = some g → w'.heap[g]? = w.heap[g]?) : OwnT w' E v xs ob := by
  rcases h with h | ⟨g, off, cap, cur, hv, ho, hh, r⟩
  · exact .inl h
  · exact .inr ⟨g, off, cap, cur, hv, ho, (hk g ho).trans hh, r⟩
theorem OwnT.grow {w w' : World} {E : TypeId} {v : Value} {xs : List Value} {ob : Option Nat} (h : OwnT w E v xs ob) (g : Grow w w') : OwnT w' E v xs ob := h.keep fun k hk => g.heapEq (h.lt k hk)
theorem OwnT.mod {w w' : World} {E : TypeId} {v : Value} {xs : List Value} {ob : Option Nat} {F : Nat → Prop} (h : OwnT w E v xs ob) (m : Mod F w w') (hF : ∀ g, ob = some g → ¬ F g) : OwnT w' E v xs ob := h.keep fun k hk => m.block k (h.lt k hk) (hF k hk)
theorem OwnT.isSlice {w : World} {E : TypeId} {v : Value} {xs : List Value} {ob : Option Nat} (h : OwnT w E v xs ob) : ∃ oa cap, v = .slice oa xs.length cap ∧ xs.length ≤ cap ∧ cap ≤ maxLen := by
  rcases h with ⟨oa, rfl, rfl, _⟩ | ⟨g, off, cap, cur, rfl, _, _, h1, h2, _⟩
  · exact ⟨oa, 0, rfl, Nat.le_refl _, by simp [maxLen]⟩
  · exact ⟨_, cap, rfl, h1, h2⟩
/-- its cells -/
theorem OwnT.cell {w : World} {E : TypeId} {v : Value} {xs : List Value} {ob : Option Nat} (h : OwnT w E v xs ob) (h0 : 0 < xs.length) :
    ∃ g off cap, v = .slice (some ⟨g, off, none⟩) xs.length cap ∧ ob = some g ∧ g < w.heap.size ∧ xs.length ≤ cap ∧ cap ≤ maxLen ∧ ∀ (j : Nat) u, xs[j]? = some u → w.cell? ⟨g, off + j, none⟩ = some u := by
  rcases h with ⟨oa, _, h1, _⟩ | ⟨g, off, cap, cur, rfl, ho, hh, h1, h2, h3, h4⟩
  · rw [h1] at h0; simp at h0
  · refine ⟨g, off, cap, rfl, ho, blk_lt hh, h1, h2, fun j u hu => ?_⟩
    rw [blk_cell hh, ← Array.getElem?_toList]
    rw [← h4, List.getElem?_take] at hu
    split at hu
    · rw [List.getElem?_drop] at hu; exact hu
    · cases hu
/-- without the first one -/
theorem OwnT.tail {w : World} {E : TypeId} {g off cap n : Nat} {x : Value} {xs : List Value} {ob : Option Nat} (h : OwnT w E (.slice (some ⟨g, off, none⟩) n cap) (x :: xs) ob) (_hc : cap ≠ 1) :
    OwnT w E (.slice (some ⟨g, off + 1, none⟩) xs.length (cap - 1)) xs ob := by
  rcases h with ⟨_, _, h1, _⟩ | ⟨g', off', cap', cur, hv, ho, hh, h1, h2, h3, h4⟩
  · cases h1
  · simp only [Value.slice.injEq, Option.some.injEq, Addr.mk.injEq, and_true] at hv
    obtain ⟨⟨rfl, rfl⟩, rfl, rfl⟩ := hv
    simp only [List.length_cons] at h1 h4
    refine .inr ⟨g, off + 1, cap - 1, cur, rfl, ho, hh, by omega, by omega, by omega, ?_⟩
    have hd : cur.toList.drop off = x :: (cur.toList.drop off).tail := by
      cases hq : cur.toList.drop off with
      | nil => rw [hq] at h4; simp at h4
      | cons a t => rw [hq] at h4; simp only [List.take_succ_cons, List.cons.injEq] at h4; rw [h4.1]; rfl
    rw [hd] at h4
    simp only [List.take_succ_cons, List.cons.injEq, true_and] at h4
    rw [← h4, ← List.drop_drop, List.drop_one]
    rw [h4]
    rw [← h4]
    simp
theorem OwnT.tail1 {w : World} {E : TypeId} {g off n : Nat} {x : Value} {xs : List Value} {ob : Option Nat} {oa : Option Addr} (h : OwnT w E (.slice (some ⟨g, off, none⟩) n 1) (x :: xs) ob) : xs = [] ∧ OwnT w E (.slice oa 0 0) xs none := by
  rcases h with ⟨_, _, h1, _⟩ | ⟨g', off', cap', cur, hv, ho, hh, h1, h2, h3, h4⟩
  · cases h1
  · simp only [Value.slice.injEq, Option.some.injEq, Addr.mk.injEq, and_true] at hv
    obtain ⟨⟨rfl, rfl⟩, rfl, rfl⟩ := hv
    simp only [List.length_cons] at h1
    have : xs = [] := List.eq_nil_of_length_eq_zero (by omega)
    exact ⟨this, .inl ⟨oa, rfl, this, rfl⟩⟩

section
variable {P : Program} (w : World)
theorem run_append_T (t ty e : TypeId) (i : TypeInfo) (z : Value) (bytes : Nat) (ht : P.underlying t = some (.slice e)) (hi : P.info? e = some i) (hz : i.zero = some z)
    (hsize : i.size = 1) (hby : i.bytes = bytes) (hzs : z.cells.size = 1) (v : Value) (xs : List Value) (ob : Option Nat) (hown : OwnT w e v xs ob)
    (a : Addr) (c : Nat) (u : Value) (hu : w.cell? a = some u) (h1 : u.oneCell' = true) (h63 : xs.length + 1 ≤ maxLen) (hbytes : (xs.length + 1) * bytes ≤ 140737488355328) :
    ∃ v' w' ob', (Builtin.append_ #[t, t] ty #[v, .slice (some a) 1 c]).run P w = .ok v' w' ∧ OwnT w' e v' (xs ++ [u]) ob' ∧ Mod (fun k => ob = some k) w w' ∧ (ob' = ob ∨ ∃ g, ob' = some g ∧ w.heap.size ≤ g) := by
  subst hby
  have hnews : ∀ j x, [u][j]? = some x → w.cell? (a.add j) = some x := by
    intro j x hx
    match j with
    | 0 =>
      simp only [List.getElem?_cons_zero, Option.some.injEq] at hx
      have : a.add 0 = a := by unfold Addr.add; split <;> simp_all
      rw [this, ← hx]; exact hu
    | j + 1 => simp at hx
  have hone : ∀ x ∈ [u], x.oneCell' = true := by intro x hx; rw [List.mem_singleton.1 hx]; exact h1
  have hsmall : xs.length + 1 ≤ 9223372036854775807 := by simp only [maxLen] at h63; omega
  have grown : ∀ (old : Nat), old < xs.length + 1 →
      OwnT (w.drew.alloc (.cells (xs.toArray ++ [u].toArray ++ Builtin.zeroCells z.cells (grownCap w (xs.length + 1) old e - (xs.length + 1))) e)) e
        (.slice (some ⟨w.heap.size, 0, none⟩) (xs.length + 1) (grownCap w (xs.length + 1) old e)) (xs ++ [u]) (some w.heap.size) := by
    intro old ho
    have hge := grownCap_ge w (xs.length + 1) old e
    have hcm : grownCap w (xs.length + 1) old e ≤ maxLen := grownCap_le_maxLen w (xs.length + 1) old e h63
    refine .inr ⟨w.heap.size, 0, _, _, by simp, rfl, heap_alloc_new w.drew _, by simpa using hge, hcm, ?_, ?_⟩
    · simp only [Array.size_append, List.size_toArray, size_zeroCells, hzs, List.length_cons, List.length_nil]
      omega
    · simp only [Array.toList_append, List.drop_zero]
      rw [show (xs ++ [u]).length = (xs.toArray.toList ++ [u].toArray.toList).length from by simp]
      rw [List.take_left]
  have hmod : ∀ o, Mod (fun k => ob = some k) w (w.drew.alloc o) := fun o => ((Mod.rfl' _ w).drewd).allocd o
  rcases hown with ⟨oa, rfl, rfl, rfl⟩ | ⟨g, off, cap, cur, rfl, rfl, hh, hlc, hcm, hcs, htake⟩
  · have hgr := grown 0 (by simp)
    cases oa with
    | none =>
      have hr := run_append_nil (P := P) w t ty e i z ht hi hz a 1 c [u] (by rw [hsize]; rfl) hnews (by omega) (by omega) (by simp only [List.length_nil, Nat.zero_add] at hbytes; omega)
      simp only [List.length_nil, Nat.zero_add, List.nil_append, Array.empty_append] at hgr ⊢
      exact ⟨_, _, _, hr, hgr, hmod _, .inr ⟨_, rfl, Nat.le_refl _⟩⟩
    | some b =>
      have hr := run_append_grow (P := P) w t ty e i z ht hi hz b 0 0 [] (by simp) (by simp) a 1 c [u] (by rw [hsize]; rfl) hnews (by omega) (by omega) (growslice_fits (by omega) (by simpa using hbytes))
      simp only [List.length_nil, Nat.zero_add] at hgr hr ⊢
      exact ⟨_, _, _, hr, hgr, hmod _, .inr ⟨_, rfl, Nat.le_refl _⟩⟩
  · by_cases hroom : xs.length + 1 ≤ cap
    · have hcell : w.cell? ⟨g, off + xs.length * i.size + 0, none⟩ = cur[off + xs.length]? := by rw [blk_cell hh, hsize]; simp
      have hlt : off + xs.length < cur.size := by omega
      have hr := run_append_room_cells (P := P) w t ty e i ht hi g off xs.length cap a 1 c [u] (by rw [hsize]; rfl) hnews hone hroom
        (fun j hj => by have : j = 0 := by simpa using hj
                        subst this
                        rw [hcell, Array.getElem?_eq_getElem hlt]; rfl)
        (fun j hj => blk_free hh _)
      rw [hsize, Nat.mul_one] at hr
      have hset : w.setCells g (off + xs.length) [u] = w.setCell ⟨g, off + xs.length, none⟩ u := by simp [World.setCells]
      rw [hset] at hr
      have hhs := heap_setCell_same w g (off + xs.length) cur e u hh
      refine ⟨_, _, some g, hr, .inr ⟨g, off, cap, _, by simp, rfl, hhs, by simpa using hroom, hcm, by simpa using hcs, ?_⟩, ?_, .inl rfl⟩
      · rw [Array.toList_setIfInBounds]
        rw [List.drop_set, if_neg (by omega)]
        rw [show off + xs.length - off = xs.length from by omega]
        have hdl : xs.length < (cur.toList.drop off).length := by simp; omega
        rw [List.length_append, List.length_singleton, List.take_add_one]
        rw [List.getElem?_set_self hdl]
        rw [List.take_set_of_le (Nat.le_refl _), htake]
        rfl
      · exact (Mod.rfl' (fun k => some g = some k) w).setd (p := ⟨g, off + xs.length, none⟩) (.inl rfl) u
    · have holds : ∀ j x, xs[j]? = some x → w.cell? ((⟨g, off, none⟩ : Addr).add j) = some x := by
        intro j x hx
        have hadd : (⟨g, off, none⟩ : Addr).add j = ⟨g, off + j, none⟩ := by unfold Addr.add; split <;> simp_all
        rw [hadd, blk_cell hh, ← Array.getElem?_toList]
        rw [← htake, List.getElem?_take] at hx
        split at hx
        · rw [List.getElem?_drop] at hx; exact hx
        · cases hx
      have hr := run_append_grow (P := P) w t ty e i z ht hi hz ⟨g, off, none⟩ xs.length cap xs (by rw [hsize, Nat.mul_one]) holds a 1 c [u] (by rw [hsize]; rfl) hnews (by omega) (by omega) (growslice_fits (by omega) hbytes)
      exact ⟨_, _, _, hr, grown cap (by omega), hmod _, .inr ⟨_, rfl, Nat.le_refl _⟩⟩

theorem wpList_append_T {ops : Array Oper} {rest : List Oper} {o : Oper} {a : Act} {Q : Exit → Act → World → Prop} (hgd : o.guard = none) (s x : Operand) (t : TypeId)
    (ho : o.op = .call { callee := .builtin .append, args := #[s, x], argTypes := #[t, t] })
    (e : TypeId) (i : TypeInfo) (z : Value) (bytes : Nat) (ht : P.underlying t = some (.slice e)) (hi : P.info? e = some i) (hz : i.zero = some z)
    (hsize : i.size = 1) (hby : i.bytes = bytes) (hzs : z.cells.size = 1) (v : Value) (xs : List Value) (ob : Option Nat) (hs : a.eval s = v) (hown : OwnT w e v xs ob)
    (p : Addr) (c : Nat) (hxv : a.eval x = .slice (some p) 1 c) (u : Value) (hu : w.cell? p = some u) (h1 : u.oneCell' = true) (h63 : xs.length + 1 ≤ maxLen) (hbytes : (xs.length + 1) * bytes ≤ 140737488355328)
    (h : ∀ v' w' ob', OwnT w' e v' (xs ++ [u]) ob' → Mod (fun k => ob = some k) w w' → (ob' = ob ∨ ∃ g, ob' = some g ∧ w.heap.size ≤ g) → wpList P ops Q rest (a.put o.dst v') w') : wpList P ops Q (o :: rest) a w := by
  refine wpList_plain hgd fun K' hK' => ?_
  obtain ⟨v', w', ob', hr, h2, h3, h4⟩ := run_append_T (P := P) w t o.type e i z bytes ht hi hz hsize hby hzs v xs ob hown p c u hu h1 h63 hbytes
  unfold Oper.wp execOp
  simp only [ho, resolve, invoke, builtin, Sem.run_bind, Sem.run_pure, Result.andThen_ok, List.map_toArray, List.map_cons, List.map_nil, hs, hxv, hr]
  exact hK' _ _ (h v' w' ob' h2 h3 h4)
end
end Go.Hg

namespace Go.Hg
open Go.RowKit Go.Proofs

theorem wpList_lookIok {P : Program} {ops : Array Oper} {rest : List Oper} {o : Oper} {a : Act} {Q : Exit → Act → World → Prop} (w : World) (hg : o.guard = none) (m x : Operand) (t : TypeId) (hop : o.op = Op.lookup t m x true) (kt et : TypeId) (ht : P.underlying t = some (.map kt et)) (hk : P.underlying kt = some (.int .i64)) (z : Value)
    (hz : (zeroValue et).run P w = .ok z w) (b n : Nat) (f : Int → Option Value) (hm : a.eval m = .map (some b)) (h : MapI w b f n) (k : Int) (hx : a.eval x = .int .i64 k) (val : Value) (ok : Bool) (hv : (f k).getD z = val ∧ (f k).isSome = ok)
    (hK : wpList P ops Q rest (a.put o.dst (.tuple #[val, .bool ok])) w) : wpList P ops Q (o :: rest) a w :=
  wpList_lookI_ok w hg m x t hop kt et ht hk z hz b n f hm h k hx (by rw [hv.1, hv.2]; exact hK)
/-- distances as a map holds them -/
def distF (f : Int → Option Nat) : Int → Option Value := fun x => (f x).map fun d => .int .i64 (d : Int)
theorem distF_some {f : Int → Option Nat} {x : Int} {d : Nat} (h : f x = some d) : (distF f x).getD (.int .i64 0) = .int .i64 d ∧ (distF f x).isSome = true := by simp [distF, h]
theorem distF_none {f : Int → Option Nat} {x : Int} (h : f x = none) : (distF f x).getD (.int .i64 0) = .int .i64 0 ∧ (distF f x).isSome = false := by simp [distF, h]
theorem distF_get {f : Int → Option Nat} {x : Int} {d : Nat} (h : f x = some d) : (distF f x).getD (.int .i64 0) = .int .i64 d := by simp [distF, h]
theorem distF_put (f : Int → Option Nat) (k : Int) (d : Nat) : fput (distF f) k (.int .i64 ((d : Int) + 1)) = distF (nput f k (d + 1)) := by
  funext x
  by_cases hx : x = k <;> simp [fput, distF, nput, hx]
theorem OwnT.lenEq {w : World} {E : TypeId} {oa : Option Addr} {n cap : Nat} {xs : List Value} {ob : Option Nat} (h : OwnT w E (.slice oa n cap) xs ob) : OwnT w E (.slice oa n cap) xs ob := h
theorem fromCells {S : Nat → Prop} {w wr : World} {aa : Option Addr} {ca : Nat} {L : List PEdge} (hv : SlR S w 1 RFrom (.slice aa L.length ca) L) (hm : Grow w wr) {k : Nat} {x : PEdge} (hk : L[k]? = some x) :
    ∃ ba oa, aa = some ⟨ba, oa, none⟩ ∧ ba < wr.heap.size ∧ wr.cell? ⟨ba, oa + k, none⟩ = some (.int .i64 x.from_) := by
  obtain ⟨a', c', hva, -, -, hA⟩ := SlR.open hv
  simp only [Value.slice.injEq, true_and] at hva
  obtain ⟨rfl, rfl⟩ := hva
  obtain ⟨ba, oa, r, rfl, hS, hb, hr, hc⟩ := hA k x hk
  unfold RFrom at hr
  subst hr
  refine ⟨ba, oa, rfl, Nat.lt_of_lt_of_le hb hm.size, ?_⟩
  have e : wr.cell? ⟨ba, oa + k, none⟩ = w.cell? ⟨ba, oa + k, none⟩ := World.cell?_of_block (w := w) (hm.block ba hb)
  rw [e]
  simpa using hc 0 _ rfl
/-- what distances tells -/
def DistPost (E : List PEdge) (typ : ByteArray) (t : Int) (w : World) (e : Ending) (w' : World) : Prop :=
  ∃ b f n, e = .returned (.map (some b)) ∧ MapI w' b (distF f) n ∧ (∀ x d, f x = some d ↔ Dst E typ t d x) ∧ w.heap.size ≤ b ∧ Grow w w'

set_option maxRecDepth 100000 in
set_option maxHeartbeats 16000000 in
theorem adjDist (gv : Value) (E : List PEdge) (t : Int) (typ : ByteArray) (w : World) (hE : EdgesAt gv E w) (hb : E.length ≤ 1024) :
    Calls Tryz.prog 33 #[gv, .int .i64 t, .string typ] w (DistPost E typ t w) := by
  have HE := Lib.hid hE; have HB := Lib.hid hb
  obtain ⟨iP, hiP, hzP0, hzP1, hzP2⟩ := info_parts infoInt
  have hmm := @run_makeMap Tryz.prog
  have HWM := Lib.hid (show ∀ o1, Grow w (w.alloc o1) from fun o1 => (Grow.rfl' w).allocd o1)
  have HG0 := Lib.hid (fun lo => GroupsI.made w 2 1 RFrom lo)
  clear hE hb
  go_enter Tryz.func33, Tryz.ntmps33
  go_wp2_with fail
  refine (HE.out _ (HWM.out _)).mono ?_
  rintro e w2 ⟨v, rfl, hv, hg2⟩
  obtain ⟨aa, ca, rfl, hal, hac, -⟩ := SlR.open hv
  have HV := Lib.hid hv
  have HG2 := Lib.hid ((HWM.out _).step hg2)
  have HGR0 := Lib.hid ((HG0.out w2.heap.size).grow hg2)
  have hwl : w.heap.size < w2.heap.size := HGR0.out.1.lt
  unfold maxLen at hac
  clear hv hg2
  go_wp2
  go_loopg [20] E.length (fun g i wr => ∃ (k : Nat) (f : Int → Option Value) (ob : Int → Option Nat), k ≤ E.length ∧ g = E.length - k ∧ i = .int .i64 k ∧ GroupsI wr w.heap.size k 2 1 RFrom w2.heap.size f ob (insE (E.take k) typ) ∧ Mod (fun b => b = w.heap.size) w2 wr)
  case atStart => exact ⟨0, _, _, by omega, by omega, rfl, HGR0.out, Mod.rfl' _ _⟩
  case round =>
    obtain ⟨k, f, ob, hk, rfl, rfl, hgr, hmd⟩ := hrel
    have HGR := Lib.hid hgr; have HMD := Lib.hid hmd
    clear hgr hmd HGR0
    by_cases hkl : k < E.length
    · have hx := List.getElem?_eq_getElem hkl
      obtain ⟨ba, oa, pa, pc, rfl, hba, a0, a1, a2, a3, a4⟩ := edgeCells HV.out HMD.out (fun b hb e => absurd hb (by rw [e]; simp)) hx
      have HX := Lib.hid hx
      clear hx
      generalize E[k] = x at *
      have HSK := Lib.hid (fun hn => GroupsI.congr (g' := insE (E.take (k + 1)) typ) ((HGR.out.mono (Nat.le_succ k))) (fun q => (insE_skip HX.out hn q).symm))
      have HW := Lib.hid (show ∀ o1, Grow wr (wr.alloc o1) from fun o1 => (Grow.rfl' wr).allocd o1)
      cases ht : decide (typ = ByteArray.empty)
      · have hte : (typ.toList == ([] : List UInt8)) = false := (empty_beq typ).trans ht
        have HTF := Lib.hid ht
        clear ht
        cases hxt : decide (x.typ = typ)
        · have HN := Lib.hid (HSK.out (by simp only [fitE, HTF.out, hxt, Bool.or_self]))
          go_wp2_with fail
          go_roundg (E.length - (k + 1))
          case measure => omega
          case rel => exact ⟨k + 1, f, ob, by omega, rfl, by go_num, HN.out.grow (HW.out _), HMD.out.step (Mod.of_grow (HW.out _))⟩
        · have HFY := Lib.hid (show fitE typ x = true by simp only [fitE, HTF.out, hxt, Bool.or_true])
          go_wp2_with fail
          obtain ⟨wx, hwx⟩ : ∃ y, y = (wr.alloc (.cells #[.int .i64 x.id, .string x.typ, .int .i64 x.from_, .int .i64 x.to_, .slice pa x.props.length pc] 41)).drew := ⟨_, rfl⟩
          obtain ⟨rows, hr1, hr2, hos⟩ := HGR.out.2.1 x.to_
          have HR1 := Lib.hid hr1; have HR2 := Lib.hid hr2
          have HLX := Lib.hid (show Grow (wr.alloc (.cells #[.int .i64 x.id, .string x.typ, .int .i64 x.from_, .int .i64 x.to_, .slice pa x.props.length pc] 41)) wx from hwx ▸ (Grow.rfl' _).drewd)
          have HGX := Lib.hid (show Grow wr wx from hwx ▸ (HW.out _).drewd)
          have HBX := Lib.hid (show wx.heap[wr.heap.size]? = some (.cells #[.int .i64 x.id, .string x.typ, .int .i64 x.from_, .int .i64 x.to_, .slice pa x.props.length pc] 41 (0, 0)) from hwx ▸ heap_alloc_new wr _)
          have HLE := Lib.hid (show (insE (E.take k) typ x.to_).length + 1 ≤ 1025 from by
            have h1 : (insE (E.take k) typ x.to_).length ≤ (E.take k).length := List.length_filter_le _ _
            have h2 := List.length_take_le' k E
            have := HB.out
            omega)
          have HSS := Lib.hid (show ∀ w', Grow (wr.alloc (.cells #[.int .i64 x.id, .string x.typ, .int .i64 x.from_, .int .i64 x.to_, .slice pa x.props.length pc] 41)) w' → (w'.cell? ⟨wr.heap.size, 2, none⟩ = some (.int .i64 x.from_) ∧ w'.cell? ⟨wr.heap.size, 3, none⟩ = some (.int .i64 x.to_) ∧ MapI w' w.heap.size f k) from fun w' hg => by
            have hh := (hg.heapEq (k := wr.heap.size) (by simp)).trans (heap_alloc_new wr _)
            exact ⟨by rw [blk_cell hh]; rfl, by rw [blk_cell hh]; rfl, HGR.out.1.grow ((HW.out _).step hg)⟩)
          have HOS := Lib.hid (show ∀ o1, OwnS ((wx).alloc o1) 2 1 ((f x.to_).getD (.slice none 0 0)) (insE (E.take k) typ x.to_).length rows.flatten (ob x.to_) from fun o1 => hos.grow (HGX.out.allocd o1))
          have HRD := Lib.hid (Rd.lit wx #[.int .i64 x.from_] 2 1 1 rfl)
          have HOB := Lib.hid HGR.out.2.2.1
          have HMX := Lib.hid (show ∀ w5, Mod (fun y => ob x.to_ = some y) (wx.alloc (.cells #[.int .i64 x.from_] 2)) w5 → MapI w5 w.heap.size f k from fun w5 hm => (HGR.out.1.grow (HGX.out.allocd _)).mod hm (fun e => (HOB.out _ _ e).2 rfl))
          have HSX := Lib.hid (show ∀ w5, Mod (fun y => ob x.to_ = some y) (wx.alloc (.cells #[.int .i64 x.from_] 2)) w5 → (w5.cell? ⟨wr.heap.size, 2, none⟩ = some (.int .i64 x.from_) ∧ w5.cell? ⟨wr.heap.size, 3, none⟩ = some (.int .i64 x.to_) ∧ MapI w5 w.heap.size f k) from fun w5 hm => by
            have hl := blk_lt HBX.out
            have hh := ((hm.block wr.heap.size (by simp; omega) (fun e => by have := (HGR.out.2.1 x.to_).ltG _ e; omega)).trans (((Grow.rfl' wx).allocd _).heapEq hl)).trans HBX.out
            exact ⟨by rw [blk_cell hh]; rfl, by rw [blk_cell hh]; rfl, HMX.out w5 hm⟩)
          have HEND := Lib.hid (show ∀ v5 w5 ob5 w6, OwnS w5 2 1 v5 ((insE (E.take k) typ x.to_).length + 1) (rows.flatten ++ [.int .i64 x.from_]) ob5 → Mod (fun y => ob x.to_ = some y) (wx.alloc (.cells #[.int .i64 x.from_] 2)) w5 →
              (ob5 = ob x.to_ ∨ ∃ g, ob5 = some g ∧ (wx.alloc (.cells #[.int .i64 x.from_] 2)).heap.size ≤ g) → MapI w6 w.heap.size (fput f x.to_ v5) (k + 1) → Mod (fun r => r = w.heap.size) w5 w6 →
              ∃ (k' : Nat) (f' : Int → Option Value) (ob' : Int → Option Nat), k' ≤ E.length ∧ E.length - (k + 1) = E.length - k' ∧ (Value.int .i64 ((k : Int) + 1)) = .int .i64 k' ∧ GroupsI w6 w.heap.size k' 2 1 RFrom w2.heap.size f' ob' (insE (E.take k') typ) ∧ Mod (fun b => b = w.heap.size) w2 w6 from fun v5 w5 ob5 w6 p1 p2 p3 u1 u3 => by
            have hlo : w2.heap.size ≤ (wx.alloc (.cells #[.int .i64 x.from_] 2)).heap.size := Nat.le_trans HMD.out.size (HGX.out.allocd _).size
            have hst := HGR.out.step (HGX.out.allocd _) p2 (OwnL.push HR1.out HR2.out (y := x) (r := [.int .i64 x.from_]) rfl rfl p1) p3 hlo u1 u3
            exact ⟨k + 1, _, _, by omega, rfl, by simp, hst.congr (fun q => (insE_put HX.out HFY.out q).symm), ((HMD.out.step (Mod.of_grow (HGX.out.allocd _))).step' p2 (fun y hy => .inr (HOB.out _ _ hy).1)).step u3⟩)
          clear hr1 hr2 hos
          refine wp_region_noPanic ?_
          refine wp_region_K (S := (fun w' => w'.cell? ⟨wr.heap.size, 2, none⟩ = some (.int .i64 x.from_) ∧ w'.cell? ⟨wr.heap.size, 3, none⟩ = some (.int .i64 x.to_) ∧ MapI w' w.heap.size f k)) (by kernel_rfl) 11 (by decide) ?_ (fun hHeld => ?_)
          · exact HSS.out _ ((Grow.rfl' _).drewd)
          rw [← hwx] at hHeld ⊢
          clear hwx
          refine' headK_take (i := 0) (oi := ?o1) (v := _) (by simp only [List.getElem?_toArray, List.getElem?_cons_zero]; rfl) (by kernel_rfl) (by kernel_rfl) (by kernel_rfl) (by decide) (by decide) (by kernel_rfl) (by kernel_rfl) (fun _ _ _ h => h) (Or.inl ⟨by rfl, ?y1⟩) (by assumption) ?r1
          case y1 =>
            intro wS hSw
            try dsimp only at hSw
            go_simp
            all_goals with_reducible rfl
          simp only [Act.put, List.setIfInBounds_toArray, List.set_cons_zero, List.set_cons_succ]
          refine' headK_take (i := 1) (oi := ?o2) (v := _) (by simp only [List.getElem?_toArray, List.getElem?_cons_succ, List.getElem?_cons_zero]; rfl) (by kernel_rfl) (by kernel_rfl) (by kernel_rfl) (by decide) (by decide) (by kernel_rfl) (by kernel_rfl) (fun _ _ _ h => h) (Or.inl ⟨by rfl, ?y2⟩) (by assumption) ?r2
          case y2 =>
            intro wS hSw
            try dsimp only at hSw
            go_simp
            all_goals with_reducible rfl
          simp only [Act.put, List.setIfInBounds_toArray, List.set_cons_zero, List.set_cons_succ]
          refine' headK_take (i := 2) (oi := ?o3) (v := _) (by simp only [List.getElem?_toArray, List.getElem?_cons_succ, List.getElem?_cons_zero]; rfl) (by kernel_rfl) (by kernel_rfl) (by kernel_rfl) (by decide) (by decide) (by kernel_rfl) (by kernel_rfl) (fun _ _ _ h => h) (Or.inl ⟨by rfl, ?y3⟩) (by assumption) ?r3
          case y3 =>
            intro wS hSw
            try dsimp only at hSw
            go_simp
            all_goals with_reducible rfl
          simp only [Act.put, List.setIfInBounds_toArray, List.set_cons_zero, List.set_cons_succ]
          refine' headK_take (i := 3) (oi := ?o4) (v := _) (by simp only [List.getElem?_toArray, List.getElem?_cons_succ, List.getElem?_cons_zero]; rfl) (by kernel_rfl) (by kernel_rfl) (by kernel_rfl) (by decide) (by decide) (by kernel_rfl) (by kernel_rfl) (fun _ _ _ h => h) (Or.inl ⟨by rfl, ?y4⟩) (by assumption) ?r4
          case y4 =>
            intro wS hSw
            try dsimp only at hSw
            go_simp
            all_goals with_reducible rfl
          simp only [Act.put, List.setIfInBounds_toArray, List.set_cons_zero, List.set_cons_succ]
          refine' headK_take (i := 4) (oi := ?o5) (v := _) (by simp only [List.getElem?_toArray, List.getElem?_cons_succ, List.getElem?_cons_zero]; rfl) (by kernel_rfl) (by kernel_rfl) (by kernel_rfl) (by decide) (by decide) (by kernel_rfl) (by kernel_rfl) (fun _ _ _ h => h) (Or.inl ⟨by rfl, ?y5⟩) (by assumption) ?r5
          case y5 =>
            intro wS hSw
            try dsimp only at hSw
            go_simp
            all_goals with_reducible rfl
          simp only [Act.put, List.setIfInBounds_toArray, List.set_cons_zero, List.set_cons_succ]
          refine' headK_take (i := 5) (oi := ?o6) (v := _) (by simp only [List.getElem?_toArray, List.getElem?_cons_succ, List.getElem?_cons_zero]; rfl) (by kernel_rfl) (by kernel_rfl) (by kernel_rfl) (by decide) (by decide) (by kernel_rfl) (by kernel_rfl) (fun _ _ _ h => h) (Or.inl ⟨by rfl, ?y6⟩) (by assumption) ?r6
          case y6 =>
            intro wS hSw
            try dsimp only at hSw
            go_simp
            all_goals with_reducible rfl
          simp only [Act.put, List.setIfInBounds_toArray, List.set_cons_zero, List.set_cons_succ]
          refine' headK_take (i := 6) (oi := ?o7) (v := _) (by simp only [List.getElem?_toArray, List.getElem?_cons_succ, List.getElem?_cons_zero]; rfl) (by kernel_rfl) (by kernel_rfl) (by kernel_rfl) (by decide) (by decide) (by kernel_rfl) (by kernel_rfl) (fun _ _ _ h => h) (Or.inl ⟨by rfl, ?y7⟩) (by assumption) ?r7
          case y7 =>
            intro wS hSw
            try dsimp only at hSw
            refine exec_lookI (k := x.to_) hSw.2.2 (.tmp 35) (.tmp 37) ?_ Tryz.underlying120 Tryz.underlying2 (zeroIds _) ?_ ?_
            all_goals rfl
          simp only [Act.put, List.setIfInBounds_toArray, List.set_cons_zero, List.set_cons_succ]
          refine' headK_take (i := 7) (oi := ?o8) (v := _) (by simp only [List.getElem?_toArray, List.getElem?_cons_succ, List.getElem?_cons_zero]; rfl) (by kernel_rfl) (by kernel_rfl) (by kernel_rfl) (by decide) (by decide) (by kernel_rfl) (by kernel_rfl) (fun _ _ _ h => h) (Or.inl ⟨by rfl, ?y8⟩) (by assumption) ?r8
          case y8 =>
            intro wS hSw
            try dsimp only at hSw
            go_simp
            all_goals with_reducible rfl
          simp only [Act.put, List.setIfInBounds_toArray, List.set_cons_zero, List.set_cons_succ]
          refine' headK_take (i := 8) (oi := ?o9) (v := _) (by simp only [List.getElem?_toArray, List.getElem?_cons_succ, List.getElem?_cons_zero]; rfl) (by kernel_rfl) (by kernel_rfl) (by kernel_rfl) (by decide) (by decide) (by kernel_rfl) (by kernel_rfl) (fun _ _ _ h => h) (Or.inl ⟨by rfl, ?y9⟩) (by assumption) ?r9
          case y9 =>
            intro wS hSw
            try dsimp only at hSw
            go_simp
            all_goals with_reducible rfl
          simp only [Act.put, List.setIfInBounds_toArray, List.set_cons_zero, List.set_cons_succ]
          refine' headK_one (i := 9) (o := ?o10) (by simp only [List.getElem?_toArray, List.getElem?_cons_succ, List.getElem?_cons_zero]; rfl) (by kernel_rfl) (by decide) (fun K hK => ?s10)
          go_simp
          refine hK.out _ _ ?_ (fun hHeld => ?_)
          · exact HSS.out _ (HLX.out.allocd _)
          clear hK K
          try simp only [Act.put, List.setIfInBounds_toArray, List.set_cons_zero, List.set_cons_succ]
          refine' headK_one (i := 10) (o := ?o11) (by simp only [List.getElem?_toArray, List.getElem?_cons_succ, List.getElem?_cons_zero]; rfl) (by kernel_rfl) (by decide) (fun K hK => ?s11)
          refine step_append_S rfl (.tmp 38) (.tmp 41) 30 rfl 2 iP _ 1 8 Tryz.underlying30 hiP hzP0 hzP1 hzP2 rfl (by decide) ((f x.to_).getD (.slice none 0 0)) (insE (E.take k) typ x.to_).length rows.flatten (ob x.to_) (by rfl) (HOS.out _) (.slice (some ⟨wx.heap.size, 0, none⟩) 1 1) (by rfl) 1 _ HRD.out (one1 _ rfl) (by have := HLE.out; unfold maxLen; omega) (by have := HLE.out; omega) ?_
          intro v5 w5 ob5 p1 p2 p3 _
          have P1 := Lib.hid p1; have P2 := Lib.hid p2; have P3 := Lib.hid p3
          have HM5 := Lib.hid (HMX.out _ p2)
          have HS5 := Lib.hid (HSX.out _ p2)
          clear p1 p2 p3
          refine hK.out _ _ ?_ (fun hHeld => ?_)
          · exact HS5.out
          clear hK K
          try simp only [Act.put, List.setIfInBounds_toArray, List.set_cons_zero, List.set_cons_succ]
          refine' headK_last (o := ?o12) (by simp only [List.getElem?_toArray, List.getElem?_cons_succ, List.getElem?_cons_zero]; rfl) (by kernel_rfl) (by kernel_rfl) (fun K hK => ?s12)
          refine step_updI rfl (.tmp 32) (.tmp 34) (.tmp 42) rfl Tryz.underlying120 Tryz.underlying2 (by rfl) HM5.out (by rfl) (by rfl) ?_
          intro w6 u1 u2 u3 u4
          refine hK.out _ _ ?_
          clear hK K
          try simp only [Act.put]
          refine NoPanic.normal ?_
          go_wp2_with fail
          go_roundg (E.length - (k + 1))
          case measure => omega
          case rel => exact HEND.out _ _ _ _ P1.out P2.out P3.out u1 u3
      · have hte : (typ.toList == ([] : List UInt8)) = true := (empty_beq typ).trans ht
        have HFY := Lib.hid (show fitE typ x = true by simp only [fitE, ht, Bool.true_or])
        clear ht
        go_wp2_with fail
        obtain ⟨wx, hwx⟩ : ∃ y, y = (wr.alloc (.cells #[.int .i64 x.id, .string x.typ, .int .i64 x.from_, .int .i64 x.to_, .slice pa x.props.length pc] 41)).drew := ⟨_, rfl⟩
        obtain ⟨rows, hr1, hr2, hos⟩ := HGR.out.2.1 x.to_
        have HR1 := Lib.hid hr1; have HR2 := Lib.hid hr2
        have HLX := Lib.hid (show Grow (wr.alloc (.cells #[.int .i64 x.id, .string x.typ, .int .i64 x.from_, .int .i64 x.to_, .slice pa x.props.length pc] 41)) wx from hwx ▸ (Grow.rfl' _).drewd)
        have HGX := Lib.hid (show Grow wr wx from hwx ▸ (HW.out _).drewd)
        have HBX := Lib.hid (show wx.heap[wr.heap.size]? = some (.cells #[.int .i64 x.id, .string x.typ, .int .i64 x.from_, .int .i64 x.to_, .slice pa x.props.length pc] 41 (0, 0)) from hwx ▸ heap_alloc_new wr _)
        have HLE := Lib.hid (show (insE (E.take k) typ x.to_).length + 1 ≤ 1025 from by
          have h1 : (insE (E.take k) typ x.to_).length ≤ (E.take k).length := List.length_filter_le _ _
          have h2 := List.length_take_le' k E
          have := HB.out
          omega)
        have HSS := Lib.hid (show ∀ w', Grow (wr.alloc (.cells #[.int .i64 x.id, .string x.typ, .int .i64 x.from_, .int .i64 x.to_, .slice pa x.props.length pc] 41)) w' → (w'.cell? ⟨wr.heap.size, 2, none⟩ = some (.int .i64 x.from_) ∧ w'.cell? ⟨wr.heap.size, 3, none⟩ = some (.int .i64 x.to_) ∧ MapI w' w.heap.size f k) from fun w' hg => by
          have hh := (hg.heapEq (k := wr.heap.size) (by simp)).trans (heap_alloc_new wr _)
          exact ⟨by rw [blk_cell hh]; rfl, by rw [blk_cell hh]; rfl, HGR.out.1.grow ((HW.out _).step hg)⟩)
        have HOS := Lib.hid (show ∀ o1, OwnS ((wx).alloc o1) 2 1 ((f x.to_).getD (.slice none 0 0)) (insE (E.take k) typ x.to_).length rows.flatten (ob x.to_) from fun o1 => hos.grow (HGX.out.allocd o1))
        have HRD := Lib.hid (Rd.lit wx #[.int .i64 x.from_] 2 1 1 rfl)
        have HOB := Lib.hid HGR.out.2.2.1
        have HMX := Lib.hid (show ∀ w5, Mod (fun y => ob x.to_ = some y) (wx.alloc (.cells #[.int .i64 x.from_] 2)) w5 → MapI w5 w.heap.size f k from fun w5 hm => (HGR.out.1.grow (HGX.out.allocd _)).mod hm (fun e => (HOB.out _ _ e).2 rfl))
        have HSX := Lib.hid (show ∀ w5, Mod (fun y => ob x.to_ = some y) (wx.alloc (.cells #[.int .i64 x.from_] 2)) w5 → (w5.cell? ⟨wr.heap.size, 2, none⟩ = some (.int .i64 x.from_) ∧ w5.cell? ⟨wr.heap.size, 3, none⟩ = some (.int .i64 x.to_) ∧ MapI w5 w.heap.size f k) from fun w5 hm => by
          have hl := blk_lt HBX.out
          have hh := ((hm.block wr.heap.size (by simp; omega) (fun e => by have := (HGR.out.2.1 x.to_).ltG _ e; omega)).trans (((Grow.rfl' wx).allocd _).heapEq hl)).trans HBX.out
          exact ⟨by rw [blk_cell hh]; rfl, by rw [blk_cell hh]; rfl, HMX.out w5 hm⟩)
        have HEND := Lib.hid (show ∀ v5 w5 ob5 w6, OwnS w5 2 1 v5 ((insE (E.take k) typ x.to_).length + 1) (rows.flatten ++ [.int .i64 x.from_]) ob5 → Mod (fun y => ob x.to_ = some y) (wx.alloc (.cells #[.int .i64 x.from_] 2)) w5 →
            (ob5 = ob x.to_ ∨ ∃ g, ob5 = some g ∧ (wx.alloc (.cells #[.int .i64 x.from_] 2)).heap.size ≤ g) → MapI w6 w.heap.size (fput f x.to_ v5) (k + 1) → Mod (fun r => r = w.heap.size) w5 w6 →
            ∃ (k' : Nat) (f' : Int → Option Value) (ob' : Int → Option Nat), k' ≤ E.length ∧ E.length - (k + 1) = E.length - k' ∧ (Value.int .i64 ((k : Int) + 1)) = .int .i64 k' ∧ GroupsI w6 w.heap.size k' 2 1 RFrom w2.heap.size f' ob' (insE (E.take k') typ) ∧ Mod (fun b => b = w.heap.size) w2 w6 from fun v5 w5 ob5 w6 p1 p2 p3 u1 u3 => by
          have hlo : w2.heap.size ≤ (wx.alloc (.cells #[.int .i64 x.from_] 2)).heap.size := Nat.le_trans HMD.out.size (HGX.out.allocd _).size
          have hst := HGR.out.step (HGX.out.allocd _) p2 (OwnL.push HR1.out HR2.out (y := x) (r := [.int .i64 x.from_]) rfl rfl p1) p3 hlo u1 u3
          exact ⟨k + 1, _, _, by omega, rfl, by simp, hst.congr (fun q => (insE_put HX.out HFY.out q).symm), ((HMD.out.step (Mod.of_grow (HGX.out.allocd _))).step' p2 (fun y hy => .inr (HOB.out _ _ hy).1)).step u3⟩)
        clear hr1 hr2 hos
        refine wp_region_noPanic ?_
        refine wp_region_K (S := (fun w' => w'.cell? ⟨wr.heap.size, 2, none⟩ = some (.int .i64 x.from_) ∧ w'.cell? ⟨wr.heap.size, 3, none⟩ = some (.int .i64 x.to_) ∧ MapI w' w.heap.size f k)) (by kernel_rfl) 11 (by decide) ?_ (fun hHeld => ?_)
        · exact HSS.out _ ((Grow.rfl' _).drewd)
        rw [← hwx] at hHeld ⊢
        clear hwx
        refine' headK_take (i := 0) (oi := ?o13) (v := _) (by simp only [List.getElem?_toArray, List.getElem?_cons_zero]; rfl) (by kernel_rfl) (by kernel_rfl) (by kernel_rfl) (by decide) (by decide) (by kernel_rfl) (by kernel_rfl) (fun _ _ _ h => h) (Or.inl ⟨by rfl, ?y13⟩) (by assumption) ?r13
        case y13 =>
          intro wS hSw
          try dsimp only at hSw
          go_simp
          all_goals with_reducible rfl
        simp only [Act.put, List.setIfInBounds_toArray, List.set_cons_zero, List.set_cons_succ]
        refine' headK_take (i := 1) (oi := ?o14) (v := _) (by simp only [List.getElem?_toArray, List.getElem?_cons_succ, List.getElem?_cons_zero]; rfl) (by kernel_rfl) (by kernel_rfl) (by kernel_rfl) (by decide) (by decide) (by kernel_rfl) (by kernel_rfl) (fun _ _ _ h => h) (Or.inl ⟨by rfl, ?y14⟩) (by assumption) ?r14
        case y14 =>
          intro wS hSw
          try dsimp only at hSw
          go_simp
          all_goals with_reducible rfl
        simp only [Act.put, List.setIfInBounds_toArray, List.set_cons_zero, List.set_cons_succ]
        refine' headK_take (i := 2) (oi := ?o15) (v := _) (by simp only [List.getElem?_toArray, List.getElem?_cons_succ, List.getElem?_cons_zero]; rfl) (by kernel_rfl) (by kernel_rfl) (by kernel_rfl) (by decide) (by decide) (by kernel_rfl) (by kernel_rfl) (fun _ _ _ h => h) (Or.inl ⟨by rfl, ?y15⟩) (by assumption) ?r15
        case y15 =>
          intro wS hSw
          try dsimp only at hSw
          go_simp
          all_goals with_reducible rfl
        simp only [Act.put, List.setIfInBounds_toArray, List.set_cons_zero, List.set_cons_succ]
        refine' headK_take (i := 3) (oi := ?o16) (v := _) (by simp only [List.getElem?_toArray, List.getElem?_cons_succ, List.getElem?_cons_zero]; rfl) (by kernel_rfl) (by kernel_rfl) (by kernel_rfl) (by decide) (by decide) (by kernel_rfl) (by kernel_rfl) (fun _ _ _ h => h) (Or.inl ⟨by rfl, ?y16⟩) (by assumption) ?r16
        case y16 =>
          intro wS hSw
          try dsimp only at hSw
          go_simp
          all_goals with_reducible rfl
        simp only [Act.put, List.setIfInBounds_toArray, List.set_cons_zero, List.set_cons_succ]
        refine' headK_take (i := 4) (oi := ?o17) (v := _) (by simp only [List.getElem?_toArray, List.getElem?_cons_succ, List.getElem?_cons_zero]; rfl) (by kernel_rfl) (by kernel_rfl) (by kernel_rfl) (by decide) (by decide) (by kernel_rfl) (by kernel_rfl) (fun _ _ _ h => h) (Or.inl ⟨by rfl, ?y17⟩) (by assumption) ?r17
        case y17 =>
          intro wS hSw
          try dsimp only at hSw
          go_simp
          all_goals with_reducible rfl
        simp only [Act.put, List.setIfInBounds_toArray, List.set_cons_zero, List.set_cons_succ]
        refine' headK_take (i := 5) (oi := ?o18) (v := _) (by simp only [List.getElem?_toArray, List.getElem?_cons_succ, List.getElem?_cons_zero]; rfl) (by kernel_rfl) (by kernel_rfl) (by kernel_rfl) (by decide) (by decide) (by kernel_rfl) (by kernel_rfl) (fun _ _ _ h => h) (Or.inl ⟨by rfl, ?y18⟩) (by assumption) ?r18
        case y18 =>
          intro wS hSw
          try dsimp only at hSw
          go_simp
          all_goals with_reducible rfl
        simp only [Act.put, List.setIfInBounds_toArray, List.set_cons_zero, List.set_cons_succ]
        refine' headK_take (i := 6) (oi := ?o19) (v := _) (by simp only [List.getElem?_toArray, List.getElem?_cons_succ, List.getElem?_cons_zero]; rfl) (by kernel_rfl) (by kernel_rfl) (by kernel_rfl) (by decide) (by decide) (by kernel_rfl) (by kernel_rfl) (fun _ _ _ h => h) (Or.inl ⟨by rfl, ?y19⟩) (by assumption) ?r19
        case y19 =>
          intro wS hSw
          try dsimp only at hSw
          refine exec_lookI (k := x.to_) hSw.2.2 (.tmp 35) (.tmp 37) ?_ Tryz.underlying120 Tryz.underlying2 (zeroIds _) ?_ ?_
          all_goals rfl
        simp only [Act.put, List.setIfInBounds_toArray, List.set_cons_zero, List.set_cons_succ]
        refine' headK_take (i := 7) (oi := ?o20) (v := _) (by simp only [List.getElem?_toArray, List.getElem?_cons_succ, List.getElem?_cons_zero]; rfl) (by kernel_rfl) (by kernel_rfl) (by kernel_rfl) (by decide) (by decide) (by kernel_rfl) (by kernel_rfl) (fun _ _ _ h => h) (Or.inl ⟨by rfl, ?y20⟩) (by assumption) ?r20
        case y20 =>
          intro wS hSw
          try dsimp only at hSw
          go_simp
          all_goals with_reducible rfl
        simp only [Act.put, List.setIfInBounds_toArray, List.set_cons_zero, List.set_cons_succ]
        refine' headK_take (i := 8) (oi := ?o21) (v := _) (by simp only [List.getElem?_toArray, List.getElem?_cons_succ, List.getElem?_cons_zero]; rfl) (by kernel_rfl) (by kernel_rfl) (by kernel_rfl) (by decide) (by decide) (by kernel_rfl) (by kernel_rfl) (fun _ _ _ h => h) (Or.inl ⟨by rfl, ?y21⟩) (by assumption) ?r21
        case y21 =>
          intro wS hSw
          try dsimp only at hSw
          go_simp
          all_goals with_reducible rfl
        simp only [Act.put, List.setIfInBounds_toArray, List.set_cons_zero, List.set_cons_succ]
        refine' headK_one (i := 9) (o := ?o22) (by simp only [List.getElem?_toArray, List.getElem?_cons_succ, List.getElem?_cons_zero]; rfl) (by kernel_rfl) (by decide) (fun K hK => ?s22)
        go_simp
        refine hK.out _ _ ?_ (fun hHeld => ?_)
        · exact HSS.out _ (HLX.out.allocd _)
        clear hK K
        try simp only [Act.put, List.setIfInBounds_toArray, List.set_cons_zero, List.set_cons_succ]
        refine' headK_one (i := 10) (o := ?o23) (by simp only [List.getElem?_toArray, List.getElem?_cons_succ, List.getElem?_cons_zero]; rfl) (by kernel_rfl) (by decide) (fun K hK => ?s23)
        refine step_append_S rfl (.tmp 38) (.tmp 41) 30 rfl 2 iP _ 1 8 Tryz.underlying30 hiP hzP0 hzP1 hzP2 rfl (by decide) ((f x.to_).getD (.slice none 0 0)) (insE (E.take k) typ x.to_).length rows.flatten (ob x.to_) (by rfl) (HOS.out _) (.slice (some ⟨wx.heap.size, 0, none⟩) 1 1) (by rfl) 1 _ HRD.out (one1 _ rfl) (by have := HLE.out; unfold maxLen; omega) (by have := HLE.out; omega) ?_
        intro v5 w5 ob5 p1 p2 p3 _
        have P1 := Lib.hid p1; have P2 := Lib.hid p2; have P3 := Lib.hid p3
        have HM5 := Lib.hid (HMX.out _ p2)
        have HS5 := Lib.hid (HSX.out _ p2)
        clear p1 p2 p3
        refine hK.out _ _ ?_ (fun hHeld => ?_)
        · exact HS5.out
        clear hK K
        try simp only [Act.put, List.setIfInBounds_toArray, List.set_cons_zero, List.set_cons_succ]
        refine' headK_last (o := ?o24) (by simp only [List.getElem?_toArray, List.getElem?_cons_succ, List.getElem?_cons_zero]; rfl) (by kernel_rfl) (by kernel_rfl) (fun K hK => ?s24)
        refine step_updI rfl (.tmp 32) (.tmp 34) (.tmp 42) rfl Tryz.underlying120 Tryz.underlying2 (by rfl) HM5.out (by rfl) (by rfl) ?_
        intro w6 u1 u2 u3 u4
        refine hK.out _ _ ?_
        clear hK K
        try simp only [Act.put]
        refine NoPanic.normal ?_
        go_wp2_with fail
        go_roundg (E.length - (k + 1))
        case measure => omega
        case rel => exact HEND.out _ _ _ _ P1.out P2.out P3.out u1 u3
    · have hkk : E.take k = E := List.take_of_length_le (by omega)
      rw [hkk] at HGR
      obtain ⟨w3, rfl⟩ : ∃ w3 : World, w3 = wr := ⟨_, rfl⟩
      obtain ⟨fb, nb, hmb, hbb, hsg⟩ := HGR.out.toR' (Nat.le_refl _) (Nat.le_of_lt hwl)
      have hsz := HMD.out.size
      have HG3 := Lib.hid (show Grow w w3 from HG2.out.modd HMD.out (fun b hb => by omega))
      have HMB := Lib.hid hmb; have HBB := Lib.hid hbb; have HSG := Lib.hid hsg
      clear HGR hmb hbb hsg hsz
      obtain ⟨w4, hins, hm4, -, hd4, hs4⟩ := (MapI.made w3).update (P := Tryz.prog) Tryz.underlying80 Tryz.underlying2 t (.int .i64 0)
      have HM4 := Lib.hid (show MapI w4 w3.heap.size (distF (nput (fun _ => none) t 0)) 1 by
        have e : fput (fun _ => none) t (.int .i64 0) = distF (nput (fun _ => none) t 0) := by
          funext x
          by_cases hx : x = t <;> simp [fput, distF, nput, hx]
        rw [← e]
        exact hm4)
      have HG4 := Lib.hid (show Grow w3 w4 from ((Grow.rfl' w3).allocd _).modd hd4 (fun b hb => by omega))
      have hs5 : w4.heap.size = w3.heap.size + 1 := by simpa using hs4
      have HT4 := Lib.hid (show OwnT (w4.alloc (.cells #[.int .i64 t] 2)) 2 (.slice (some ⟨w4.heap.size, 0, none⟩) 1 1) ([t].map (Value.int .i64 ·)) (some w4.heap.size) from
        (OwnS.lit w4 #[.int .i64 t] 2 1 1 (by unfold maxLen; omega) rfl).toT)
      have HW4 := Lib.hid (show ∀ o1, Grow w4 (w4.alloc o1) from fun o1 => (Grow.rfl' w4).allocd o1)
      have HS5 := Lib.hid hs5
      clear hm4 hd4 hs4 hs5
      go_wp2
      have HZ0 := Lib.hid (show ∀ z q, nput (fun _ => none) t 0 z = some q → q ≤ ([] : List Int).length from fun z q hz => by
        by_cases e : z = t
        · rw [e, nput_same] at hz; cases hz; simp
        · rw [nput_other _ _ e] at hz; cases hz)
      go_loopg [11] (E.length + 1) (fun g tv wr => ∃ (fN : Int → Option Nat) (dn todo : List Int) (n : Nat) (ob : Option Nat), g = E.length + 1 - dn.length ∧ QI E typ t fN dn todo ∧ (∀ z q, fN z = some q → q ≤ dn.length) ∧ MapI wr w3.heap.size (distF fN) n ∧ OwnT wr 2 tv (todo.map (Value.int .i64 ·)) ob ∧ (∀ q, ob = some q → w3.heap.size < q) ∧ Grow w3 wr)
      case atStart => exact ⟨_, [], [t], 1, _, by simp, QI.start t, HZ0.out, HM4.out.grow (HW4.out _), HT4.out, fun q hq => by cases hq; have := HS5.out; omega, HG4.out.step (HW4.out _)⟩
      case round =>
        clear HM4 HT4 HW4 HG4 hins HS5
        obtain ⟨wo, rfl⟩ : ∃ wo : World, wo = wr := ⟨_, rfl⟩
        obtain ⟨fN, dn, todo, n, ob, rfl, hqi, hdb, hmp, hot, hob, hgo⟩ := hrel
        have HQI := Lib.hid hqi; have HDB := Lib.hid hdb; have HMP := Lib.hid hmp; have HOT := Lib.hid hot; have HOB := Lib.hid hob; have HGO := Lib.hid hgo
        rcases todo with _ | ⟨y, s⟩
        · obtain ⟨oa, cap, rfl, -, -⟩ := hot.isSlice
          clear hqi hdb hmp hot hob hgo
          go_wp2
          go_ret
          exact ⟨_, fN, n, rfl, HMP.out, HQI.out.done, Nat.le_trans HG3.out.size (Nat.le_refl _), HG3.out.step HGO.out⟩
        · obtain ⟨d, hfy, hqp⟩ := hqi.open
          have HQP := Lib.hid hqp
          have HDD := Lib.hid (hdb y d hfy)
          obtain ⟨g, off, cap, rfl, rfl, hg, hsc, hcm, hcc⟩ := hot.cell (by simp)
          have c0 : wo.cell? ⟨g, off, none⟩ = some (.int .i64 y) := by simpa using hcc 0 _ rfl
          simp only [List.length_cons, List.length_map] at hsc HOT ⊢
          unfold maxLen at hcm
          clear hqi hdb hmp hot hob hgo hcc hqp hfy
          obtain ⟨la, lc, hlv, hal, hac, -⟩ := SlR.open (HSG.out y)
          have HLV := Lib.hid hlv
          have HSL := Lib.hid (show SlR (fun b => w.heap.size ≤ b ∧ b < w3.heap.size) w3 1 RFrom (.slice la (insE E typ y).length lc) (insE E typ y) from hlv ▸ HSG.out y)
          clear hlv
          unfold maxLen at hac
          obtain ⟨L, hL⟩ : ∃ L, L = insE E typ y := ⟨_, rfl⟩
          rw [← hL] at HSL HLV hal
          have HLE := Lib.hid hL
          clear hL
          have HLB := Lib.hid (HMB.out.grow HGO.out)
          have hz0 : (0 : Int) < (s.length : Int) + 1 := by omega
          go_wp2_with (at_lookup; go_must (refine wpList_lookIv _ rfl (.tmp 54) (.tmp 57) 120 rfl 2 30 Tryz.underlying120 Tryz.underlying2 (.slice none 0 0) (zeroIds _) _ _ _ rfl HLB.out y rfl (.slice la L.length lc) HLV.out ?_))
          go_wp2_with fail
          clear c0
          go_loopg [11, 60] L.length (fun g tv iv wy => ∃ (i : Nat) (fN : Int → Option Nat) (s : List Int) (n : Nat) (ob : Option Nat), i ≤ L.length ∧ g = L.length - i ∧ iv = .int .i64 i ∧ QP E typ t fN dn y d s (L.take i) ∧ (d ≤ dn.length ∧ ∀ z q, fN z = some q → q ≤ dn.length + 1) ∧ MapI wy w3.heap.size (distF fN) n ∧ OwnT wy 2 tv ((y :: s).map (Value.int .i64 ·)) ob ∧ (∀ q, ob = some q → w3.heap.size < q) ∧ Grow w3 wy)
          case atStart => exact ⟨0, fN, s, n, some g, by omega, by omega, rfl, HQP.out, ⟨HDD.out, fun z q hz => by have := HDB.out z q hz; omega⟩, HMP.out, by simpa using HOT.out, HOB.out, HGO.out⟩
          case round =>
            clear HOT HOB HGO HMP HQP HLB HDB hsc hcm hg hz0
            obtain ⟨wy, rfl⟩ : ∃ wy : World, wy = wr := ⟨_, rfl⟩
            obtain ⟨i, fN, s, n, ob, hi, rfl, rfl, hqp, hdb, hmp, hot, hob, hgy⟩ := hrel
            have HQP := Lib.hid hqp; have HDB := Lib.hid hdb; have HMP := Lib.hid hmp; have HOT := Lib.hid hot; have HOB := Lib.hid hob; have HGY := Lib.hid hgy
            obtain ⟨g, off, cap, rfl, rfl, hg, hsc, hcm, hcc⟩ := hot.cell (by simp)
            have c0 : wy.cell? ⟨g, off, none⟩ = some (.int .i64 y) := by simpa using hcc 0 _ rfl
            simp only [List.length_cons, List.length_map] at hsc HOT ⊢
            unfold maxLen at hcm
            clear hqp hdb hmp hot hob hgy hcc
            by_cases hil : i < L.length
            · have hx := List.getElem?_eq_getElem hil
              obtain ⟨ba, oa, rfl, hba, a0⟩ := fromCells HSL.out HGY.out hx
              have HTK := Lib.hid (show L.take (i + 1) = L.take i ++ [L[i]] from List.take_succ_eq_append_getElem hil)
              have HME := Lib.hid (show L[i] ∈ L from List.getElem_mem hil)
              clear hx
              generalize L[i] = x at *
              cases hfx : fN x.from_ with
              | some d' =>
                have HLK := Lib.hid (distF_some hfx)
                have HNX := Lib.hid (show QP E typ t fN dn y d s (L.take (i + 1)) by rw [HTK.out]; exact HQP.out.skip hfx)
                clear hfx
                go_wp2_with (at_lookup; go_must (refine wpList_lookIok _ rfl (.tmp 65) (.tmp 66) 80 rfl 2 3 Tryz.underlying80 Tryz.underlying2 (.int .i64 0) (zeroInt _) _ _ _ rfl HMP.out x.from_ rfl (.int .i64 d') true HLK.out ?_))
                go_wp2_with fail
                go_roundg (L.length - (i + 1))
                case measure => omega
                case rel => exact ⟨i + 1, fN, s, n, _, by omega, rfl, by go_num, HNX.out, HDB.out, HMP.out, HOT.out, HOB.out, HGY.out⟩
              | none =>
                have HLK := Lib.hid (distF_none hfx)
                have HLY := Lib.hid (distF_get HQP.out.at_)
                have hdb : d ≤ 4096 := by have := HDB.out.1; have := HQP.out.len; have := HB.out; omega
                have HNX := Lib.hid (show QP E typ t (nput fN x.from_ (d + 1)) dn y d (s ++ [x.from_]) (L.take (i + 1)) by rw [HTK.out]; exact HQP.out.add (HLE.out ▸ HME.out) hfx)
                have HDX := Lib.hid (show d ≤ dn.length ∧ ∀ z q, nput fN x.from_ (d + 1) z = some q → q ≤ dn.length + 1 from ⟨HDB.out.1, fun z q hz => by
                  by_cases e : z = x.from_
                  · rw [e, nput_same] at hz; cases hz; have := HDB.out.1; omega
                  · rw [nput_other _ _ e] at hz; exact HDB.out.2 z q hz⟩)
                clear hfx
                go_wp2_with (first | (at_lookup; (refine wpList_lookIok _ rfl (.tmp 65) (.tmp 66) 80 rfl 2 3 Tryz.underlying80 Tryz.underlying2 (.int .i64 0) (zeroInt _) _ _ _ rfl HMP.out x.from_ rfl (.int .i64 0) false HLK.out ?_)) | (at_lookup; (refine wpList_lookIv _ rfl (.tmp 74) (.tmp 77) 80 rfl 2 3 Tryz.underlying80 Tryz.underlying2 (.int .i64 0) (zeroInt _) _ _ _ rfl HMP.out y rfl (.int .i64 d) HLY.out ?_)) | (at_mapUpdate; go_must (refine wpList_updI _ rfl (.tmp 72) (.tmp 73) (.tmp 79) 80 rfl 2 3 Tryz.underlying80 Tryz.underlying2 _ _ _ rfl HMP.out x.from_ rfl (.int .i64 ((d : Int) + 1)) rfl ?_)))
                intro w5 u1 _ u3 u4
                have HU1 := Lib.hid (show MapI w5 w3.heap.size (distF (nput fN x.from_ (d + 1))) (n + 1) by rw [← distF_put]; exact u1)
                have HG5 := Lib.hid (show Grow w3 w5 from HGY.out.modd u3 (fun b hb => by omega))
                have HT5 := Lib.hid (HOT.out.mod u3 (fun q hq e => by have := HOB.out q hq; omega))
                have HW5 := Lib.hid (show ∀ o1, Grow w5 (w5.alloc o1) from fun o1 => (Grow.rfl' w5).allocd o1)
                have HNE := Lib.hid (show (w5.alloc (.cells #[.int .i64 x.from_] 2)).cell? ⟨w5.heap.size, 0, none⟩ = some (.int .i64 x.from_) by rw [blk_cell (heap_alloc_new w5 _)]; rfl)
                have HLN := Lib.hid (show s.length + 2 ≤ 4096 by have := HQP.out.len; have := HB.out; omega)
                clear u1 u3 u4
                go_wp2_with (at_builtin; go_must (refine wpList_append_T _ rfl (.tmp 80) (.tmp 82) 30 rfl 2 iP _ 8 Tryz.underlying30 hiP hzP0 hzP1 hzP2 rfl (.slice (some ⟨g, off, none⟩) (s.length + 1) cap) ((y :: s).map (Value.int .i64 ·)) (some g) rfl (HT5.out.grow (HW5.out _)) ⟨w5.heap.size, 0, none⟩ 1 rfl (.int .i64 x.from_) HNE.out rfl (by have := HLN.out; simp; unfold maxLen; omega) (by have := HLN.out; simp; omega) ?_))
                intro v6 w6 ob6 p1 p2 p3
                have HT6 := Lib.hid (show OwnT w6 2 v6 ((y :: (s ++ [x.from_])).map (Value.int .i64 ·)) ob6 by simpa using p1)
                have HM6 := Lib.hid ((HU1.out.grow (HW5.out _)).mod p2 (fun h => by cases h; have := HOB.out _ rfl; omega))
                have HG6 := Lib.hid (show Grow w3 w6 from (HG5.out.step (HW5.out _)).modd p2 (fun b hb => by cases hb; have := HOB.out _ rfl; omega))
                have HO6 := Lib.hid (show ∀ q, ob6 = some q → w3.heap.size < q from fun q hq => by
                  have h1 := HG5.out.size
                  have h2 := HU1.out.lt
                  rcases p3 with p3 | ⟨g', p3, hge⟩
                  · exact HOB.out q (by rw [← p3]; exact hq)
                  · rw [p3] at hq; cases hq; first | omega | (simp at hge; omega))
                clear p1 p2 p3
                go_wp2_with fail
                go_roundg (L.length - (i + 1))
                case measure => omega
                case rel => exact ⟨i + 1, _, _, _, ob6, by omega, rfl, by go_num, HNX.out, HDX.out, HM6.out, HT6.out, HO6.out, HG6.out⟩
            · have HFN := Lib.hid (show QI E typ t fN (dn ++ [y]) s by
                have h := HQP.out
                rw [List.take_of_length_le (by omega), HLE.out] at h
                exact h.next)
              have HDX := Lib.hid (show ∀ z q, fN z = some q → q ≤ (dn ++ [y]).length by
                rw [List.length_append, List.length_singleton]
                exact HDB.out.2)
              by_cases hc1 : cap = 1
              · subst hc1
                have hs0 : s.length = 0 := by omega
                obtain rfl : s = [] := List.eq_nil_of_length_eq_zero hs0
                have HTT := Lib.hid (OwnT.tail1 (oa := some ⟨g, off, none⟩) HOT.out).2
                clear hs0
                go_wp2_with fail
                go_roundg (E.length + 1 - (dn.length + 1))
                case measure => have := HQP.out.len; omega
                case rel => exact ⟨fN, dn ++ [y], [], n, none, by simp, HFN.out, HDX.out, HMP.out, HTT.out, by simp, HGY.out⟩
              · have HTT := Lib.hid (OwnT.tail HOT.out hc1)
                have hq1 : (1 : Int) ≤ (s.length : Int) + 1 := by omega
                have hq2 : (s.length : Int) + 1 ≤ (cap : Int) := by omega
                have hq3 : (1 : Int) ≤ (cap : Int) := by omega
                have hc2 : ¬ (1 = cap) := fun e => hc1 e.symm
                go_wp2_with fail
                go_roundg (E.length + 1 - (dn.length + 1))
                case measure => have := HQP.out.len; omega
                case rel => exact ⟨fN, dn ++ [y], s, n, some g, by simp, HFN.out, HDX.out, HMP.out, by simpa using HTT.out, HOB.out, HGY.out⟩
end Go.Hg

namespace Go.Hg
open Go.RowKit Go.Proofs

theorem dst_le {E : List PEdge} {typ : ByteArray} {t x : Int} {d : Nat} (h : Dst E typ t d x) : d ≤ E.length := by
  have key : ∀ (d : Nat) (x : Int), Dst E typ t d x → ∃ l : List Int, l.Nodup ∧ l.length = d ∧ ∀ y ∈ l, (∃ k, k ≤ d ∧ Dst E typ t k y) ∧ ∃ e ∈ E, e.from_ = y := by
    intro d
    induction d with
    | zero => exact fun _ _ => ⟨[], by simp, rfl, by simp⟩
    | succ d ih =>
      intro x hx
      obtain ⟨z, hs, hz⟩ := hx.step
      obtain ⟨l, h1, h2, h3⟩ := ih z hz
      refine ⟨x :: l, List.nodup_cons.2 ⟨fun hm => ?_, h1⟩, by simp [h2], fun y hy => ?_⟩
      · obtain ⟨⟨k, hk, hd⟩, -⟩ := h3 x hm
        have := hx.uniq hd
        omega
      · rcases List.mem_cons.1 hy with rfl | hy
        · obtain ⟨e, he, -, hf, -⟩ := hs
          exact ⟨⟨d + 1, Nat.le_refl _, hx⟩, e, he, hf⟩
        · obtain ⟨⟨k, hk, hd⟩, he⟩ := h3 y hy
          exact ⟨⟨k, by omega, hd⟩, he⟩
  obtain ⟨l, h1, h2, h3⟩ := key d x h
  have := nodup_le (fun e : PEdge => e.from_) E l h1 (fun y hy => (h3 y hy).2)
  omega

set_option maxRecDepth 100000 in
set_option maxHeartbeats 16000000 in
theorem adjPath (gv : Value) (E : List PEdge) (from_ t : Int) (typ : ByteArray) (w : World) (hE : EdgesAt gv E w) (hb : E.length ≤ 1024) :
    Calls Tryz.prog 12 #[gv, .int .i64 from_, .int .i64 t, .string typ] w fun e w' => ∃ v L, e = .returned v ∧ PathS E typ from_ t L ∧ IdsR (fun x => w.heap.size ≤ x) w' v L ∧ Grow w w' := by
  have HE := Lib.hid hE; have HB := Lib.hid hb
  obtain ⟨iP, hiP, hzP0, hzP1, hzP2⟩ := info_parts infoInt
  clear hE hb
  by_cases hft : from_ = t
  · subst hft
    have HN := Lib.hid ((IdsO.toR (S := fun x => w.heap.size ≤ x) (w := w) (l := []) (ob := none) (OwnS.nil w 2 1)) (by simp))
    go_enter Tryz.func12, Tryz.ntmps12
    go_wp2
    go_step3
    go_wp2
    try rw [Exit.noGoto_ret]
    go_ret
    exact ⟨_, [], rfl, .inl ⟨rfl, rfl⟩, HN.out, Grow.rfl' w⟩
  have hfb : (from_ == t) = false := by simpa using hft
  have HNE := Lib.hid hft
  clear hft
  go_enter Tryz.func12, Tryz.ntmps12
  go_wp2
  go_step3
  go_wp2_with fail
  refine (adjWays gv E typ w HE.out HB.out).mono ?_
  rintro e w2 ⟨bl, rfl, hgs, hg2⟩
  obtain ⟨f, nb, hmb, hbb, hsg⟩ := hgs
  have HMB := Lib.hid hmb; have HBB := Lib.hid hbb; have HSG := Lib.hid hsg; have HG2 := Lib.hid hg2
  clear hmb hbb hsg hg2
  go_wp2_with fail
  refine (adjDist gv E t typ w2 (HE.out.grow HG2.out) HB.out).mono ?_
  rintro e w3 ⟨bf, fN, nf, rfl, hmf, hds, hbf, hg3⟩
  have HMF := Lib.hid hmf; have HDS := Lib.hid hds; have HG23 := Lib.hid hg3; have HG3 := Lib.hid (HG2.out.step hg3)
  clear hmf hds hbf hg3
  cases hff : fN from_ with
  | none =>
    have HLK := Lib.hid (distF_none hff)
    have HNW := Lib.hid (show ∀ d, ¬ Wlk E typ t d from_ from fun d hw => by
      obtain ⟨q, -, hq⟩ := hw.dst
      rw [(HDS.out _ _).2 hq] at hff
      cases hff)
    have HN := Lib.hid ((IdsO.toR (S := fun x => w.heap.size ≤ x) (w := w3) (l := []) (ob := none) (OwnS.nil w3 2 1)) (by simp))
    clear hff
    go_wp2_with (at_lookup; go_must (refine wpList_lookIok _ rfl (.tmp 30) (.tmp 31) 80 rfl 2 3 Tryz.underlying80 Tryz.underlying2 (.int .i64 0) (zeroInt _) _ _ _ rfl HMF.out from_ rfl (.int .i64 0) false HLK.out ?_))
    go_wp2
    try rw [Exit.noGoto_ret]
    go_ret
    exact ⟨_, [], rfl, .inr (.inl ⟨HNE.out, HNW.out, rfl⟩), HN.out, HG3.out⟩
  | some d0 =>
    have HLK := Lib.hid (distF_some hff)
    have HDF := Lib.hid ((HDS.out _ _).1 hff)
    have HB4 := Lib.hid (show d0 ≤ 2048 by
      have := dst_le HDF.out
      have := HB.out
      omega)
    clear hff
    go_wp2_with (at_lookup; go_must (refine wpList_lookIok _ rfl (.tmp 30) (.tmp 31) 80 rfl 2 3 Tryz.underlying80 Tryz.underlying2 (.int .i64 0) (zeroInt _) _ _ _ rfl HMF.out from_ rfl (.int .i64 d0) true HLK.out ?_))
    go_wp2
    go_step3
    go_wp2
    go_loopg [13, 14] d0 (fun g ov av wr => ∃ (x : Int) (d : Nat) (pre : List Int) (ob : Option Nat), d = g ∧ av = .int .i64 x ∧ Dst E typ t d x ∧ IdsO wr ov pre ob ∧ (∀ q, ob = some q → w3.heap.size ≤ q) ∧ (∀ l, PathR E typ t d x l → PathR E typ t d0 from_ (pre ++ l)) ∧ pre.length + d = d0 ∧ Grow w3 wr)
    case atStart => exact ⟨from_, d0, [], none, rfl, rfl, HDF.out, OwnS.nil _ _ _, by simp, fun l hl => hl, by simp, Grow.rfl' w3⟩
    case round =>
      obtain ⟨wo, rfl⟩ : ∃ wo : World, wo = wr := ⟨_, rfl⟩
      obtain ⟨x, dd, pre, ob, rfl, rfl, hdx, hoo, hob, hpr, hde, hgo⟩ := hrel
      have HDX := Lib.hid hdx; have HOO := Lib.hid hoo; have HOB := Lib.hid hob; have HPR := Lib.hid hpr; have HDE := Lib.hid hde; have HGO := Lib.hid hgo
      obtain ⟨oo, co, rfl, -, -⟩ := hoo.isSlice
      clear hdx hoo hob hpr hde hgo
      by_cases hxt : x = t
      · subst hxt
        have hd0 : dd = 0 := HDX.out.uniq (Dst.zero.2 rfl)
        subst hd0
        have HFIN := Lib.hid (show PathR E typ x d0 from_ pre by
          have h := HPR.out [] rfl
          rwa [List.append_nil] at h)
        go_wp2
        try rw [Exit.noGoto_ret]
        go_ret
        exact ⟨_, pre, rfl, .inr (.inr ⟨HNE.out, d0, HDF.out, HFIN.out⟩), HOO.out.toR (fun q hq => Nat.le_trans HG3.out.size (HOB.out q hq)), HG3.out.step HGO.out⟩
      · obtain ⟨d, rfl⟩ : ∃ d, dd = d + 1 := by
          rcases dd with _ | d
          · exact absurd (Dst.zero.1 HDX.out) hxt
          · exact ⟨d, rfl⟩
        have hxb : (x == t) = false := by simpa using hxt
        have hdb : d + 1 ≤ 4096 := by have := HDE.out; have := HB4.out; omega
        have HLN := Lib.hid (show pre.length + 1 ≤ 4096 by have := HDE.out; have := HB4.out; omega)
        have HLX := Lib.hid (show (distF fN x).getD (.int .i64 0) = .int .i64 ((d : Int) + 1) by
          rw [distF_get ((HDS.out _ _).2 HDX.out)]
          rfl)
        obtain ⟨la, lc, hlv, hal, hac, -⟩ := SlR.open (HSG.out x)
        have HLV := Lib.hid hlv
        have HSL := Lib.hid (show SlR (fun b => w.heap.size ≤ b ∧ b < w2.heap.size) w2 2 REnd (.slice la (outsE E typ x).length lc) (outsE E typ x) from hlv ▸ HSG.out x)
        clear hlv
        unfold maxLen at hac
        obtain ⟨L, hL⟩ : ∃ L, L = outsE E typ x := ⟨_, rfl⟩
        rw [← hL] at HSL HLV hal
        have HLE := Lib.hid hL
        clear hL
        have HLB := Lib.hid ((HMB.out.grow HG23.out).grow HGO.out)
        clear hxt
        go_wp2_with (at_lookup; go_must (refine wpList_lookIv _ rfl (.tmp 41) (.tmp 42) 78 rfl 2 83 Tryz.underlying78 Tryz.underlying2 (.slice none 0 0) (zeroEnds _) _ _ _ rfl HLB.out x rfl (.slice la L.length lc) HLV.out ?_))
        go_wp2_with fail
        go_loopg [13, 14, 45] L.length (fun g ov av iv wy => ∃ (i : Nat), i ≤ L.length ∧ g = L.length - i ∧ ov = .slice oo pre.length co ∧ av = .int .i64 x ∧ iv = .int .i64 i ∧ (∀ e' ∈ L.take i, ¬ Dst E typ t d e'.to_) ∧ Grow wo wy)
        case atStart => exact ⟨0, by omega, by omega, rfl, rfl, rfl, by simp, Grow.rfl' wo⟩
        case round =>
          obtain ⟨wy, rfl⟩ : ∃ wy : World, wy = wr := ⟨_, rfl⟩
          obtain ⟨i, hi, rfl, rfl, rfl, rfl, hno, hgy⟩ := hrel
          have HNO := Lib.hid hno; have HGY := Lib.hid hgy
          clear hno hgy
          by_cases hil : i < L.length
          · have hx := List.getElem?_eq_getElem hil
            obtain ⟨ba, oa, rfl, hba, a0, a1⟩ := endCells (F := fun _ => False) HSL.out (Mod.of_grow ((HG23.out.step HGO.out).step HGY.out)) (fun _ _ => id) hx
            have HZ := Lib.hid hx
            have HTK := Lib.hid (show L.take (i + 1) = L.take i ++ [L[i]] from List.take_succ_eq_append_getElem hil)
            clear hx
            generalize L[i] = z at *
            have HW := Lib.hid (show ∀ o1, Grow wy (wy.alloc o1) from fun o1 => (Grow.rfl' wy).allocd o1)
            have HW2 := Lib.hid (show ∀ o1 o2, Grow wy ((wy.alloc o1).alloc o2) from fun o1 o2 => ((Grow.rfl' wy).allocd o1).allocd o2)
            have HGZ := Lib.hid (show ∀ o1, Grow w3 (wy.alloc o1) from fun o1 => (HGO.out.step HGY.out).allocd o1)
            have hlk : (Instr.lookup 80 (.map (some bf)) (.int .i64 x) false).run Tryz.prog (wy.alloc (.cells #[.int .i64 z.id, .int .i64 z.to_] 85)) = .ok (.int .i64 ((d : Int) + 1)) (wy.alloc (.cells #[.int .i64 z.id, .int .i64 z.to_] 85)) := by
              rw [(HMF.out.grow (HGZ.out _)).look Tryz.underlying80 Tryz.underlying2 (zeroInt _) x, HLX.out]
            cases hfz : fN z.to_ with
            | none =>
              have HLK := Lib.hid (distF_none hfz)
              have HNX := Lib.hid (show ∀ e' ∈ L.take (i + 1), ¬ Dst E typ t d e'.to_ by
                rw [HTK.out]
                intro e' he'
                rcases List.mem_append.1 he' with he' | he'
                · exact HNO.out e' he'
                · rw [List.mem_singleton.1 he']
                  intro h
                  rw [(HDS.out _ _).2 h] at hfz
                  cases hfz)
              clear hfz
              go_wp2_with (at_lookup; go_must (refine wpList_lookIok _ rfl (.tmp 50) (.tmp 52) 80 rfl 2 3 Tryz.underlying80 Tryz.underlying2 (.int .i64 0) (zeroInt _) _ _ _ rfl (HMF.out.grow (HGZ.out _)) z.to_ rfl (.int .i64 0) false HLK.out ?_))
              go_wp2_with fail
              go_roundg (L.length - (i + 1))
              case measure => omega
              case rel => exact ⟨i + 1, by omega, rfl, rfl, rfl, by go_num, HNX.out, HGY.out.step (HW.out _)⟩
            | some q =>
              by_cases hqd : q = d
              · subst hqd
                have HQI := Lib.hid (show Dst E typ t q z.to_ from (HDS.out _ _).1 hfz)
                have HPX := Lib.hid (show ∀ l, PathR E typ t q z.to_ l → PathR E typ t d0 from_ ((pre ++ [z.id]) ++ l) from fun l hl => by
                  rw [List.append_assoc]
                  exact HPR.out _ (PathR.consO (HLE.out ▸ HZ.out) (HLE.out ▸ HNO.out) HQI.out hl))
                have HRD := Lib.hid (Rd.lit (wy.alloc (.cells #[.int .i64 z.id, .int .i64 z.to_] 85)) #[.int .i64 z.id] 2 1 1 rfl)
                have HRD2 := Lib.hid (show Rd ((wy.alloc (.cells #[.int .i64 z.id, .int .i64 z.to_] 85)).alloc (.cells #[.int .i64 z.id] 2)) 1 (.slice (some ⟨wy.heap.size + 1, 0, none⟩) 1 1) 1 [.int .i64 z.id] by
                  have h := HRD.out
                  simp only [World.size_alloc] at h
                  exact h)
                have HLK := Lib.hid (distF_some hfz)
                clear hfz HRD
                go_wp2_with (first | (at_lookup; (refine wpList_lookIok _ rfl (.tmp 50) (.tmp 52) 80 rfl 2 3 Tryz.underlying80 Tryz.underlying2 (.int .i64 0) (zeroInt _) _ _ _ rfl (HMF.out.grow (HGZ.out _)) z.to_ rfl (.int .i64 q) true HLK.out ?_)) | (at_builtin; refine wpList_append_S _ rfl (.tmp 65) (.tmp 68) 30 rfl 2 iP _ 1 8 Tryz.underlying30 hiP hzP0 hzP1 hzP2 rfl (by decide) (.slice oo pre.length co) pre.length _ ob rfl ((HOO.out.grow HGY.out).grow (HW2.out _ _)) (.slice (some ⟨wy.heap.size + 1, 0, none⟩) 1 1) rfl 1 _ HRD2.out (one1 _ rfl) (by have := HLN.out; unfold maxLen; omega) (by have := HLN.out; omega) ?_))
                intro v6 w6 ob6 p1 p2 p3
                have HN6 := Lib.hid (show IdsO w6 v6 (pre ++ [z.id]) ob6 by
                  unfold IdsO
                  rw [List.length_append, List.map_append]
                  exact p1)
                have HG6 := Lib.hid (show Grow w3 w6 from ((HGO.out.step HGY.out).step (HW2.out _ _)).modd p2 (fun b hb => HOB.out b hb))
                have HO6 := Lib.hid (show ∀ q, ob6 = some q → w3.heap.size ≤ q from fun q hq => by
                  have h1 := (HGO.out.step HGY.out).size
                  rcases p3 with p3 | ⟨g, p3, hge⟩
                  · exact HOB.out q (by rw [← p3]; exact hq)
                  · rw [p3] at hq; cases hq; first | omega | (simp at hge; omega))
                have hb6 : w6.heap[wy.heap.size]? = some (.cells #[.int .i64 z.id, .int .i64 z.to_] 85 (0, 0)) := by
                  rw [p2.block wy.heap.size (by simp; omega) (fun h => by have h1 := HOO.out.lt _ h; have h2 := HGY.out.size; omega)]
                  rw [((Grow.rfl' (wy.alloc (.cells #[.int .i64 z.id, .int .i64 z.to_] 85))).allocd _).heapEq (by simp)]
                  exact heap_alloc_new wy _
                have hl6 := blk_lt hb6
                have y1 : w6.cell? ⟨wy.heap.size, 1, none⟩ = some (.int .i64 z.to_) := by rw [blk_cell hb6]; rfl
                clear p1 p2 p3 hb6
                go_wp2_with fail
                go_roundg q
                case measure => omega
                case rel => exact ⟨z.to_, q, pre ++ [z.id], ob6, rfl, rfl, HQI.out, HN6.out, HO6.out, HPX.out, by rw [List.length_append, List.length_singleton]; have := HDE.out; omega, HG6.out⟩
              · have HLK := Lib.hid (distF_some hfz)
                have HNX := Lib.hid (show ∀ e' ∈ L.take (i + 1), ¬ Dst E typ t d e'.to_ by
                  rw [HTK.out]
                  intro e' he'
                  rcases List.mem_append.1 he' with he' | he'
                  · exact HNO.out e' he'
                  · rw [List.mem_singleton.1 he']
                    intro h
                    rw [(HDS.out _ _).2 h] at hfz
                    cases hfz
                    exact hqd rfl)
                have hq1 : ((q : Int) == (d : Int)) = false := beq_eq_false_iff_ne.2 (by omega)
                have hq2 : decide (q = d) = false := by simpa using hqd
                clear hfz
                go_wp2_with (first | (at_lookup; (refine wpList_lookIok _ rfl (.tmp 50) (.tmp 52) 80 rfl 2 3 Tryz.underlying80 Tryz.underlying2 (.int .i64 0) (zeroInt _) _ _ _ rfl (HMF.out.grow (HGZ.out _)) z.to_ rfl (.int .i64 q) true HLK.out ?_)))
                go_wp2_with fail
                go_roundg (L.length - (i + 1))
                case measure => omega
                case rel => exact ⟨i + 1, by omega, rfl, rfl, rfl, by go_num, HNX.out, HGY.out.step (HW.out _)⟩
          · exfalso
            obtain ⟨u, hs, hu⟩ := HDX.out.step
            obtain ⟨e', he', rfl⟩ := stepE_outs.1 hs
            have h := HNO.out
            rw [List.take_of_length_le (by omega), HLE.out] at h
            exact h e' he' hu

end Go.Hg

namespace Go.Hg
open Go.RowKit Go.Proofs

/-- where something stands in a list, or -1 -/
def IdxAt {α : Type} (f : α → Int) (l : List α) (id r : Int) : Prop := (r = -1 ∧ (l.any fun y => decide (f y = id)) = false) ∨ ∃ (k : Nat) (x : α), r = k ∧ l[k]? = some x ∧ f x = id ∧ (l.any fun y => decide (f y = id)) = true
theorem IdxAt.neg {α : Type} {f : α → Int} {l : List α} {id r : Int} (h : IdxAt f l id r) : decide (r < 0) = !(l.any fun y => decide (f y = id)) := by
  rcases h with ⟨rfl, h⟩ | ⟨k, x, rfl, _, _, h⟩
  · rw [h]; rfl
  · rw [h]; simp
theorem IdxAt.pos {α : Type} {f : α → Int} {l : List α} {id r : Int} (h : IdxAt f l id r) : decide (0 ≤ r) = (l.any fun y => decide (f y = id)) := by
  rcases h with ⟨rfl, h⟩ | ⟨k, x, rfl, _, _, h⟩
  · rw [h]; rfl
  · rw [h]; simp
/-- the first place of an Id, or -1 -/
def idxZ {α : Type} (f : α → Int) (l : List α) (id : Int) : Int := match l.findIdx? fun y => decide (f y = id) with | some k => (k : Int) | none => -1
theorem idxZ_at {α : Type} (f : α → Int) (l : List α) (id : Int) : IdxAt f l id (idxZ f l id) := by
  unfold idxZ
  cases h : l.findIdx? fun y => decide (f y = id) with
  | none =>
    rw [List.findIdx?_eq_none_iff] at h
    exact .inl ⟨rfl, List.any_eq_false.2 (fun y hy => by have := h y hy; simpa using this)⟩
  | some k =>
    obtain ⟨hl, he, -⟩ := List.findIdx?_eq_some_iff_getElem.1 h
    exact .inr ⟨k, l[k], rfl, List.getElem?_eq_getElem hl, by simpa using he, List.any_eq_true.2 ⟨l[k], List.getElem_mem hl, he⟩⟩
theorem idxZ_hit {α : Type} {f : α → Int} {l : List α} {id : Int} {k : Nat} {x : α} (hx : l[k]? = some x) (hid : f x = id) (hall : ∀ y ∈ l.take k, f y ≠ id) : idxZ f l id = k := by
  obtain ⟨hl, rfl⟩ := List.getElem?_eq_some_iff.1 hx
  have h : (l.findIdx? fun y => decide (f y = id)) = some k := List.findIdx?_eq_some_iff_getElem.2 ⟨hl, by simpa using hid, fun j hj => by
    have := hall l[j] (List.mem_take_iff_getElem.2 ⟨j, by omega, rfl⟩)
    simpa using this⟩
  unfold idxZ
  rw [h]
theorem idxZ_miss {α : Type} {f : α → Int} {l : List α} {id : Int} (hall : ∀ y ∈ l, f y ≠ id) : idxZ f l id = -1 := by
  have h : (l.findIdx? fun y => decide (f y = id)) = none := List.findIdx?_eq_none_iff.2 fun y hy => by have := hall y hy; simpa using this
  unfold idxZ
  rw [h]

set_option maxRecDepth 100000 in
set_option maxHeartbeats 1000000 in
theorem refNode (S : Nat → Prop) (B : Nat) (G : PGraph) (id : Int) (w : World) (h : GraphRd 89 S w B G) :
    Calls Tryz.prog 34 #[.pointer (some ⟨B, 0, none⟩), .int .i64 id] w fun e w' => e = .returned (.int .i64 (idxZ (fun x : PNode => x.id) G.nodes id)) ∧ w' = w := by
  obtain ⟨na, nc, ea, ec, hB, g0, g1, g2, hn, -⟩ := h.read
  obtain ⟨_, _, hv, hal, hac, hA⟩ := SlR.open hn
  simp only [Value.slice.injEq, true_and] at hv
  obtain ⟨rfl, rfl⟩ := hv
  unfold maxLen at hac
  have HA := Lib.hid hA
  clear h hn hA
  generalize hll : G.nodes = l at *
  have HLL := Lib.hid hll
  clear hll
  go_enter Tryz.func34, Tryz.ntmps34
  go_wp2
  go_loopg [5] l.length (fun g i wr => ∃ k : Nat, k ≤ l.length ∧ g = l.length - k ∧ i = .int .i64 k ∧ (∀ y ∈ l.take k, y.id ≠ id) ∧ wr = w)
  case atStart => exact ⟨0, by omega, by omega, rfl, by simp, rfl⟩
  case round =>
    obtain ⟨k, hk, rfl, rfl, hall, rfl⟩ := hrel
    have HALL := Lib.hid hall; clear hall
    by_cases hkl : k < l.length
    · obtain ⟨ba, oa, ra, rfl, hSa, hba, hRa, hca⟩ := HA.out k l[k] (List.getElem?_eq_getElem hkl)
      obtain ⟨pva, hba', a0, a1, a2, hpa⟩ := hRa.at hba (Grow.rfl' _) hca
      clear hca hRa hSa hba hpa
      have HE := Lib.hid (show l[k]? = some l[k] from List.getElem?_eq_getElem hkl)
      have HT := Lib.hid (show l.take (k + 1) = l.take k ++ [l[k]] from List.take_succ_eq_append_getElem hkl)
      generalize l[k] = x at *
      by_cases hx : x.id = id
      · have hx' : (x.id == id) = true := by simpa using hx
        have HX := Lib.hid hx
        clear hx
        go_wp2
        go_ret
        exact ⟨by rw [idxZ_hit HE.out HX.out HALL.out]; rfl, rfl⟩
      · have hx' : (x.id == id) = false := by simpa using hx
        have HX := Lib.hid hx
        clear hx
        go_wp2_with fail
        go_roundg (l.length - (k + 1))
        case measure => omega
        case rel => exact ⟨k + 1, by omega, rfl, by go_num, by rw [HT.out]; intro y hy; rcases List.mem_append.1 hy with h | h; exact HALL.out y h; simp at h; subst h; exact HX.out, rfl⟩
    · have h1 : l.take k = l := List.take_of_length_le (by omega)
      have h2 := HALL.out
      rw [h1] at h2
      have H2 := Lib.hid h2
      clear h1 h2
      go_wp2
      go_ret
      exact ⟨by rw [idxZ_miss H2.out]; rfl, rfl⟩

set_option maxRecDepth 100000 in
set_option maxHeartbeats 1000000 in
theorem refEdge (S : Nat → Prop) (B : Nat) (G : PGraph) (id : Int) (w : World) (h : GraphRd 89 S w B G) :
    Calls Tryz.prog 58 #[.pointer (some ⟨B, 0, none⟩), .int .i64 id] w fun e w' => e = .returned (.int .i64 (idxZ (fun x : PEdge => x.id) G.edges id)) ∧ w' = w := by
  obtain ⟨na, nc, ea, ec, hB, g0, g1, g2, -, hn⟩ := h.read
  obtain ⟨_, _, hv, hal, hac, hA⟩ := SlR.open hn
  simp only [Value.slice.injEq, true_and] at hv
  obtain ⟨rfl, rfl⟩ := hv
  unfold maxLen at hac
  have HA := Lib.hid hA
  clear h hn hA
  generalize hll : G.edges = l at *
  have HLL := Lib.hid hll
  clear hll
  go_enter Tryz.func58, Tryz.ntmps58
  go_wp2
  go_loopg [5] l.length (fun g i wr => ∃ k : Nat, k ≤ l.length ∧ g = l.length - k ∧ i = .int .i64 k ∧ (∀ y ∈ l.take k, y.id ≠ id) ∧ wr = w)
  case atStart => exact ⟨0, by omega, by omega, rfl, by simp, rfl⟩
  case round =>
    obtain ⟨k, hk, rfl, rfl, hall, rfl⟩ := hrel
    have HALL := Lib.hid hall; clear hall
    by_cases hkl : k < l.length
    · obtain ⟨ba, oa, ra, rfl, hSa, hba, hRa, hca⟩ := HA.out k l[k] (List.getElem?_eq_getElem hkl)
      obtain ⟨pva, hba', a0, a1, a2, a3, a4, hpa⟩ := hRa.at hba (Grow.rfl' _) hca
      clear hca hRa hSa hba hpa
      have HE := Lib.hid (show l[k]? = some l[k] from List.getElem?_eq_getElem hkl)
      have HT := Lib.hid (show l.take (k + 1) = l.take k ++ [l[k]] from List.take_succ_eq_append_getElem hkl)
      generalize l[k] = x at *
      by_cases hx : x.id = id
      · have hx' : (x.id == id) = true := by simpa using hx
        have HX := Lib.hid hx
        clear hx
        go_wp2
        go_ret
        exact ⟨by rw [idxZ_hit HE.out HX.out HALL.out]; rfl, rfl⟩
      · have hx' : (x.id == id) = false := by simpa using hx
        have HX := Lib.hid hx
        clear hx
        go_wp2_with fail
        go_roundg (l.length - (k + 1))
        case measure => omega
        case rel => exact ⟨k + 1, by omega, rfl, by go_num, by rw [HT.out]; intro y hy; rcases List.mem_append.1 hy with h | h; exact HALL.out y h; simp at h; subst h; exact HX.out, rfl⟩
    · have h1 : l.take k = l := List.take_of_length_le (by omega)
      have h2 := HALL.out
      rw [h1] at h2
      have H2 := Lib.hid h2
      clear h1 h2
      go_wp2
      go_ret
      exact ⟨by rw [idxZ_miss H2.out]; rfl, rfl⟩
end Go.Hg

namespace Go.Hg
open Go.RowKit Go.Proofs

def atG (G : PGraph) (id : Int) : List Int := (G.edges.filter fun x => atE x id).map (·.id)
set_option maxRecDepth 100000 in
set_option maxHeartbeats 2000000 in
theorem refAt (S : Nat → Prop) (B : Nat) (G : PGraph) (id : Int) (w : World) (h : GraphRd 89 S w B G) (hb : G.edges.length ≤ 1099511627776) :
    Calls Tryz.prog 55 #[.pointer (some ⟨B, 0, none⟩), .int .i64 id] w (IdsPost (atG G id) w) := by
  obtain ⟨na, nc, ea, ec, hB, c0, c1, c2, -, hn⟩ := h.read
  obtain ⟨iP, hiP, hzP0, hzP1, hzP2⟩ := info_parts infoInt
  obtain ⟨_, _, hv, hal, hac, hA⟩ := SlR.open hn
  simp only [Value.slice.injEq, true_and] at hv
  obtain ⟨rfl, rfl⟩ := hv
  unfold maxLen at hac
  have HS := Lib.hid (show ∀ w', Grow w w' → B < w'.heap.size ∧ w'.cell? ⟨B, 1, none⟩ = some (.slice ea G.edges.length ec) from fun w' hg => ⟨Nat.lt_of_lt_of_le hB hg.size, (hg.cell (p := ⟨B, 1, none⟩) hB).trans c1⟩)
  have HA := Lib.hid hA; have HB := Lib.hid hb
  clear h hn hA hb c0 c2
  unfold atG
  generalize G.edges = l at *
  go_enter Tryz.func55, Tryz.ntmps55
  go_wp2
  go_loopg [5, 6] l.length (fun g vo i wr => ∃ (k : Nat) (ob : Option Nat), k ≤ l.length ∧ g = l.length - k ∧ i = .int .i64 k ∧ IdsO wr vo (((l.take k).filter fun x => atE x id).map (·.id)) ob ∧ (∀ b, ob = some b → w.heap.size ≤ b) ∧ Grow w wr)
  case atStart => exact ⟨0, none, by omega, by omega, rfl, OwnS.nil _ _ _, by simp, Grow.rfl' w⟩
  case round =>
    obtain ⟨k, ob, hk, rfl, rfl, hown, hob, hgr⟩ := hrel
    have HOWN := Lib.hid hown; have HOB := Lib.hid hob; have HGR := Lib.hid hgr
    obtain ⟨oo, co, rfl, -, -⟩ := hown.isSlice
    obtain ⟨hBr, c1r⟩ := HS.out _ HGR.out
    clear c1
    by_cases hkl : k < l.length
    · obtain ⟨ba, oa, ra, rfl, hSa, hba, hRa, hca⟩ := HA.out k l[k] (List.getElem?_eq_getElem hkl)
      obtain ⟨pva, hba', a0, a1, a2, a3, a4, hpa⟩ := hRa.at hba hgr hca
      clear hca hRa hSa hba hgr hown hob hpa
      have HT := Lib.hid (show l.take (k + 1) = l.take k ++ [l[k]] from List.take_succ_eq_append_getElem hkl)
      have HFL := Lib.hid (show ((l.take k).filter fun x => atE x id).length ≤ l.length from Nat.le_trans (List.length_filter_le _ _) (List.length_take_le' k l))
      generalize l[k] = p at *
      generalize hfl : ((l.take k).filter fun x => atE x id).map (·.id) = fl at *
      have hfll : ((l.take k).filter fun x => atE x id).length = fl.length := by rw [← hfl, List.length_map]
      rw [hfll] at HFL
      have HFF := Lib.hid hfl
      clear hfl hfll
      by_cases hp1 : p.from_ = id
      · have hq1 : (p.from_ == id) = true := by simpa using hp1
        have HATE := Lib.hid (show atE p id = true by unfold atE; simp [hp1])
        clear hp1
        have HW := Lib.hid (show ∀ o1, Grow wr (wr.alloc o1) from fun o1 => (Grow.rfl' wr).allocd o1)
        have hf1 : Hid (((l.take (k + 1)).filter fun x => atE x id).map (·.id) = fl ++ [p.id]) := Lib.hid (by rw [HT.out, List.filter_append, ← HFF.out]; simp [HATE.out])
        have HRD := Lib.hid (Rd.lit wr #[.int .i64 p.id] 2 1 1 rfl)
        go_wp2_with (at_builtin; go_must (refine wpList_append_S _ rfl (.tmp 38) (.tmp 47) 30 rfl 2 iP _ 1 8 Tryz.underlying30 hiP hzP0 hzP1 hzP2 rfl (by decide) (.slice oo fl.length co) fl.length _ ob rfl (HOWN.out.grow (HW.out _)) (.slice (some ⟨wr.heap.size, 0, none⟩) 1 1) rfl 1 _ HRD.out (one1 _ rfl) (by have := HB.out; have := HFL.out; unfold maxLen; omega) (by have := HB.out; have := HFL.out; omega) ?_))
        intro v' w5 ob' h1 h2 h3
        have hown5 : IdsO w5 v' (((l.take (k + 1)).filter fun x => atE x id).map (·.id)) ob' := by
          rw [hf1.out]
          unfold IdsO
          rw [List.length_append, List.map_append]
          exact h1
        have hsz := HGR.out.size
        have hob5 : ∀ b, ob' = some b → w.heap.size ≤ b := by
          intro b hb
          rcases h3 with h3 | ⟨g, h3, hge⟩
          · exact HOB.out b (by rw [← h3]; exact hb)
          · rw [h3] at hb; cases hb; first | omega | (simp at hge; omega)
        have hg5 : Grow w w5 := (HGR.out.step (HW.out _)).modd h2 (fun b hb => HOB.out b hb)
        have H5 := Lib.hid hown5; have HO5 := Lib.hid hob5; have HG5 := Lib.hid hg5
        clear h1 h2 h3 hown5 hob5 hg5 hsz
        go_wp2_with fail
        go_roundg (l.length - (k + 1))
        case measure => omega
        case rel => exact ⟨k + 1, ob', by omega, rfl, by go_num, H5.out, HO5.out, HG5.out⟩
      · have hq1 : (p.from_ == id) = false := by simpa using hp1
        by_cases hp2 : p.to_ = id
        · have hq2 : (p.to_ == id) = true := by simpa using hp2
          have HATE := Lib.hid (show atE p id = true by unfold atE; simp [hp2])
          clear hp1 hp2
          have HW := Lib.hid (show ∀ o1, Grow wr (wr.alloc o1) from fun o1 => (Grow.rfl' wr).allocd o1)
          have hf1 : Hid (((l.take (k + 1)).filter fun x => atE x id).map (·.id) = fl ++ [p.id]) := Lib.hid (by rw [HT.out, List.filter_append, ← HFF.out]; simp [HATE.out])
          have HRD := Lib.hid (Rd.lit wr #[.int .i64 p.id] 2 1 1 rfl)
          go_wp2_with (at_builtin; go_must (refine wpList_append_S _ rfl (.tmp 38) (.tmp 47) 30 rfl 2 iP _ 1 8 Tryz.underlying30 hiP hzP0 hzP1 hzP2 rfl (by decide) (.slice oo fl.length co) fl.length _ ob rfl (HOWN.out.grow (HW.out _)) (.slice (some ⟨wr.heap.size, 0, none⟩) 1 1) rfl 1 _ HRD.out (one1 _ rfl) (by have := HB.out; have := HFL.out; unfold maxLen; omega) (by have := HB.out; have := HFL.out; omega) ?_))
          intro v' w5 ob' h1 h2 h3
          have hown5 : IdsO w5 v' (((l.take (k + 1)).filter fun x => atE x id).map (·.id)) ob' := by
            rw [hf1.out]
            unfold IdsO
            rw [List.length_append, List.map_append]
            exact h1
          have hsz := HGR.out.size
          have hob5 : ∀ b, ob' = some b → w.heap.size ≤ b := by
            intro b hb
            rcases h3 with h3 | ⟨g, h3, hge⟩
            · exact HOB.out b (by rw [← h3]; exact hb)
            · rw [h3] at hb; cases hb; first | omega | (simp at hge; omega)
          have hg5 : Grow w w5 := (HGR.out.step (HW.out _)).modd h2 (fun b hb => HOB.out b hb)
          have H5 := Lib.hid hown5; have HO5 := Lib.hid hob5; have HG5 := Lib.hid hg5
          clear h1 h2 h3 hown5 hob5 hg5 hsz
          go_wp2_with fail
          go_roundg (l.length - (k + 1))
          case measure => omega
          case rel => exact ⟨k + 1, ob', by omega, rfl, by go_num, H5.out, HO5.out, HG5.out⟩
        · have hq2 : (p.to_ == id) = false := by simpa using hp2
          have HATE := Lib.hid (show atE p id = false by unfold atE; simp [hp1, hp2])
          clear hp1 hp2
          have hf1 : Hid (((l.take (k + 1)).filter fun x => atE x id).map (·.id) = fl) := Lib.hid (by rw [HT.out, List.filter_append, ← HFF.out]; simp [HATE.out])
          go_wp2_with fail
          go_roundg (l.length - (k + 1))
          case measure => omega
          case rel => exact ⟨k + 1, ob, by omega, rfl, by go_num, by rw [hf1.out]; exact HOWN.out, HOB.out, HGR.out⟩
    · have hkk : l.take k = l := List.take_of_length_le (by omega)
      rw [hkk] at HOWN
      clear hown hob hgr
      simp only [hkk]
      go_wp2
      go_ret
      exact ⟨_, ob, rfl, HOWN.out, HOB.out, HGR.out⟩

/-- what props tells -/
def RPropsPost (S : Nat → Prop) (G : PGraph) (id : Int) (w : World) (e : Ending) (w' : World) : Prop :=
  ((findP G id = none ∧ e = .returned (.tuple #[.slice none 0 0, .bool false])) ∨ ∃ ps pv, findP G id = some ps ∧ e = .returned (.tuple #[pv, .bool true]) ∧ PropsR S w pv ps) ∧ w' = w
theorem idxZ_none {α : Type} {f : α → Int} {l : List α} {id : Int} (h : (l.any fun y => decide (f y = id)) = false) : idxZ f l id = -1 :=
  idxZ_miss fun y hy => by have := List.any_eq_false.1 h y hy; simpa using this
theorem idxZ_some {α : Type} {f : α → Int} {l : List α} {id : Int} (h : (l.any fun y => decide (f y = id)) = true) : ∃ (k : Nat) (x : α), idxZ f l id = k ∧ k < l.length ∧ l[k]? = some x ∧ f x = id := by
  rcases idxZ_at f l id with ⟨-, h2⟩ | ⟨k, x, h1, h2, h3, -⟩
  · rw [h] at h2; cases h2
  · exact ⟨k, x, h1, (List.getElem?_eq_some_iff.1 h2).1, h2, h3⟩
theorem findP_node {G : PGraph} {id : Int} {k : Nat} {x : PNode} (hs : (G.nodes.map (·.id)).Pairwise (· < ·)) (hx : G.nodes[k]? = some x) (hid : x.id = id) : findP G id = some x.props := by
  unfold findP
  rw [find_idx (fun x : PNode => x.id) hs hx hid]
theorem findP_edge {G : PGraph} {id : Int} {k : Nat} {x : PEdge} (hn : hasN G id = false) (hs : (G.edges.map (·.id)).Pairwise (· < ·)) (hx : G.edges[k]? = some x) (hid : x.id = id) : findP G id = some x.props := by
  unfold findP
  rw [find_none (fun x : PNode => x.id) hn, find_idx (fun x : PEdge => x.id) hs hx hid]
theorem findP_no {G : PGraph} {id : Int} (hn : hasN G id = false) (he : hasE G id = false) : findP G id = none := by
  unfold findP
  rw [find_none (fun x : PNode => x.id) hn, find_none (fun x : PEdge => x.id) he]
set_option maxRecDepth 100000 in
set_option maxHeartbeats 2000000 in
theorem refProps (S : Nat → Prop) (B : Nat) (G : PGraph) (id : Int) (w : World) (h : GraphRd 89 S w B G) (hs : (G.nodes.map (·.id)).Pairwise (· < ·)) (hse : (G.edges.map (·.id)).Pairwise (· < ·)) :
    Calls Tryz.prog 85 #[.pointer (some ⟨B, 0, none⟩), .int .i64 id] w (RPropsPost S G id w) := by
  have HR := Lib.hid h; have HSN := Lib.hid hs; have HSE := Lib.hid hse
  obtain ⟨na, nc, ea, ec, hB, c0, c1, c2, hn, he⟩ := h.read
  obtain ⟨_, _, hv, hal, hac, hA⟩ := SlR.open hn
  simp only [Value.slice.injEq, true_and] at hv
  obtain ⟨rfl, rfl⟩ := hv
  obtain ⟨_, _, hv, hel, hec, hE⟩ := SlR.open he
  simp only [Value.slice.injEq, true_and] at hv
  obtain ⟨rfl, rfl⟩ := hv
  unfold maxLen at hac hec
  have HA := Lib.hid hA; have HE := Lib.hid hE
  clear h hn he hA hE hs hse
  go_enter Tryz.func85, Tryz.ntmps85
  go_wp2_with fail
  refine (refNode S B G id _ HR.out).mono ?_
  rintro e w2 ⟨rfl, rfl⟩
  cases hN : hasN G id
  · rw [idxZ_none (f := fun x : PNode => x.id) hN]
    have HN := Lib.hid hN; clear hN
    go_wp2_with fail
    refine (refEdge S B G id _ HR.out).mono ?_
    rintro e w2 ⟨rfl, rfl⟩
    cases hE : hasE G id
    · rw [idxZ_none (f := fun x : PEdge => x.id) hE]
      have HX := Lib.hid (findP_no HN.out hE); clear hE
      go_wp2
      go_ret2
      exact ⟨.inl ⟨HX.out, rfl⟩, rfl⟩
    · obtain ⟨k, x, hz, hkl, hx, hid⟩ := idxZ_some (f := fun x : PEdge => x.id) hE
      rw [hz]
      have HX := Lib.hid (findP_edge HN.out HSE.out hx hid)
      obtain ⟨ba, oa, ra, rfl, hSa, hba, hRa, hca⟩ := HE.out k x hx
      obtain ⟨pva, hba', a0, a1, a2, a3, a4, hpa⟩ := hRa.at hba (Grow.rfl' _) hca
      obtain ⟨pa, pc, rfl⟩ := hpa.isSlice
      have HPA := Lib.hid hpa
      have hk0 : decide ((0 : Int) ≤ (k : Int)) = true := by simp
      clear hE hz hx hid hca hRa hSa hba hpa
      go_wp2
      go_ret2
      exact ⟨.inr ⟨x.props, _, HX.out, rfl, HPA.out⟩, rfl⟩
  · obtain ⟨k, x, hz, hkl, hx, hid⟩ := idxZ_some (f := fun x : PNode => x.id) hN
    rw [hz]
    have HX := Lib.hid (findP_node HSN.out hx hid)
    obtain ⟨ba, oa, ra, rfl, hSa, hba, hRa, hca⟩ := HA.out k x hx
    obtain ⟨pva, hba', a0, a1, a2, hpa⟩ := hRa.at hba (Grow.rfl' _) hca
    obtain ⟨pa, pc, rfl⟩ := hpa.isSlice
    have HPA := Lib.hid hpa
    have hk0 : decide ((0 : Int) ≤ (k : Int)) = true := by simp
    clear hN hz hx hid hca hRa hSa hba hpa
    go_wp2
    go_ret2
    exact ⟨.inr ⟨x.props, _, HX.out, rfl, HPA.out⟩, rfl⟩
end Go.Hg

namespace Go.Hg
open Go.RowKit Go.Proofs

theorem ob_case {o o' : Option Nat} {n m : Nat} (h : o' = o ∨ ∃ g, o' = some g ∧ m ≤ g) (hn : n ≤ m) (ho : ∀ g, o = some g → n ≤ g) : ∀ g, o' = some g → n ≤ g := by
  intro g hg
  rcases h with h | ⟨g', h, hm⟩
  · exact ho g (h ▸ hg)
  · rw [h] at hg
    cases hg
    omega
theorem raddN_close {T : TypeId} {S R : Nat → Prop} {w wA w5 w6 : World} {B : Nat} {G : PGraph} {on oe on5 : Option Nat} {ev v5 : Value} {rows : List (List Value)} {o : POp}
    (h2 : S B) (h3 : ¬ R B) (h4 : ∀ b, R b → S b ∧ b < w.heap.size) (h5 : ∀ g, on = some g → S g ∧ ¬ R g ∧ g ≠ B ∧ g < w.heap.size ∧ oe ≠ some g) (h6 : ∀ g, oe = some g → S g ∧ ¬ R g ∧ g ≠ B ∧ g < w.heap.size ∧ on ≠ some g)
    (h8 : OwnL w 41 5 (REdge R w) ev G.edges oe) (r1 : rows.length = G.nodes.length) (r3 : ∀ (k : Nat) x r, G.nodes[k]? = some x → rows[k]? = some r → RNode R w x r ∧ r.length = 3)
    (hA : Mod (fun b => b = B) w wA) (k1 : OwnS w5 52 3 v5 (G.nodes.length + 1) (rows.flatten ++ [.int .i64 G.next, .string o.typ, .slice none 0 0]) on5) (k2 : Mod (fun k => on = some k) wA w5)
    (k3 : on5 = on ∨ ∃ g, on5 = some g ∧ wA.heap.size ≤ g) (m56 : Mod (fun b => b = B) w5 w6) (hb6 : w6.heap[B]? = some (.cells #[v5, ev, .int .i64 (G.next + 1)] T (0, 0))) (hBw : B < w.heap.size) :
    GraphOk T (fun b => S b ∨ w.heap.size ≤ b) w6 B (addNodeG o G) ∧ Mod S w w6 := by
  have m5 : Mod (fun b => b = B ∨ on = some b) w w5 := (hA.mono (fun _ h => .inl h)).step (k2.mono (fun _ h => .inr h))
  have m6 : Mod (fun b => b = B ∨ on = some b) w w6 := m5.step (m56.mono (fun _ h => .inl h))
  have hsz := hA.size
  have hR : ∀ b, R b → ¬ (b = B ∨ on = some b) := fun b hb h => h.elim (fun e => h3 (e ▸ hb)) (fun e => (h5 b e).2.1 hb)
  have h5B : ∀ g, on5 = some g → g ≠ B ∧ (S g ∨ w.heap.size ≤ g) ∧ ¬ R g := by
    intro g hg
    rcases k3 with k3 | ⟨g', k3, hge⟩
    · rw [k3] at hg
      exact ⟨(h5 g hg).2.2.1, .inl (h5 g hg).1, (h5 g hg).2.1⟩
    · rw [k3] at hg; cases hg
      exact ⟨by omega, .inr (by omega), fun hh => by have := (h4 _ hh).2; omega⟩
  refine ⟨⟨v5, ev, R, on5, oe, hb6, .inl h2, h3, fun b hb => ⟨.inl (h4 b hb).1, Nat.lt_of_lt_of_le (h4 b hb).2 m6.size⟩, fun g hg => (h5B g hg).2, fun g hg => ⟨.inl (h6 g hg).1, (h6 g hg).2.1⟩, ?_, ?_⟩, m6.mono (fun b hb => hb.elim (fun e => e ▸ h2) (fun e => (h5 b e).1))⟩
  · refine ⟨rows ++ [[.int .i64 G.next, .string o.typ, .slice none 0 0]], by show _ = (G.nodes ++ [_]).length; simp [r1], fun k y r hk hk' => ?_, ?_⟩
    · change (G.nodes ++ [_])[k]? = some y at hk
      by_cases hlt : k < G.nodes.length
      · rw [List.getElem?_append_left hlt] at hk
        rw [List.getElem?_append_left (by omega)] at hk'
        obtain ⟨a, b⟩ := r3 k y r hk hk'
        exact ⟨a.mod m6 hR, b⟩
      · rw [List.getElem?_append_right (by omega)] at hk
        rw [List.getElem?_append_right (by omega), r1] at hk'
        have e : k - G.nodes.length = 0 := by have := (List.getElem?_eq_some_iff.1 hk).1; simp at this; omega
        rw [e] at hk hk'
        simp at hk hk'
        subst hk; subst hk'
        exact ⟨⟨_, rfl, PropsR.nil _ _⟩, rfl⟩
    · have h := k1.keep (w' := w6) (fun g hg => m56.block g (k1.lt g hg) (h5B g hg).1)
      show OwnS _ _ _ _ (G.nodes ++ [_]).length _ _
      rw [List.length_append, List.length_singleton]
      simpa using h
  · exact h8.edgesMod m6 (fun g hg h => h.elim (h6 g hg).2.2.1 (h6 g hg).2.2.2.2) hR

theorem raddE_close {T : TypeId} {S R : Nat → Prop} {w wA w5 w6 : World} {B : Nat} {G : PGraph} {on oe on5 : Option Nat} {nv v5 : Value} {rows : List (List Value)} {o : POp}
    (h2 : S B) (h3 : ¬ R B) (h4 : ∀ b, R b → S b ∧ b < w.heap.size) (h5 : ∀ g, on = some g → S g ∧ ¬ R g ∧ g ≠ B ∧ g < w.heap.size ∧ oe ≠ some g) (h6 : ∀ g, oe = some g → S g ∧ ¬ R g ∧ g ≠ B ∧ g < w.heap.size ∧ on ≠ some g)
    (h7 : OwnL w 52 3 (RNode R w) nv G.nodes on) (r1 : rows.length = G.edges.length) (r3 : ∀ (k : Nat) x r, G.edges[k]? = some x → rows[k]? = some r → REdge R w x r ∧ r.length = 5)
    (hA : Mod (fun b => b = B) w wA) (k1 : OwnS w5 41 5 v5 (G.edges.length + 1) (rows.flatten ++ [.int .i64 G.next, .string o.typ, .int .i64 o.from_, .int .i64 o.to_, .slice none 0 0]) on5) (k2 : Mod (fun k => oe = some k) wA w5)
    (k3 : on5 = oe ∨ ∃ g, on5 = some g ∧ wA.heap.size ≤ g) (m56 : Mod (fun b => b = B) w5 w6) (hb6 : w6.heap[B]? = some (.cells #[nv, v5, .int .i64 (G.next + 1)] T (0, 0))) (hBw : B < w.heap.size) :
    GraphOk T (fun b => S b ∨ w.heap.size ≤ b) w6 B (addEdgeG o G) ∧ Mod S w w6 := by
  have m5 : Mod (fun b => b = B ∨ oe = some b) w w5 := (hA.mono (fun _ h => .inl h)).step (k2.mono (fun _ h => .inr h))
  have m6 : Mod (fun b => b = B ∨ oe = some b) w w6 := m5.step (m56.mono (fun _ h => .inl h))
  have hsz := hA.size
  have hR : ∀ b, R b → ¬ (b = B ∨ oe = some b) := fun b hb h => h.elim (fun e => h3 (e ▸ hb)) (fun e => (h6 b e).2.1 hb)
  have h5B : ∀ g, on5 = some g → g ≠ B ∧ (S g ∨ w.heap.size ≤ g) ∧ ¬ R g := by
    intro g hg
    rcases k3 with k3 | ⟨g', k3, hge⟩
    · rw [k3] at hg
      exact ⟨(h6 g hg).2.2.1, .inl (h6 g hg).1, (h6 g hg).2.1⟩
    · rw [k3] at hg; cases hg
      exact ⟨by omega, .inr (by omega), fun hh => by have := (h4 _ hh).2; omega⟩
  refine ⟨⟨nv, v5, R, on, on5, hb6, .inl h2, h3, fun b hb => ⟨.inl (h4 b hb).1, Nat.lt_of_lt_of_le (h4 b hb).2 m6.size⟩, fun g hg => ⟨.inl (h5 g hg).1, (h5 g hg).2.1⟩, fun g hg => (h5B g hg).2, ?_, ?_⟩, m6.mono (fun b hb => hb.elim (fun e => e ▸ h2) (fun e => (h6 b e).1))⟩
  · exact h7.nodesMod m6 (fun g hg h => h.elim (h5 g hg).2.2.1 (h5 g hg).2.2.2.2) hR
  · refine ⟨rows ++ [[.int .i64 G.next, .string o.typ, .int .i64 o.from_, .int .i64 o.to_, .slice none 0 0]], by show _ = (G.edges ++ [_]).length; simp [r1], fun k y r hk hk' => ?_, ?_⟩
    · change (G.edges ++ [_])[k]? = some y at hk
      by_cases hlt : k < G.edges.length
      · rw [List.getElem?_append_left hlt] at hk
        rw [List.getElem?_append_left (by omega)] at hk'
        obtain ⟨a, b⟩ := r3 k y r hk hk'
        exact ⟨a.mod m6 hR, b⟩
      · rw [List.getElem?_append_right (by omega)] at hk
        rw [List.getElem?_append_right (by omega), r1] at hk'
        have e : k - G.edges.length = 0 := by have := (List.getElem?_eq_some_iff.1 hk).1; simp at this; omega
        rw [e] at hk hk'
        simp at hk hk'
        subst hk; subst hk'
        exact ⟨⟨_, rfl, PropsR.nil _ _⟩, rfl⟩
    · have h := k1.keep (w' := w6) (fun g hg => m56.block g (k1.lt g hg) (h5B g hg).1)
      show OwnS _ _ _ _ (G.edges ++ [_]).length _ _
      rw [List.length_append, List.length_singleton]
      simpa using h

theorem rcutN_close {T : TypeId} {S R : Nat → Prop} {w w6 w7 : World} {B k : Nat} {G : PGraph} {on oe o6 : Option Nat} {ev v6 : Value} {rows : List (List Value)}
    (h2 : S B) (h3 : ¬ R B) (h4 : ∀ b, R b → S b ∧ b < w.heap.size) (_h5 : ∀ g, on = some g → S g ∧ ¬ R g ∧ g ≠ B ∧ g < w.heap.size ∧ oe ≠ some g) (h6 : ∀ g, oe = some g → S g ∧ ¬ R g ∧ g ≠ B ∧ g < w.heap.size ∧ on ≠ some g)
    (h8 : OwnL w 41 5 (REdge R w) ev G.edges oe) (r1 : rows.length = G.nodes.length) (r2 : ∀ r ∈ rows, r.length = 3) (r3 : ∀ (k : Nat) x r, G.nodes[k]? = some x → rows[k]? = some r → RNode R w x r ∧ r.length = 3)
    (hkl : k < G.nodes.length) (k1 : OwnS w6 52 3 v6 (G.nodes.length - 1) (rows.flatten.take (k * 3) ++ rows.flatten.drop ((k + 1) * 3)) o6) (k2 : Grow w w6)
    (k3 : ∀ g, o6 = some g → w.heap.size ≤ g) (m67 : Mod (fun b => b = B) w6 w7) (hb7 : w7.heap[B]? = some (.cells #[v6, ev, .int .i64 G.next] T (0, 0))) (hBw : B < w.heap.size) :
    GraphOk T (fun b => S b ∨ w.heap.size ≤ b) w7 B ⟨G.nodes.take k ++ G.nodes.drop (k + 1), G.edges, G.next⟩ ∧ Mod (fun b => b = B) w w7 := by
  have m7 : Mod (fun b => b = B) w w7 := (Mod.of_grow k2).step m67
  have hRB : ∀ b, R b → ¬ (b = B) := fun b hb e => h3 (e ▸ hb)
  refine ⟨⟨v6, ev, R, o6, oe, hb7, .inl h2, h3, fun b hb => ⟨.inl (h4 b hb).1, Nat.lt_of_lt_of_le (h4 b hb).2 m7.size⟩, fun g hg => ⟨.inr (k3 g hg), fun hh => by have := (h4 _ hh).2; have := k3 g hg; omega⟩, fun g hg => ⟨.inl (h6 g hg).1, (h6 g hg).2.1⟩, ?_, ?_⟩, m7⟩
  · refine OwnL.erase r1 r2 r3 (fun x r _ hR => hR.mod m7 hRB) hkl ?_
    exact k1.keep (fun g hg => m67.block g (k1.lt g hg) (fun e => by have := k3 g hg; omega))
  · exact h8.edgesMod m7 (fun g hg e => (h6 g hg).2.2.1 e) hRB

theorem rcutE_close {T : TypeId} {S R : Nat → Prop} {w w6 w7 : World} {B k : Nat} {G : PGraph} {on oe o6 : Option Nat} {nv v6 : Value} {rows : List (List Value)}
    (h2 : S B) (h3 : ¬ R B) (h4 : ∀ b, R b → S b ∧ b < w.heap.size) (h5 : ∀ g, on = some g → S g ∧ ¬ R g ∧ g ≠ B ∧ g < w.heap.size ∧ oe ≠ some g) (_h6 : ∀ g, oe = some g → S g ∧ ¬ R g ∧ g ≠ B ∧ g < w.heap.size ∧ on ≠ some g)
    (h7 : OwnL w 52 3 (RNode R w) nv G.nodes on) (r1 : rows.length = G.edges.length) (r2 : ∀ r ∈ rows, r.length = 5) (r3 : ∀ (k : Nat) x r, G.edges[k]? = some x → rows[k]? = some r → REdge R w x r ∧ r.length = 5)
    (hkl : k < G.edges.length) (k1 : OwnS w6 41 5 v6 (G.edges.length - 1) (rows.flatten.take (k * 5) ++ rows.flatten.drop ((k + 1) * 5)) o6) (k2 : Grow w w6)
    (k3 : ∀ g, o6 = some g → w.heap.size ≤ g) (m67 : Mod (fun b => b = B) w6 w7) (hb7 : w7.heap[B]? = some (.cells #[nv, v6, .int .i64 G.next] T (0, 0))) (hBw : B < w.heap.size) :
    GraphOk T (fun b => S b ∨ w.heap.size ≤ b) w7 B ⟨G.nodes, G.edges.take k ++ G.edges.drop (k + 1), G.next⟩ ∧ Mod (fun b => b = B) w w7 := by
  have m7 : Mod (fun b => b = B) w w7 := (Mod.of_grow k2).step m67
  have hRB : ∀ b, R b → ¬ (b = B) := fun b hb e => h3 (e ▸ hb)
  refine ⟨⟨nv, v6, R, on, o6, hb7, .inl h2, h3, fun b hb => ⟨.inl (h4 b hb).1, Nat.lt_of_lt_of_le (h4 b hb).2 m7.size⟩, fun g hg => ⟨.inl (h5 g hg).1, (h5 g hg).2.1⟩, fun g hg => ⟨.inr (k3 g hg), fun hh => by have := (h4 _ hh).2; have := k3 g hg; omega⟩, ?_, ?_⟩, m7⟩
  · exact h7.nodesMod m7 (fun g hg e => (h5 g hg).2.2.1 e) hRB
  · refine OwnL.erase r1 r2 r3 (fun x r _ hR => hR.mod m7 hRB) hkl ?_
    exact k1.keep (fun g hg => m67.block g (k1.lt g hg) (fun e => by have := k3 g hg; omega))

set_option maxRecDepth 100000 in
set_option maxHeartbeats 4000000 in
theorem refCut (S : Nat → Prop) (B : Nat) (G : PGraph) (id : Int) (w : World) (h : GraphOk 89 S w B G) (hi : G.edges.length ≤ 1024) (hs : (G.edges.map (·.id)).Pairwise (· < ·)) (hn : hasE G id = true) :
    Calls Tryz.prog 56 #[.pointer (some ⟨B, 0, none⟩), .int .i64 id] w fun e w' => (∃ v, e = .returned v) ∧ GraphOk 89 (fun b => S b ∨ w.heap.size ≤ b) w' B ⟨G.nodes, G.edges.filter (fun x => !decide (x.id = id)), G.next⟩ ∧ Mod (fun b => b = B) w w' := by
  obtain ⟨iP, hiP, hzP0, hzP1, hzP2⟩ := info_parts infoEdge
  have HRD := Lib.hid h.rd
  obtain ⟨nv, ev, R, on, oe, h1, h2, h3, h4, h5, h6, h7, h8⟩ := h.parts (by decide) (by decide)
  have H2 := Lib.hid h2; have H3 := Lib.hid h3; have H4 := Lib.hid h4; have H5 := Lib.hid h5; have H6 := Lib.hid h6; have H7 := Lib.hid h7; have H8 := Lib.hid h8
  have HLN := Lib.hid hi; have HS := Lib.hid hs
  have HBW := Lib.hid h1
  have hBW : B < w.heap.size := blk_lt h1
  obtain ⟨k, x, hz, hkl, hx, hid⟩ := idxZ_some (f := fun x : PEdge => x.id) hn
  have HZ := Lib.hid hz; have HX := Lib.hid hx; have HXI := Lib.hid hid
  clear h h1 h2 h3 h4 h5 h6 h7 h8 hi hs hn hz hx hid
  obtain ⟨rows, hr1, hr2, hr3, hos⟩ := H8.out.rowLen
  have HR1 := Lib.hid hr1; have HR2 := Lib.hid hr2; have HR3 := Lib.hid hr3
  have hxl := hos.1
  obtain ⟨g, cap, cur, hnv, hog, hblk, hnc, hcm, hcs, htk⟩ : ∃ g cap, ∃ cur : Array Value, ev = .slice (some ⟨g, 0, none⟩) G.edges.length cap ∧ oe = some g ∧ w.heap[g]? = some (.cells cur 41 (0, 0)) ∧ G.edges.length ≤ cap ∧ cap ≤ maxLen ∧ cur.size = cap * 5 ∧ cur.toList.take (G.edges.length * 5) = rows.flatten := by
    rcases hos.2 with ⟨_, _, h, _⟩ | ⟨g, cap, cur, h1, h2, h3, h4, h5, h6, h7⟩
    · omega
    · exact ⟨g, cap, cur, h1, h2, h3, h4, h5, h6, h7⟩
  subst hnv
  have hgw : g < w.heap.size := blk_lt hblk
  have hrd1 : ∀ w', Grow w w' → Rd w' 5 (.slice (some ⟨g, 0, none⟩) k cap) k (rows.flatten.take (k * 5)) := fun w' hg => ⟨by rw [List.length_take, hxl]; have := Nat.mul_le_mul_right 5 (Nat.le_of_lt hkl); omega, _, _, rfl, .inr ⟨_, rfl, fun j u hu => by
    rw [Addr.add_lit, blk_cell ((hg.heapEq hgw).trans hblk), ← Array.getElem?_toList]
    rw [← htk, List.take_take, List.getElem?_take] at hu
    split at hu
    · simpa using hu
    · cases hu⟩⟩
  have hrd2 : ∀ w' o c, Grow w w' → (cap = k + 1 ∨ o = (k + 1) * 5) → Rd w' 5 (.slice (some ⟨g, o, none⟩) (G.edges.length - (k + 1)) c) (G.edges.length - (k + 1)) (rows.flatten.drop ((k + 1) * 5)) := fun w' o c hg ho => ⟨by rw [List.length_drop, hxl, Nat.sub_mul], _, _, rfl, by
    rcases ho with ho | rfl
    · exact .inl (by omega)
    · exact .inr ⟨_, rfl, fun j u hu => by
        rw [Addr.add_lit, blk_cell ((hg.heapEq hgw).trans hblk), ← Array.getElem?_toList]
        rw [← htk, List.getElem?_drop, List.getElem?_take] at hu
        split at hu
        · exact hu
        · cases hu⟩⟩
  have HRD1 := Lib.hid hrd1; have HRD2 := Lib.hid hrd2
  have HOS0 := Lib.hid (OwnS.lit w.drew #[] 41 5 0 (by unfold maxLen; omega) (by simp))
  have HG1 := Lib.hid (show ∀ o1, Grow w (w.drew.alloc o1) from fun o1 => ((Grow.rfl' w).drewd).allocd o1)
  have HONE := Lib.hid (OwnL.one_flatE HR1.out HR3.out)
  have g0 : w.cell? ⟨B, 1, none⟩ = some (.slice (some ⟨g, 0, none⟩) G.edges.length cap) := by rw [blk_cell HBW.out]; rfl
  have f0 := blk_free HBW.out 1
  have hq1 : (0 : Int) ≤ (k : Int) + 1 := by omega
  have hq2 : (k : Int) ≤ (k : Int) + 1 := by omega
  have hq3 : (k : Int) + 1 ≤ (G.edges.length : Int) := by omega
  have hq4 : ((k : Int) + 1).toNat = k + 1 := by omega
  have hq5 : (G.edges.length : Int) ≤ (cap : Int) := by omega
  have hq6 : (k : Int) ≤ (cap : Int) := by omega
  have hq7 : IntKind.i64.wrap ((k : Int) + 1) = (k : Int) + 1 := by have := HLN.out; rw [IntKind.wrap_i64]; omega
  have HHOG := Lib.hid hog
  clear hr1 hr2 hr3 hos hxl hblk hcs htk hrd1 hrd2 hog
  unfold maxLen at hcm
  clear g0 f0
  go_enter Tryz.func56, Tryz.ntmps56
  go_wp2_with fail
  refine (refEdge S B G id _ HRD.out).mono ?_
  rintro e w2 ⟨rfl, hw2⟩
  rw [hw2, HZ.out]
  clear hw2 w2
  have g0 : w.cell? ⟨B, 1, none⟩ = some (.slice (some ⟨g, 0, none⟩) G.edges.length cap) := (blk_cell HBW.out 1).trans rfl
  have f0 := blk_free HBW.out 1
  by_cases hce : cap = k + 1
  · have hnk : G.edges.length = k + 1 := by omega
    have HRD3 := Lib.hid (show ∀ w', Grow w w' → Rd w' 5 (.slice (some ⟨g, 0, none⟩) 0 0) 0 (rows.flatten.drop ((k + 1) * 5)) from fun w' hg => by
      have := HRD2.out w' 0 0 hg (.inl hce)
      rwa [hnk, Nat.sub_self] at this)
    subst hce
    go_wp2_with fail
    go_region_law (first | (refine step_append_S rfl (.tmp 9) (.tmp 15) 49 rfl 41 iP _ 5 64 Tryz.underlying49 hiP hzP0 hzP1 hzP2 rfl (by decide) (.slice (some ⟨w.heap.size, 0, none⟩) 0 0) 0 [] (some w.heap.size) (by rfl) HOS0.out (.slice (some ⟨g, 0, none⟩) k (k + 1)) (by rfl) k _ (HRD1.out _ (HG1.out _)) (fun u hu => HONE.out u (List.mem_of_mem_take hu)) (by have := HLN.out; unfold maxLen; omega) (by have := HLN.out; omega) ?_; intro v5 w5 o5 k1 k2 k3 k4; rw [Nat.zero_add, List.nil_append] at k1; obtain ⟨oa5, cap5, rfl, -, -⟩ := k1.isSlice; have K1 := Lib.hid k1; have K2 := Lib.hid ((HG1.out _).modd k2 (fun b hb => by cases hb; exact Nat.le_refl _)); have K3 := Lib.hid (ob_case k3 (HG1.out _).size (fun g hg => by cases hg; exact Nat.le_refl _)); have hb5 := (K2.out.heapEq hBW).trans HBW.out; have HB5 := Lib.hid hb5; have hB5 := blk_lt hb5; have q0 : w5.cell? ⟨B, 1, none⟩ = some (.slice (some ⟨g, 0, none⟩) G.edges.length (k + 1)) := (blk_cell hb5 1).trans rfl; have qf := blk_free hb5 1; clear hb5 k1 k2 k3 k4) | (refine step_append_S rfl (.tmp 16) (.tmp 23) 49 rfl 41 iP _ 5 64 Tryz.underlying49 hiP hzP0 hzP1 hzP2 rfl (by decide) (.slice oa5 k cap5) k _ o5 (by rfl) K1.out (.slice (some ⟨g, 0, none⟩) 0 0) (by rfl) 0 _ (HRD3.out _ K2.out) (fun u hu => HONE.out u (List.mem_of_mem_drop hu)) (by have := HLN.out; unfold maxLen; omega) (by have := HLN.out; omega) ?_; intro v6 w6 o6 j1 j2 j3 j4; rw [show k + 0 = G.edges.length - 1 by omega] at j1; obtain ⟨oa6, cap6, rfl, -, -⟩ := j1.isSlice; have J1 := Lib.hid j1; have J2 := Lib.hid (K2.out.modd j2 (fun b hb => K3.out b hb)); have J3 := Lib.hid (ob_case j3 K2.out.size K3.out); have hb6 := (J2.out.heapEq hBW).trans HBW.out; have HB6 := Lib.hid hb6; have hB6 := blk_lt hb6; have r0 : w6.cell? ⟨B, 1, none⟩ = some (.slice (some ⟨g, 0, none⟩) G.edges.length (k + 1)) := (blk_cell hb6 1).trans rfl; have rf6 := blk_free hb6 1; clear hb6 j1 j2 j3 j4))
    all_goals
      go_wp2
      go_end0
      have hcl := rcutE_close H2.out H3.out H4.out H5.out H6.out H7.out HR1.out HR2.out HR3.out hkl J1.out J2.out J3.out ((Mod.rfl' (fun b => b = B) w6).setd (p := ⟨B, 1, none⟩) (.inl rfl) _) (heap_setCell_same w6 B 1 _ _ _ HB6.out) hBW
      try rw [show G.edges.length - 1 = k by omega] at hcl
      refine ⟨⟨_, rfl⟩, ?_, hcl.2⟩
      rw [filter_idx (fun x : PEdge => x.id) HS.out HX.out HXI.out]
      exact hcl.1
  · have hcd : ¬ cap = k + 1 := hce
    go_wp2_with fail
    go_region_law (first | (refine step_append_S rfl (.tmp 9) (.tmp 15) 49 rfl 41 iP _ 5 64 Tryz.underlying49 hiP hzP0 hzP1 hzP2 rfl (by decide) (.slice (some ⟨w.heap.size, 0, none⟩) 0 0) 0 [] (some w.heap.size) (by rfl) HOS0.out (.slice (some ⟨g, 0, none⟩) k cap) (by rfl) k _ (HRD1.out _ (HG1.out _)) (fun u hu => HONE.out u (List.mem_of_mem_take hu)) (by have := HLN.out; unfold maxLen; omega) (by have := HLN.out; omega) ?_; intro v5 w5 o5 k1 k2 k3 k4; rw [Nat.zero_add, List.nil_append] at k1; obtain ⟨oa5, cap5, rfl, -, -⟩ := k1.isSlice; have K1 := Lib.hid k1; have K2 := Lib.hid ((HG1.out _).modd k2 (fun b hb => by cases hb; exact Nat.le_refl _)); have K3 := Lib.hid (ob_case k3 (HG1.out _).size (fun g hg => by cases hg; exact Nat.le_refl _)); have hb5 := (K2.out.heapEq hBW).trans HBW.out; have HB5 := Lib.hid hb5; have hB5 := blk_lt hb5; have q0 : w5.cell? ⟨B, 1, none⟩ = some (.slice (some ⟨g, 0, none⟩) G.edges.length cap) := (blk_cell hb5 1).trans rfl; have qf := blk_free hb5 1; clear hb5 k1 k2 k3 k4) | (refine step_append_S rfl (.tmp 16) (.tmp 23) 49 rfl 41 iP _ 5 64 Tryz.underlying49 hiP hzP0 hzP1 hzP2 rfl (by decide) (.slice oa5 k cap5) k _ o5 (by rfl) K1.out (.slice (some ⟨g, ((k + 1) * 5), none⟩) (G.edges.length - (k + 1)) (cap - (k + 1))) (by rfl) (G.edges.length - (k + 1)) _ (HRD2.out _ _ _ K2.out (.inr rfl)) (fun u hu => HONE.out u (List.mem_of_mem_drop hu)) (by have := HLN.out; unfold maxLen; omega) (by have := HLN.out; omega) ?_; intro v6 w6 o6 j1 j2 j3 j4; rw [show k + (G.edges.length - (k + 1)) = G.edges.length - 1 by omega] at j1; obtain ⟨oa6, cap6, rfl, -, -⟩ := j1.isSlice; have J1 := Lib.hid j1; have J2 := Lib.hid (K2.out.modd j2 (fun b hb => K3.out b hb)); have J3 := Lib.hid (ob_case j3 K2.out.size K3.out); have hb6 := (J2.out.heapEq hBW).trans HBW.out; have HB6 := Lib.hid hb6; have hB6 := blk_lt hb6; have r0 : w6.cell? ⟨B, 1, none⟩ = some (.slice (some ⟨g, 0, none⟩) G.edges.length cap) := (blk_cell hb6 1).trans rfl; have rf6 := blk_free hb6 1; clear hb6 j1 j2 j3 j4))
    all_goals
      go_wp2
      go_end0
      have hcl := rcutE_close H2.out H3.out H4.out H5.out H6.out H7.out HR1.out HR2.out HR3.out hkl J1.out J2.out J3.out ((Mod.rfl' (fun b => b = B) w6).setd (p := ⟨B, 1, none⟩) (.inl rfl) _) (heap_setCell_same w6 B 1 _ _ _ HB6.out) hBW
      try rw [show G.edges.length - 1 = k by omega] at hcl
      refine ⟨⟨_, rfl⟩, ?_, hcl.2⟩
      rw [filter_idx (fun x : PEdge => x.id) HS.out HX.out HXI.out]
      exact hcl.1
end Go.Hg
