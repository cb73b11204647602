/- hedgerowlaw18.AdjLeads: true. No condition. Printed by gen18laws.py. -/
import Derived.Test.YtfffnkgdpbaakaaGreatAdjH
namespace Go.Hg
open Go.RowKit Go.Proofs


/-- edge by edge -/
def Chn (E : List PEdge) (typ : ByteArray) (t : Int) : Int → List PEdge → Prop
  | x, [] => x = t
  | x, e :: s => e ∈ E ∧ fitE typ e = true ∧ e.from_ = x ∧ Chn E typ t e.to_ s
theorem PathR.chn {E : List PEdge} {typ : ByteArray} {t : Int} : ∀ {d : Nat} {x : Int} {l : List Int}, Dst E typ t d x → PathR E typ t d x l → ∃ es : List PEdge, es.map (·.id) = l ∧ Chn E typ t x es ∧ es.length = d
  | 0, x, _, h, hl => ⟨[], hl.symm, Dst.zero.1 h, rfl⟩
  | d + 1, x, _, _, ⟨pre, e, post, l, h1, _, h3, rfl, h4⟩ => by
    obtain ⟨es, h5, h6, h7⟩ := PathR.chn h3 h4
    have he : e ∈ outsE E typ x := by rw [h1]; simp
    obtain ⟨he1, he2⟩ := List.mem_filter.1 he
    rw [Bool.and_eq_true, decide_eq_true_eq] at he2
    exact ⟨e :: es, by simp [h5], ⟨he1, he2.1, he2.2, h6⟩, by simp [h7]⟩
theorem PathS.chn {E : List PEdge} {typ : ByteArray} {x t : Int} {l : List Int} (h : PathS E typ x t l) (hl : 0 < l.length) : x ≠ t ∧ Dst E typ t l.length x ∧ ∃ es : List PEdge, es.map (·.id) = l ∧ Chn E typ t x es := by
  rcases h with ⟨_, rfl⟩ | ⟨_, _, rfl⟩ | ⟨h1, d, h2, h3⟩
  · simp at hl
  · simp at hl
  · obtain ⟨es, h4, h5, h6⟩ := h3.chn h2
    have : l.length = d := by rw [← h4, List.length_map]; exact h6
    exact ⟨h1, this ▸ h2, es, h4, h5⟩
theorem PathS.none {E : List PEdge} {typ : ByteArray} {x t : Int} (h : PathS E typ x t []) (hne : x ≠ t) (n : Nat) : ¬ Rch E typ n x t := by
  intro hr
  obtain ⟨d, -, -, hw⟩ := hr.wlk
  rcases h with ⟨h, _⟩ | ⟨_, h, _⟩ | ⟨_, q, h2, h3⟩
  · exact hne h
  · exact h d hw
  · obtain ⟨es, h4, h5, h6⟩ := h3.chn h2
    have : es = [] := by simpa using h4
    subst this
    exact hne h5
theorem dst_rch {E : List PEdge} {typ : ByteArray} {x t : Int} {d : Nat} (h : Dst E typ t d x) (hd : 0 < d) : Rch E typ d x t ∧ ¬ Rch E typ (d - 1) x t := by
  obtain ⟨q, rfl⟩ : ∃ q, d = q + 1 := ⟨d - 1, by omega⟩
  refine ⟨h.1.rch, fun hr => ?_⟩
  obtain ⟨m, h1, h2, hw⟩ := hr.wlk
  exact h.2 m (by omega) hw
theorem find_id {l : List PEdge} (hs : (l.map (·.id)).Pairwise (· < ·)) {e : PEdge} (he : e ∈ l) : (l.find? fun z => decide (z.id = e.id)) = some e := by
  induction l with
  | nil => cases he
  | cons a t ih =>
    rw [List.map_cons, List.pairwise_cons] at hs
    rcases List.mem_cons.1 he with rfl | he
    · simp
    · have h1 := hs.1 e.id (List.mem_map.2 ⟨e, he, rfl⟩)
      rw [List.find?_cons_of_neg (by simp; omega)]
      exact ih hs.2 he
theorem fit_or {typ : ByteArray} {e : PEdge} (h : fitE typ e = true) : decide (typ = ByteArray.empty) = true ∨ e.typ = typ := by
  simpa [fitE] using h

set_option maxRecDepth 100000 in
set_option maxHeartbeats 16000000 in
theorem law18Leads (S : Nat → Prop) (v : Value) (l : List POp) (x y : Int) (typ : ByteArray) (w : World) (hl : OpsR S w v l) : Calls Tryz.prog 5 #[v, .agg #[.int .i64 x, .int .i64 y], .string typ] w fun e w' => e = .returned (.bool true) ∧ Grow w w' := by
  have HL := Lib.hid hl
  have HBX := Lib.hid (show Grow w (w.alloc (.cells #[.int .i64 x, .int .i64 y] 23)) from (Grow.rfl' w).allocd _)
  have HSB := Lib.hid (show ∀ w', Grow (w.alloc (.cells #[.int .i64 x, .int .i64 y] 23)) w' → (w'.cell? ⟨w.heap.size, 0, none⟩ = some (.int .i64 x) ∧ w'.cell? ⟨w.heap.size, 1, none⟩ = some (.int .i64 y)) from fun w' hg => by
    have hh := (hg.heapEq (k := w.heap.size) (by simp)).trans (heap_alloc_new w _)
    exact ⟨by rw [blk_cell hh]; rfl, by rw [blk_cell hh]; rfl⟩)
  clear hl
  by_cases ht : 1000 < typ.size
  · go_enter Tryz.func5, Tryz.ntmps5
    go_wp2_with fail
    refine (law18Wakes _).mono ?_
    rintro e wk ⟨rfl, hgk⟩
    have HGK := Lib.hid ((HBX.out.step hgk))
    clear hgk
    go_wp2
    go_ret
    exact ⟨rfl, HGK.out⟩
  go_enter Tryz.func5, Tryz.ntmps5
  go_wp2_with fail
  refine (lawMadeP S v l _ (HL.out.growS HBX.out)).mono ?_
  rintro e w6 h6
  rcases h6 with ⟨rfl, hg6⟩ | ⟨B1, B2, S1, S2, G, rfl, hgd, hi, hk1, hk2, hg6⟩
  · have HG6 := Lib.hid (HBX.out.step hg6)
    clear hg6
    go_wp2_with fail
    refine (law18Wakes _).mono ?_
    rintro e wk ⟨rfl, hgk⟩
    have HGK := Lib.hid ((HG6.out.step hgk))
    clear hgk
    go_wp2
    go_ret
    exact ⟨rfl, HGK.out⟩
  have HGB := Lib.hid hg6
  have HG6 := Lib.hid (HBX.out.step hg6)
  have HE := Lib.hid (edgesAt_of hk1.rd hi)
  have H64 := Lib.hid (ends64 hgd)
  have HQ := Lib.hid hk2.rd; have HK1 := Lib.hid hk1; have HK2 := Lib.hid hk2
  have HI := Lib.hid hi
  have HB := Lib.hid (show G.edges.length ≤ 1024 by have := hi.items; omega)
  have HEND := Lib.hid (show ∀ e ∈ G.edges, hasN G e.from_ = true ∧ hasN G e.to_ = true from fun e he => ⟨((goodG_iff.1 hgd).2.edges e he).2.1, ((goodG_iff.1 hgd).2.edges e he).2.2.1⟩)
  clear hg6 hgd hi hk1 hk2
  have HS := Lib.hid (show ∀ w', Grow w6 w' → (w'.cell? ⟨w.heap.size, 0, none⟩ = some (.int .i64 x) ∧ w'.cell? ⟨w.heap.size, 1, none⟩ = some (.int .i64 y)) from fun w' hg => HSB.out w' (HGB.out.step hg))
  have HIS := Lib.hid (show ∀ e ∈ G.edges, (G.edges.find? fun z => decide (z.id = e.id)) = some e from fun e he => find_id HI.out.edges he)
  obtain ⟨s0, s1⟩ := HS.out _ (Grow.rfl' _)
  have hbs : w.heap.size < w6.heap.size := Nat.lt_of_lt_of_le (by simp) HGB.out.size
  go_wp2_with fail
  refine (adjPath _ G.edges x y typ _ HE.out HB.out).mono ?_
  rintro e w7 ⟨v7, L, rfl, hps, hI7, hg7⟩
  obtain ⟨la, lc, rfl, hll, hlc, hA⟩ := idsCellL hI7
  have HPS := Lib.hid hps; have HA := Lib.hid hA; have HI7 := Lib.hid hI7; have HG7 := Lib.hid hg7
  have HLL := Lib.hid (show L.length ≤ 2048 by
    by_cases h0 : 0 < L.length
    · have := dst_le (hps.chn h0).2.1
      have := HB.out
      omega
    · omega)
  obtain ⟨s0, s1⟩ := HS.out _ HG7.out
  have hbs : w.heap.size < w7.heap.size := Nat.lt_of_lt_of_le (Nat.lt_of_lt_of_le (by simp) HGB.out.size) HG7.out.size
  clear hps hI7 hg7 hA
  have HCH := Lib.hid (show ∃ es : List PEdge, (L = [] ∧ es = []) ∨ (es.map (·.id) = L ∧ Chn G.edges typ y x es) from by
    by_cases h0 : 0 < L.length
    · obtain ⟨es, h1, h2⟩ := (HPS.out.chn h0).2.2
      exact ⟨es, .inr ⟨h1, h2⟩⟩
    · exact ⟨[], .inl ⟨List.eq_nil_of_length_eq_zero (by omega), rfl⟩⟩)
  go_wp2
  clear s0 s1
  go_loopg [11, 12] L.length (fun g av iv wr => ∃ (k : Nat) (z : Int) (es : List PEdge), k ≤ L.length ∧ g = L.length - k ∧ av = .int .i64 z ∧ iv = .int .i64 k ∧ (0 < L.length → es.map (·.id) = L.drop k ∧ Chn G.edges typ y z es) ∧ Grow w6 wr ∧ Grow w7 wr)
  case atStart =>
    obtain ⟨es, h | h⟩ := HCH.out
    · exact ⟨0, x, [], by omega, by omega, rfl, rfl, (fun h0 => by rw [h.1] at h0; simp at h0), HG7.out, Grow.rfl' _⟩
    · exact ⟨0, x, es, by omega, by omega, rfl, rfl, (fun _ => by rw [List.drop_zero]; exact h), HG7.out, Grow.rfl' _⟩
  case round =>
    obtain ⟨wo, rfl⟩ : ∃ wo : World, wo = wr := ⟨_, rfl⟩
    obtain ⟨k, z, es, hk, rfl, rfl, rfl, hch, hgo, hgo7⟩ := hrel
    have HCK := Lib.hid hch; have HGO := Lib.hid hgo; have HGW7 := Lib.hid hgo7
    obtain ⟨s0, s1⟩ := HS.out _ HGO.out
    have hbs : w.heap.size < wo.heap.size := Nat.lt_of_lt_of_le (Nat.lt_of_lt_of_le (by simp) HGB.out.size) HGO.out.size
    have HGA := Lib.hid (HG6.out)
    clear hch hgo hgo7
    by_cases hkl : k < L.length
    · obtain ⟨h1, h2⟩ := HCK.out (by omega)
      have hdr : L.drop k = L[k] :: L.drop (k + 1) := List.drop_eq_getElem_cons hkl
      rcases es with _ | ⟨e1, es⟩
      · exfalso
        rw [hdr] at h1
        cases h1
      obtain ⟨he, hfit, hfr, hch2⟩ := h2
      have hid : L[k] = e1.id := by
        rw [hdr] at h1
        simp only [List.map_cons, List.cons.injEq] at h1
        exact h1.1.symm
      have hx := List.getElem?_eq_getElem hkl
      rw [hid] at hx
      obtain ⟨ba, oa, rfl, hba7, -, hc7⟩ := HA.out k e1.id hx
      have a0 := (HGW7.out.cell (p := ⟨ba, oa + k, none⟩) hba7).trans hc7
      have hba : ba < wo.heap.size := Nat.lt_of_lt_of_le hba7 HGW7.out.size
      have HNX := Lib.hid (show 0 < L.length → es.map (·.id) = L.drop (k + 1) ∧ Chn G.edges typ y e1.to_ es from fun _ => ⟨by
        rw [hdr] at h1
        simp only [List.map_cons, List.cons.injEq] at h1
        exact h1.2, hch2⟩)
      subst hfr
      have HFD := Lib.hid (HIS.out e1 he)
      have HFT := Lib.hid (fit_or hfit)
      clear h1 hdr he hfit hch2 hid hx hc7 hba7
      go_wp2_with fail
      refine (graphGetEdge S1 B1 G e1.id _ (HK1.out.rd.grow HGO.out) HI.out.edges (by have := HB.out; omega) (fun q hq => by have := (HI.out.edgesB q hq).2.2; omega)).mono ?_
      rintro e w8 ⟨hx, hg8⟩
      obtain ⟨pa, pc, rfl⟩ : ∃ pa pc, e = .returned (.tuple #[.agg #[.int .i64 e1.id, .string e1.typ, .int .i64 e1.from_, .int .i64 e1.to_, .slice pa e1.props.length pc], .bool true]) := by
        rcases hx with ⟨hx, -⟩ | ⟨q, pv, hx, he, hp⟩
        · rw [HFD.out] at hx; cases hx
        · rw [HFD.out] at hx; cases hx
          obtain ⟨pa, pc, rfl⟩ := hp.isSlice
          exact ⟨pa, pc, he⟩
      have HG8 := Lib.hid (HGO.out.step hg8)
      have HW87 := Lib.hid (show ∀ o1, Grow w7 (w8.alloc o1) from fun o1 => (HGW7.out.step hg8).allocd o1)
      have HW8 := Lib.hid (show ∀ o1, Grow w6 (w8.alloc o1) from fun o1 => HG8.out.allocd o1)
      clear hx hg8 a0 s0 s1
      cases ht2 : decide (typ = ByteArray.empty)
      · have hte : (typ.toList == ([] : List UInt8)) = false := (empty_beq typ).trans ht2
        have hte2 : (typ.toList != ([] : List UInt8)) = true := by rw [bne, hte]; rfl
        have hxt : e1.typ = typ := by
          rcases HFT.out with h | h
          · rw [ht2] at h; cases h
          · exact h
        have hxd : decide (e1.typ = typ) = true := by simpa using hxt
        have hxb : (e1.typ.toList != typ.toList) = false := by rw [hxt]; simp
        clear ht2 hxt
        go_wp2_with fail
        go_roundg (L.length - (k + 1))
        case measure => omega
        case rel => exact ⟨k + 1, e1.to_, es, by omega, rfl, rfl, by go_num, HNX.out, HW8.out _, HW87.out _⟩
      · have hte : (typ.toList == ([] : List UInt8)) = true := (empty_beq typ).trans ht2
        have hte2 : (typ.toList != ([] : List UInt8)) = false := by rw [bne, hte]; rfl
        clear ht2
        go_wp2_with fail
        go_roundg (L.length - (k + 1))
        case measure => omega
        case rel => exact ⟨k + 1, e1.to_, es, by omega, rfl, rfl, by go_num, HNX.out, HW8.out _, HW87.out _⟩
    · by_cases hl0 : 0 < L.length
      · have hz : z = y := by
          obtain ⟨h1, h2⟩ := HCK.out hl0
          rw [List.drop_of_length_le (by omega)] at h1
          obtain rfl : es = [] := by simpa using h1
          exact h2
        subst hz
        have HDX := Lib.hid ((HPS.out.chn hl0).2.1)
        have hl0i : (0 : Int) < (L.length : Int) := by omega
        have HD := Lib.hid (show Grow w6 wo.drew from HGO.out.drewd)
        have IN8 := Lib.hid (show ∀ L', RSet L' (Rch G.edges typ (((L.length : Int) - 1)).toNat x) → decide (z ∈ L') = false from fun L' h => decide_eq_false fun hm => by
          have h1 := (h.2 z).1 hm
          rw [show ((L.length : Int) - 1).toNat = L.length - 1 by omega] at h1
          exact (dst_rch HDX.out hl0).2 h1)
        have IN9 := Lib.hid (show ∀ L', RSet L' (Rch G.edges typ ((L.length : Int)).toNat x) → decide (z ∈ L') = true from fun L' h => decide_eq_true ((h.2 z).2 (by
          rw [Int.toNat_natCast]
          exact (dst_rch HDX.out hl0).1)))
        have HM1 := Lib.hid (show (L.length : Int) - 1 ≤ 1048576 by have := HLL.out; omega)
        have HM2 := Lib.hid (show (L.length : Int) ≤ 1048576 by have := HLL.out; omega)
        have hw1 : IntKind.i64.wrap ((L.length : Int) - 1) = (L.length : Int) - 1 := by have := HLL.out; rw [IntKind.wrap_i64]; omega
        go_wp2_with fail
        go_region_held3 (fun w' => w'.cell? ⟨w.heap.size, 0, none⟩ = some (.int .i64 x) ∧ w'.cell? ⟨w.heap.size, 1, none⟩ = some (.int .i64 z)) (first | exact HS.out _ HD.out | exact HS.out _ HG8.out | exact HS.out _ HG9.out | exact HS.out _ HGK.out) (first | (go_at_call 15; ((with_reducible refine (adjReach _ G.edges x typ ((L.length : Int) - 1) _ (HE.out.grow HD.out) HB.out H64.out HM1.out).mono ?_); rintro e w8 ⟨v8, L8, rfl, hL8, hI8, hg8⟩; have HN8 := Lib.hid (IN8.out L8 hL8); have HI8 := Lib.hid hI8; have HG8 := Lib.hid (HD.out.step hg8); clear hL8 hI8 hg8)) | (go_at_call 16; ((with_reducible refine (law18In _ v8 L8 z _ HI8.out).mono ?_); rintro e wq ⟨rfl, rfl⟩; rw [HN8.out])) | (go_at_call 15; ((with_reducible refine (adjReach _ G.edges x typ (L.length : Int) _ (HE.out.grow HG8.out) HB.out H64.out HM2.out).mono ?_); rintro e w9 ⟨v9, L9, rfl, hL9, hI9, hg9⟩; have HN9 := Lib.hid (IN9.out L9 hL9); have HI9 := Lib.hid hI9; have HG9 := Lib.hid (HG8.out.step hg9); clear hL9 hI9 hg9)) | (go_at_call 16; ((with_reducible refine (law18In _ v9 L9 z _ HI9.out).mono ?_); rintro e wq ⟨rfl, rfl⟩; rw [HN9.out])) | (go_at_call 9; refine (law18Wakes _).mono ?_; rintro e wk ⟨rfl, hgk⟩; have HGK := Lib.hid (HG9.out.step hgk); clear hgk))
        go_wp2
        go_ret
        exact ⟨rfl, HGA.out.step HGK.out⟩
      · obtain rfl : L = [] := List.eq_nil_of_length_eq_zero (by omega)
        have HPS0 := Lib.hid HPS.out
        clear HPS HLL
        have HD := Lib.hid (show Grow w6 wo.drew from HGO.out.drewd)
        by_cases hxy : x = y
        · have hxb : (x == y) = true := by simpa using hxy
          clear hxy
          go_wp2_with fail
          refine wp_region_grow (by kernel_rfl) (by kernel_rfl) ?_
          repeat (go_big_quiet_step ((go_at_call 9; exact calls_gr (law18Wakes _))))
          refine wpQuiet_nil ?_
          intro wk hgk
          have HGK := Lib.hid (HGO.out.step hgk)
          clear hgk
          go_wp2
          go_ret
          exact ⟨rfl, HGA.out.step HGK.out⟩
        · have hxb : (x == y) = false := by simpa using hxy
          have IN8 := Lib.hid (show ∀ L', RSet L' (Rch G.edges typ (1024 : Int).toNat x) → decide (y ∈ L') = false from fun L' h => decide_eq_false fun hm => PathS.none (HPS0.out) hxy _ ((h.2 y).1 hm))
          have HM1 := Lib.hid (show (1024 : Int) ≤ 1048576 by decide)
          clear hxy
          go_wp2_with fail
          go_region_held3 (fun w' => w'.cell? ⟨w.heap.size, 0, none⟩ = some (.int .i64 x) ∧ w'.cell? ⟨w.heap.size, 1, none⟩ = some (.int .i64 y)) (first | exact HS.out _ HD.out | exact HS.out _ HG8.out | exact HS.out _ HGK.out) (first | (go_at_call 15; ((with_reducible refine (adjReach _ G.edges x typ 1024 _ (HE.out.grow HD.out) HB.out H64.out HM1.out).mono ?_); rintro e w8 ⟨v8, L8, rfl, hL8, hI8, hg8⟩; have HN8 := Lib.hid (IN8.out L8 hL8); have HI8 := Lib.hid hI8; have HG8 := Lib.hid (HD.out.step hg8); clear hL8 hI8 hg8)) | (go_at_call 16; ((with_reducible refine (law18In _ v8 L8 y _ HI8.out).mono ?_); rintro e wq ⟨rfl, rfl⟩; rw [HN8.out])) | (go_at_call 9; refine (law18Wakes _).mono ?_; rintro e wk ⟨rfl, hgk⟩; have HGK := Lib.hid (HG8.out.step hgk); clear hgk))
          go_wp2
          go_ret
          exact ⟨rfl, HGA.out.step HGK.out⟩
end Go.Hg
