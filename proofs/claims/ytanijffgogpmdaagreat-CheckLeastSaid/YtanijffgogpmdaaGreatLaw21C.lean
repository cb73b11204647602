/- law21.CheckLeast: returns true. No condition. -/
import Derived.Test.YtanijffgogpmdaaGreatLaw21B
import Derived.Test.YtanijffgogpmdaaGreatChkN
namespace Go.Hg
open Go.RowKit Go.Proofs

/-- the least Id of the bad ones, whatever their order -/
def LeastR (N : List PNode) (E : List PEdge) (l : List PRule) (o : Option Int) : Prop :=
  (o = none ∧ ∀ r ∈ l, badR N E r = false) ∨ ∃ m, o = some m ∧ (∃ r ∈ l, badR N E r = true ∧ r.id = m) ∧ ∀ r ∈ l, badR N E r = true → m ≤ r.id
theorem LeastR.uniq {N : List PNode} {E : List PEdge} {l l' : List PRule} {o o' : Option Int} (h : LeastR N E l o) (h' : LeastR N E l' o') (hm : ∀ r, r ∈ l ↔ r ∈ l') : o = o' := by
  rcases h with ⟨rfl, h⟩ | ⟨m, rfl, ⟨r, hr, hb, rfl⟩, h⟩
  · rcases h' with ⟨rfl, h'⟩ | ⟨m, rfl, ⟨r, hr, hb, rfl⟩, h'⟩
    · rfl
    · rw [h r ((hm r).2 hr)] at hb; cases hb
  · rcases h' with ⟨rfl, h'⟩ | ⟨m, rfl, ⟨r', hr', hb', rfl⟩, h'⟩
    · rw [h' r ((hm r).1 hr)] at hb; cases hb
    · have h1 := h r' ((hm r').2 hr') hb'
      have h2 := h' r ((hm r).1 hr) hb
      congr 1
      omega
theorem firstR_least (N : List PNode) (E : List PEdge) (l : List PRule) : LeastR N E l (firstR N E l) := by
  rw [← List.reverse_reverse l]
  generalize l.reverse = q
  induction q with
  | nil => exact .inl ⟨rfl, by simp⟩
  | cons r t ih =>
    rw [List.reverse_cons, firstR_snoc]
    unfold firstS
    by_cases hb : badR N E r = true
    · rw [if_pos hb]
      rcases ih with ⟨h0, h⟩ | ⟨m, h0, ⟨r', hr', hb', rfl⟩, h⟩
      · rw [h0]
        refine .inr ⟨r.id, rfl, ⟨r, by simp, hb, rfl⟩, fun x hx hxb => ?_⟩
        rcases List.mem_append.1 hx with hx | hx
        · rw [h x hx] at hxb; cases hxb
        · rw [List.mem_singleton] at hx; subst hx; exact Int.le_refl _
      · rw [h0]
        simp only
        by_cases hlt : r.id < r'.id
        · rw [if_pos hlt]
          refine .inr ⟨r.id, rfl, ⟨r, by simp, hb, rfl⟩, fun x hx hxb => ?_⟩
          rcases List.mem_append.1 hx with hx | hx
          · have := h x hx hxb; omega
          · rw [List.mem_singleton] at hx; subst hx; exact Int.le_refl _
        · rw [if_neg hlt]
          refine .inr ⟨r'.id, rfl, ⟨r', List.mem_append.2 (.inl hr'), hb', rfl⟩, fun x hx hxb => ?_⟩
          rcases List.mem_append.1 hx with hx | hx
          · exact h x hx hxb
          · rw [List.mem_singleton] at hx; subst hx; omega
    · rw [if_neg hb]
      rcases ih with ⟨h0, h⟩ | ⟨m, h0, ⟨r', hr', hb', rfl⟩, h⟩
      · rw [h0]
        refine .inl ⟨rfl, fun x hx => ?_⟩
        rcases List.mem_append.1 hx with hx | hx
        · exact h x hx
        · rw [List.mem_singleton] at hx; subst hx; simpa using hb
      · rw [h0]
        refine .inr ⟨r'.id, rfl, ⟨r', List.mem_append.2 (.inl hr'), hb', rfl⟩, fun x hx hxb => ?_⟩
        rcases List.mem_append.1 hx with hx | hx
        · exact h x hx hxb
        · rw [List.mem_singleton] at hx; subst hx; rw [hxb] at hb; exact absurd rfl hb
theorem firstR_reverse (N : List PNode) (E : List PEdge) (l : List PRule) : firstR N E l.reverse = firstR N E l :=
  (firstR_least N E l.reverse).uniq (firstR_least N E l) fun _ => List.mem_reverse
theorem rruleOk : ∀ (x : PRule) (r : List Value), RRule x r → r.length = 8 ∧ ∀ u ∈ r, u.oneCell' = true := by
  intro x r h
  unfold RRule at h
  subst h
  exact ⟨rfl, ruleCells1 x⟩

set_option maxRecDepth 100000 in
set_option maxHeartbeats 16000000 in
theorem law21Least (S : Nat → Prop) (v : Value) (l : List POp) (S' : Nat → Prop) (rv : Value) (rs : List PRule) (w : World) (hl : OpsR S w v l) (hr : RulesR S' w rv rs) :
    Calls Tryz.prog 5 #[v, rv] w fun e w' => e = .returned (.bool true) ∧ Grow w w' := by
  have HL := Lib.hid hl
  obtain ⟨_, _, rfl, _⟩ := SlR.open hl
  have HRS := Lib.hid hr
  obtain ⟨ar, cr, rfl, hrl, hrc, hR⟩ := SlR.open hr
  unfold maxLen at hrc
  have HR := Lib.hid hR
  clear hl hr hR
  go_enter Tryz.func5, Tryz.ntmps5
  go_wp2_with fail
  refine (lawMadeP S _ l _ HL.out).mono ?_
  intro e w2 h2
  rcases h2 with ⟨rfl, g2⟩ | ⟨B1, B2, S1, S2, G, rfl, hgd, hi, hok1, hok2, g2⟩
  · have HG2 := Lib.hid g2
    clear g2
    go_wp2_with fail
    refine (law21Wakes w2).mono ?_
    rintro e w3 ⟨rfl, g3⟩
    have HG3 := Lib.hid (HG2.out.step g3)
    clear g3
    go_wp2
    go_ret
    exact ⟨rfl, HG3.out⟩
  have HG2 := Lib.hid g2
  by_cases h20 : 20 < rs.length
  · clear g2 hgd hi hok1 hok2
    go_wp2_with fail
    refine (law21Wakes w2).mono ?_
    rintro e w3 ⟨rfl, g3⟩
    have HG3 := Lib.hid (HG2.out.step g3)
    clear g3
    go_wp2
    go_ret
    exact ⟨rfl, HG3.out⟩
  have HGA := Lib.hid (gAt_of hok1.rd hi); have H64 := Lib.hid (ends64f hgd)
  have HB1 := Lib.hid (show G.nodes.length ≤ 1099511627776 by have := hi.items; omega)
  have HB2 := Lib.hid (show G.edges.length ≤ 1099511627776 by have := hi.items; omega)
  obtain ⟨na, nc, ea, ec, hB, g0, g1, -, hn, he⟩ := hok2.read
  have HN := Lib.hid hn; have HE := Lib.hid he
  have HGC := Lib.hid (show ∀ w', Grow w2 w' → B2 < w'.heap.size ∧ w'.cell? ⟨B2, 0, none⟩ = some (.slice na G.nodes.length nc) ∧ w'.cell? ⟨B2, 1, none⟩ = some (.slice ea G.edges.length ec) from fun w' g => ⟨Nat.lt_of_lt_of_le hB g.size, (g.cell (p := ⟨B2, 0, none⟩) hB).trans g0, (g.cell (p := ⟨B2, 1, none⟩) hB).trans g1⟩)
  have HI0 := Lib.hid (OwnN.nil (e := 24) (sz := 8) (R := RRule) w2.heap.size w2)
  generalize G.nodes = N at *
  generalize G.edges = E at *
  clear g2 hgd hi hok1 hok2 hn he g0 g1 hB
  go_wp2
  go_loopg [8, 9, 10, 11] rs.length (fun g iv sv bv kv wr => ∃ (k : Nat) (o : Option Int) (i : Int) (b : Bool), k ≤ rs.length ∧ k = g ∧ (∃ z : Int, kv = .int .i64 z ∧ z + 1 = k) ∧ o = firstR N E (rs.drop k).reverse ∧ i = o.getD 0 ∧ b = o.isSome ∧ iv = .int .i64 i ∧ sv = .bool b ∧ OwnN 24 8 RRule w2.heap.size wr bv (rs.drop k).reverse ∧ Grow w2 wr)
  case atStart => exact ⟨rs.length, none, 0, false, Nat.le_refl _, rfl, ⟨_, rfl, by omega⟩, by simp [firstR], rfl, rfl, rfl, rfl, by simpa using HI0.out, Grow.rfl' w2⟩
  case round =>
    obtain ⟨k, o, i, b, hk, rfl, ⟨z, rfl, hz⟩, ho, hi, hb, rfl, rfl, hbk, hg⟩ := hrel
    obtain ⟨oa, co, rfl, _, _⟩ := hbk.isSlice
    have HO := Lib.hid ho; have HI := Lib.hid hi; have HBB := Lib.hid hb; have HG := Lib.hid hg; have HBK := Lib.hid hbk
    clear ho hi hb hg hbk
    by_cases hk0 : k = 0
    · subst hk0
      obtain rfl : z = -1 := by omega
      rw [List.drop_zero] at HBK HO ⊢
      have HLS := Lib.hid (firstR_reverse N E rs)
      have HRV := Lib.hid (show i = (firstR N E rs).getD 0 ∧ b = (firstR N E rs).isSome by rw [HI.out, HBB.out, HO.out, HLS.out]; exact ⟨rfl, rfl⟩)
      have HA := Lib.hid (show ∀ o1, Grow w2 (wr.alloc o1) from fun o1 => HG.out.allocd o1)
      generalize rs.reverse = rv2 at *
      have HRS2 := Lib.hid (show ∀ o1, SlR S' (wr.alloc o1) 8 RRule (.slice ar rs.length cr) rs from fun o1 => HRS.out.growS ((HG2.out.step HG.out).allocd o1))
      clear hz
      go_wp2_with (at_builtin; go_must (refine wpList_append_L rfl (.tmp 78) (.tmp 79) 49 rfl rowRule Tryz.underlying49 w2.heap.size _ rfl _ rfl rs (HRS2.out _) rruleOk (by have := (HA.out (.cells #[] 24)).size; first | exact this | (simp at this ⊢; omega)) (by unfold maxLen; omega) (by omega) ?_))
      intro v5 w5 k1 k2
      obtain ⟨_, _, rfl, _, _⟩ := k1.isSlice
      have H5 := Lib.hid k1.toR; have HG5 := Lib.hid ((HA.out _).step k2)
      have HK5 := Lib.hid ((HBK.out.grow ((Grow.rfl' wr).allocd _)).grow k2)
      clear k1 k2
      go_wp2_with fail
      refine (checkWhole _ N E rs _ _ _ _ _ w5 _ (HGA.out.grow HG5.out) H5.out H64.out ⟨⟨_, _, _, rfl⟩, ⟨_, _, _, rfl⟩, ⟨_, _, _, rfl⟩, ⟨_, rfl⟩⟩).mono ?_
      rintro e w6 ⟨rfl, g6⟩
      have HG6 := Lib.hid (HG5.out.step g6); have HK6 := Lib.hid (HK5.out.grow g6).toR
      clear g6
      go_wp2_with fail
      refine (checkWhole _ N E rv2 _ _ _ _ _ w6 _ (HGA.out.grow HG6.out) HK6.out H64.out ⟨⟨_, _, _, rfl⟩, ⟨_, _, _, rfl⟩, ⟨_, _, _, rfl⟩, ⟨_, rfl⟩⟩).mono ?_
      rintro e w7 ⟨rfl, g7⟩
      have HG7 := Lib.hid (HG6.out.step g7)
      rw [HLS.out]
      obtain ⟨of, hof⟩ : ∃ o, firstR N E rs = o := ⟨_, rfl⟩
      rw [hof] at HRV ⊢
      obtain rfl := HRV.out.1
      obtain rfl := HRV.out.2
      clear g7 hof HRV HI HBB HO HLS
      cases of with
      | none =>
        simp only [Option.getD, Option.isSome, errR, if_false, Bool.false_eq_true]
        go_wp2_with fail
        refine (law21Wakes w7).mono ?_
        rintro e w8 ⟨rfl, g8⟩
        have HG8 := Lib.hid (HG7.out.step g8)
        clear g8
        go_wp2
        go_ret
        exact ⟨rfl, HG2.out.step HG8.out⟩
      | some m =>
        simp only [Option.getD, Option.isSome, errR, if_true]
        go_wp2_with fail
        refine (law21Wakes w7).mono ?_
        rintro e w8 ⟨rfl, g8⟩
        have HG8 := Lib.hid (HG7.out.step g8)
        clear g8
        go_wp2
        go_ret
        exact ⟨rfl, HG2.out.step HG8.out⟩
    · obtain ⟨m, rfl⟩ : ∃ m, k = m + 1 := ⟨k - 1, by omega⟩
      obtain rfl : z = (m : Int) := by omega
      have hml : m < rs.length := by omega
      obtain ⟨ba, oa', ra, rfl, hSa, hba, hRa, hca⟩ := HR.out m rs[m] (List.getElem?_eq_getElem hml)
      have HX := Lib.hid (show ∀ w', Grow w w' → _ from fun w' g => ruleAt hRa hba g hca)
      have HDR := Lib.hid (show (rs.drop m).reverse = (rs.drop (m + 1)).reverse ++ [rs[m]] by rw [List.drop_eq_getElem_cons hml, List.reverse_cons])
      have HLE := Lib.hid (show (rs.drop (m + 1)).reverse.length ≤ rs.length by simp)
      clear hca hRa hSa hba hz hk0
      generalize rs[m] = r at *
      obtain ⟨hal, c0, c1, c2, c3, c4, c5, c6, c7⟩ := HX.out wr (HG2.out.step HG.out)
      have HA := Lib.hid (show ∀ o1, Grow wr (wr.alloc o1) from fun o1 => (Grow.rfl' wr).allocd o1)
      have HRN := Lib.hid (fun w' => ruleBoxNew wr r w')
      go_wp2_with fail
      refine (keepLargeRule r _).mono ?_
      rintro e w3 ⟨bl, rfl, g3⟩
      have HG3 := Lib.hid ((HA.out _).step g3)
      have HR3 := Lib.hid (HRN.out w3 g3)
      have HGX := Lib.hid (HG.out.step HG3.out)
      clear g3 c0 c1 c2 c3 c4 c5 c6 c7 hal
      cases bl
      rotate_left 1
      · go_wp2_with fail
        refine (law21Wakes w3).mono ?_
        rintro e w4 ⟨rfl, g4⟩
        have HG4 := Lib.hid (HGX.out.step g4)
        clear g4
        go_wp2
        go_ret
        exact ⟨rfl, HG2.out.step HG4.out⟩
      obtain ⟨hrl3, c1, c2, c3, c4, c5, c6, c7, c0⟩ := HR3.out.cells
      generalize hfl : (rs.drop (m + 1)).reverse = fl at *
      have HFL := Lib.hid hfl
      clear hfl
      have HE1 := Lib.hid (show ∀ o1, Grow w2 (w3.alloc o1) ∧ OwnN 24 8 RRule w2.heap.size (w3.alloc o1) (.slice oa fl.length co) fl from fun o1 => ⟨HGX.out.allocd o1, (HBK.out.grow HG3.out).grow ((Grow.rfl' w3).allocd o1)⟩)
      have hzs := HGX.out.size
      have hwl := HG3.out.size
      go_wp2_with (at_builtin; go_must (refine wpList_append_Q rfl (.tmp 45) (.tmp 47) 49 rfl rowRule Tryz.underlying49 w2.heap.size _ fl rfl HBK.out (HG3.out.allocd _) r r.cells rfl rfl (ruleCells1 r) _ rfl (rdK _ _ _ 8 rfl (by simp)) (by simp; omega) (by have := HLE.out; unfold maxLen; omega) (by have := HLE.out; omega) ?_))
      intro v5 w5 k1 k2 k3
      have H5 := Lib.hid k1; have HG5 := Lib.hid ((HE1.out _).1.modd k2 (fun q hq => hq.1))
      have HR5 := Lib.hid (show RuleBox w5 wr.heap.size r from ruleMod (HR3.out.grow ((Grow.rfl' w3).allocd (.cells #[.int .i64 r.id, .int .i64 r.kind, .string r.typ, .string r.name, .string r.from_, .string r.to_, .int .i64 r.n, .int .i64 r.state] 24))) k2 (by omega))
      have HS := Lib.hid (show firstR N E (rs.drop m).reverse = firstS N E o r by rw [HDR.out, firstR_snoc, HO.out])
      clear k1 k2 k3 hrl3 c1 c2 c3 c4 c5 c6 c7 c0
      obtain ⟨hrl5, c1, c2, c3, c4, c5, c6, c7, c0⟩ := HR5.out.cells
      obtain ⟨hb2l, g0, g1⟩ := HGC.out w5 HG5.out
      obtain ⟨bs, hbs⟩ : ∃ b, (r.state == 2) = b := ⟨_, rfl⟩
      obtain ⟨bk, hbk⟩ : ∃ b, keepR N E r = b := ⟨_, rfl⟩
      have HBR := Lib.hid (show badR N E r = (bs && !bk) by unfold badR; rw [← hbs, hbk, int_beq])
      have HKP := Lib.hid (show ∀ W, Grow w2 W → Calls Tryz.prog 24 #[.slice na N.length nc, .slice ea E.length ec, r.args] W fun e w' => e = .returned (.bool bk) ∧ Grow W w' from fun W g => hbk ▸ ref15Keeps S2 _ _ N E r W (HN.out.grow g) (HE.out.grow g) HB1.out HB2.out)
      clear hbk
      cases bs
      · go_wp2_with fail
        refine wp_region_grow (by kernel_rfl) (by kernel_rfl) ?_
        repeat (go_big_quiet_step (fail))
        refine wpQuiet_nil ?_
        intro w8 hw8
        have HG8 := Lib.hid (HG5.out.step hw8)
        have HBX := Lib.hid (HR5.out.grow hw8)
        have HK8 := Lib.hid (H5.out.grow hw8)
        clear hw8
        go_wp2_with fail
        go_roundg m
        case measure => omega
        case rel => exact ⟨m, o, i, b, by omega, rfl, ⟨_, rfl, by omega⟩, by rw [HS.out]; unfold firstS; rw [HBR.out]; rfl, HI.out, HBB.out, rfl, rfl, by rw [HDR.out]; exact HK8.out, HG8.out⟩
      · cases bk
        · cases o with
          | none =>
            obtain rfl : b = false := HBB.out
            have HF := Lib.hid (show some r.id = firstR N E (rs.drop m).reverse by rw [HS.out]; unfold firstS; rw [HBR.out]; rfl)
            go_wp2_with fail
            refine wp_region_grow (by kernel_rfl) (by kernel_rfl) ?_
            repeat (go_big_quiet_step (exact calls_gr (HKP.out _ (HG5.out.step (Gr.h _)))))
            refine wpQuiet_nil ?_
            intro w8 hw8
            have HG8 := Lib.hid (HG5.out.step hw8)
            have HBX := Lib.hid (HR5.out.grow hw8)
            have HK8 := Lib.hid (H5.out.grow hw8)
            clear hw8
            clear hrl5 c1 c2 c3 c4 c5 c6 c7 c0
            obtain ⟨hrl5, c1, c2, c3, c4, c5, c6, c7, c0⟩ := HBX.out.cells
            go_wp2_with fail
            go_roundg m
            case measure => omega
            case rel => exact ⟨m, some r.id, r.id, true, by omega, rfl, ⟨_, rfl, by omega⟩, HF.out, rfl, rfl, rfl, rfl, by rw [HDR.out]; exact HK8.out, HG8.out⟩
          | some q =>
            obtain rfl : b = true := HBB.out
            obtain rfl : i = q := HI.out
            obtain ⟨bl2, hbl2⟩ : ∃ b, decide (r.id < i) = b := ⟨_, rfl⟩
            have HBL := Lib.hid hbl2
            cases bl2
            · have HF := Lib.hid (show some i = firstR N E (rs.drop m).reverse by rw [HS.out]; unfold firstS; rw [HBR.out]; have := of_decide_eq_false HBL.out; simp [this])
              go_wp2_with fail
              refine wp_region_grow (by kernel_rfl) (by kernel_rfl) ?_
              repeat (go_big_quiet_step (exact calls_gr (HKP.out _ (HG5.out.step (Gr.h _)))))
              refine wpQuiet_nil ?_
              intro w8 hw8
              have HG8 := Lib.hid (HG5.out.step hw8)
              have HBX := Lib.hid (HR5.out.grow hw8)
              have HK8 := Lib.hid (H5.out.grow hw8)
              clear hw8
              go_wp2_with fail
              go_roundg m
              case measure => omega
              case rel => exact ⟨m, some i, i, true, by omega, rfl, ⟨_, rfl, by omega⟩, HF.out, rfl, rfl, rfl, rfl, by rw [HDR.out]; exact HK8.out, HG8.out⟩
            · have HF := Lib.hid (show some r.id = firstR N E (rs.drop m).reverse by rw [HS.out]; unfold firstS; rw [HBR.out]; have := of_decide_eq_true HBL.out; simp [this])
              go_wp2_with fail
              refine wp_region_grow (by kernel_rfl) (by kernel_rfl) ?_
              repeat (go_big_quiet_step (exact calls_gr (HKP.out _ (HG5.out.step (Gr.h _)))))
              refine wpQuiet_nil ?_
              intro w8 hw8
              have HG8 := Lib.hid (HG5.out.step hw8)
              have HBX := Lib.hid (HR5.out.grow hw8)
              have HK8 := Lib.hid (H5.out.grow hw8)
              clear hw8
              clear hrl5 c1 c2 c3 c4 c5 c6 c7 c0
              obtain ⟨hrl5, c1, c2, c3, c4, c5, c6, c7, c0⟩ := HBX.out.cells
              go_wp2_with fail
              go_roundg m
              case measure => omega
              case rel => exact ⟨m, some r.id, r.id, true, by omega, rfl, ⟨_, rfl, by omega⟩, HF.out, rfl, rfl, rfl, rfl, by rw [HDR.out]; exact HK8.out, HG8.out⟩
        · go_wp2_with fail
          refine wp_region_grow (by kernel_rfl) (by kernel_rfl) ?_
          repeat (go_big_quiet_step (exact calls_gr (HKP.out _ (HG5.out.step (Gr.h _)))))
          refine wpQuiet_nil ?_
          intro w8 hw8
          have HG8 := Lib.hid (HG5.out.step hw8)
          have HBX := Lib.hid (HR5.out.grow hw8)
          have HK8 := Lib.hid (H5.out.grow hw8)
          clear hw8
          go_wp2_with fail
          go_roundg m
          case measure => omega
          case rel => exact ⟨m, o, i, b, by omega, rfl, ⟨_, rfl, by omega⟩, by rw [HS.out]; unfold firstS; rw [HBR.out]; rfl, HI.out, HBB.out, rfl, rfl, by rw [HDR.out]; exact HK8.out, HG8.out⟩
end Go.Hg
