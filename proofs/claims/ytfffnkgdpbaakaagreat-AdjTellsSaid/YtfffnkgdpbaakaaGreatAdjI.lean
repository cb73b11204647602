/- hedgerowref18 has, put, fits. Conditions: those that each theorem names. -/
import Derived.Test.YtfffnkgdpbaakaaGreatAdjA
import Derived.Test.YtfffnkgdpbaakaaGreatAdjD
namespace Go.Hg
open Go.RowKit Go.Proofs

theorem idsCell {S : Nat → Prop} {w : World} {v : Value} {l : List Int} (h : IdsR S w v l) : ∃ a cap, v = .slice a l.length cap ∧ l.length ≤ cap ∧ cap ≤ 9223372036854775807 ∧
    ∀ (k : Nat) x, l[k]? = some x → ∃ b off, a = some ⟨b, off, none⟩ ∧ b < w.heap.size ∧ S b ∧ w.cell? ⟨b, off + k, none⟩ = some (.int .i64 x) := by
  obtain ⟨a, cap, hv, h1, h2, hA⟩ := SlR.open h
  unfold maxLen at h2
  refine ⟨a, cap, hv, h1, h2, fun k x hx => ?_⟩
  obtain ⟨b, off, r, ha, hS, hb, rfl, hc⟩ := hA k x hx
  exact ⟨b, off, ha, hb, hS, by simpa using hc 0 _ rfl⟩
set_option maxHeartbeats 1000000 in
theorem ref18Has (S : Nat → Prop) (v : Value) (l : List Int) (n : Int) (w : World) (h : IdsR S w v l) : Calls Tryz.prog 35 #[v, .int .i64 n] w fun e w' => e = .returned (.bool (decide (n ∈ l))) ∧ w = w' := by
  obtain ⟨a, cap, rfl, h1, h2, hA⟩ := idsCell h
  have HA := Lib.hid hA
  clear h hA
  go_enter Tryz.func35, Tryz.ntmps35
  go_wp2
  go_loopg [5] l.length (fun g i wr => ∃ k : Nat, k ≤ l.length ∧ g = l.length - k ∧ i = .int .i64 k ∧ n ∉ l.take k ∧ w = wr)
  case atStart => exact ⟨0, by omega, by omega, rfl, by simp, rfl⟩
  case round =>
    obtain ⟨k, hk, rfl, rfl, hn, rfl⟩ := hrel
    have HN := Lib.hid hn
    clear hn
    by_cases hkl : k < l.length
    · obtain ⟨b, off, rfl, hb, -, c0⟩ := HA.out k l[k] (List.getElem?_eq_getElem hkl)
      have HT := Lib.hid (show l.take (k + 1) = l.take k ++ [l[k]] from List.take_succ_eq_append_getElem hkl)
      have HM := Lib.hid (List.getElem_mem hkl)
      generalize l[k] = x at *
      by_cases hx : x = n
      · subst hx
        have HD := Lib.hid (decide_eq_true HM.out)
        go_wp2
        go_ret
        exact ⟨by rw [HD.out]; rfl, rfl⟩
      · have hxb : (x == n) = false := by simpa using hx
        have HX := Lib.hid hx
        clear hx
        go_wp2_with fail
        go_roundg (l.length - (k + 1))
        case measure => omega
        case rel => exact ⟨k + 1, by omega, rfl, by go_num, by rw [HT.out, List.mem_append, List.mem_singleton]; exact fun h => h.elim HN.out (fun e => HX.out e.symm), rfl⟩
    · have hkk : l.take k = l := List.take_of_length_le (by omega)
      rw [hkk] at HN
      have HD := Lib.hid (decide_eq_false HN.out)
      clear hkk
      go_wp2
      go_ret
      exact ⟨by rw [HD.out]; rfl, rfl⟩
set_option maxHeartbeats 1000000 in
theorem ref18Fits (e : PEdge) (pv : Value) (typ : ByteArray) (w : World) : Calls Tryz.prog 36 #[.agg #[.int .i64 e.id, .string e.typ, .int .i64 e.from_, .int .i64 e.to_, pv], .string typ] w fun r w' => r = .returned (.bool (fitE typ e)) ∧ Grow w w' := by
  have HG := Lib.hid (show ∀ o1, Grow w (w.alloc o1) from fun o1 => (Grow.rfl' w).allocd o1)
  unfold fitE
  cases ht : decide (typ = ByteArray.empty)
  · have hte : (typ.toList == ([] : List UInt8)) = false := (empty_beq typ).trans ht
    rw [Bool.false_or]
    clear ht
    generalize hd : decide (e.typ = typ) = d
    go_enter Tryz.func36, Tryz.ntmps36
    go_wp2
    go_ret
    exact ⟨rfl, HG.out _⟩
  · have hte : (typ.toList == ([] : List UInt8)) = true := (empty_beq typ).trans ht
    rw [Bool.true_or]
    clear ht
    go_enter Tryz.func36, Tryz.ntmps36
    go_wp2
    go_ret
    exact ⟨rfl, HG.out _⟩

theorem Rd.modd {w w' : World} {F : Nat → Prop} {sz m c b o : Nat} {news : List Value} (h : Rd w sz (.slice (some ⟨b, o, none⟩) m c) m news) (g : Mod F w w') (hb : b < w.heap.size) (hF : ¬ F b) : Rd w' sz (.slice (some ⟨b, o, none⟩) m c) m news := by
  obtain ⟨h1, oa, cap, h2, h3⟩ := h
  refine ⟨h1, oa, cap, h2, h3.imp id ?_⟩
  rintro ⟨a', ha, hc⟩
  simp only [Value.slice.injEq, ha, Option.some.injEq, true_and] at h2
  obtain ⟨rfl, rfl⟩ := h2
  refine ⟨_, ha, fun j u hu => ?_⟩
  rw [← hc j u hu, Addr.add_lit]
  exact World.cell?_of_block (w := w) (g.block b hb hF)
theorem rdIds {w w' : World} {g o m c : Nat} {cur : Array Value} {xs : List Int} (hg : w.heap[g]? = some (.cells cur 2 (0, 0))) (gr : Grow w w') (ht : ∀ (j : Nat) u, xs[j]? = some u → cur[o + j]? = some (.int .i64 u)) (hl : xs.length = m) :
    Rd w' 1 (.slice (some ⟨g, o, none⟩) m c) m (xs.map (Value.int .i64 ·)) := by
  refine ⟨by simp [hl], _, _, rfl, .inr ⟨_, rfl, fun j u hu => ?_⟩⟩
  rw [List.getElem?_map] at hu
  cases hx : xs[j]? with
  | none => rw [hx] at hu; cases hu
  | some y =>
    rw [hx] at hu
    cases hu
    rw [Addr.add_lit, blk_cell ((gr.heapEq (blk_lt hg)).trans hg)]
    exact ht j y hx
theorem ob_caseP {o o' : Option Nat} {n m : Nat} (h : o' = o ∨ ∃ g, o' = some g ∧ m ≤ g) (hn : n ≤ m) (ho : ∀ g, o = some g → n ≤ g) : ∀ g, o' = some g → n ≤ g := by
  intro g hg
  rcases h with h | ⟨g', h, hm⟩
  · exact ho g (h ▸ hg)
  · rw [h] at hg
    cases hg
    omega
theorem rdNil {w : World} {sz : Nat} {oa : Option Addr} {c : Nat} : Rd w sz (.slice oa 0 c) 0 [] := ⟨by simp, _, _, rfl, .inl rfl⟩
theorem oneIds (l : List Int) : ∀ u ∈ l.map (Value.int .i64 ·), u.oneCell' = true := by
  intro u hu
  obtain ⟨x, -, rfl⟩ := List.mem_map.1 hu
  rfl
/-- what put tells -/
def PutPost (l : List Int) (n : Int) (ob : Option Nat) (w : World) (e : Ending) (w' : World) : Prop :=
  ∃ v' ob', e = .returned v' ∧ IdsO w' v' (putL l n) ob' ∧ (ob' = ob ∨ ∀ g, ob' = some g → w.heap.size ≤ g) ∧ Grow w w'
theorem putL_not {l : List Int} {n : Int} (h : n ∉ l) : putL l n = l.take (spotL l n) ++ n :: l.drop (spotL l n) := by unfold putL; rw [if_neg h]
theorem putL_in {l : List Int} {n : Int} (h : n ∈ l) : putL l n = l := by unfold putL; rw [if_pos h]

set_option maxRecDepth 100000 in
set_option maxHeartbeats 8000000 in
theorem ref18Put (v : Value) (l : List Int) (n : Int) (ob : Option Nat) (w : World) (h : IdsO w v l ob) (hl : l.length ≤ 4096) : Calls Tryz.prog 37 #[v, .int .i64 n] w (PutPost l n ob w) := by
  have HR := Lib.hid (h.toR (S := fun _ => True) (fun _ _ => trivial))
  have HO := Lib.hid h; have HLN := Lib.hid hl
  obtain ⟨iP, hiP, hzP0, hzP1, hzP2⟩ := info_parts infoInt
  obtain ⟨a, cap, rfl, hlc, hcm, hA⟩ := idsCell HR.out
  have HA := Lib.hid hA
  clear h hl hA
  go_enter Tryz.func37, Tryz.ntmps37
  go_wp2_with fail
  refine (ref18Has _ _ l n _ HR.out).mono ?_
  rintro e w2 ⟨rfl, rfl⟩
  by_cases hn : n ∈ l
  · have HP := Lib.hid (putL_in hn)
    rw [decide_eq_true hn]
    clear hn
    go_wp2
    go_ret
    exact ⟨_, ob, rfl, by rw [HP.out]; exact HO.out, .inl rfl, Grow.rfl' _⟩
  have HP := Lib.hid (putL_not hn)
  rw [decide_eq_false hn]
  clear hn
  go_wp2
  go_loopg [5] l.length (fun g i wr => ∃ k : Nat, k ≤ l.length ∧ g = l.length - k ∧ i = .int .i64 k ∧ (∀ (j : Nat) (x : Int), j < k → l[j]? = some x → x < n) ∧ w = wr)
  case atStart => exact ⟨0, by omega, by omega, rfl, by intro j x h; omega, rfl⟩
  case round =>
    obtain ⟨k, hk, rfl, rfl, hj, rfl⟩ := hrel
    have HJ := Lib.hid hj
    clear hj
    by_cases hkl : k < l.length
    · obtain ⟨b, off, rfl, hb, -, c0⟩ := HA.out k l[k] (List.getElem?_eq_getElem hkl)
      have HK := Lib.hid (List.getElem?_eq_getElem hkl)
      generalize l[k] = x at *
      by_cases hx : x < n
      · have HX := Lib.hid hx
        go_wp2_with fail
        go_roundg (l.length - (k + 1))
        case measure => omega
        case rel => exact ⟨k + 1, by omega, rfl, by go_num, fun j y hj hy => by
          rcases Nat.lt_or_ge j k with h | h
          · exact HJ.out j y h hy
          · obtain rfl : j = k := by omega
            rw [HK.out] at hy
            cases hy
            exact HX.out, rfl⟩
      · have HSP := Lib.hid (spotL_eq HJ.out hk (fun y hy => by rw [HK.out] at hy; cases hy; exact hx))
        go_wp2_with fail
        clear hx c0
        skip
        obtain ⟨g, cap', cur, hv, rfl, hg, hnc, hcm', hcs, htk⟩ : ∃ g cap', ∃ cur : Array Value, Value.slice (some ⟨b, off, none⟩) l.length cap = .slice (some ⟨g, 0, none⟩) l.length cap' ∧ ob = some g ∧ w.heap[g]? = some (.cells cur 2 (0, 0)) ∧ l.length ≤ cap' ∧ cap' ≤ maxLen ∧ cur.size = cap' * 1 ∧ cur.toList.take (l.length * 1) = l.map (Value.int .i64 ·) := by
          rcases HO.out.2 with ⟨_, _, h, _⟩ | ⟨g, cap', cur, h1, h2, h3, h4, h5, h6, h7⟩
          · omega
          · exact ⟨g, cap', cur, h1, h2, h3, h4, h5, h6, h7⟩
        simp only [Value.slice.injEq, Option.some.injEq, Addr.mk.injEq, and_true, true_and] at hv
        obtain ⟨⟨rfl, rfl⟩, rfl⟩ := hv
        have hce : ¬ cap = k := by omega
        have hq1 : (0 : Int) ≤ (k : Int) := by omega
        have hq2 : (k : Int) ≤ (l.length : Int) := by omega
        have hq3 : (l.length : Int) ≤ (cap : Int) := by omega
        have hq4 : ((k : Int)).toNat = k := by omega
        have hq5 : (k : Int) ≤ (cap : Int) := by omega
        have HCU := Lib.hid (show ∀ (j : Nat) u, l[j]? = some u → cur[j]? = some (.int .i64 u) from fun j u hu => by
          have h : (cur.toList.take (l.length * 1))[j]? = some (Value.int .i64 u) := by rw [htk, List.getElem?_map, hu]; rfl
          rw [List.getElem?_take] at h
          split at h
          · simpa using h
          · cases h)
        have HRD1 := Lib.hid (show ∀ w', Grow w w' → Rd w' 1 (.slice (some ⟨b, 0, none⟩) k cap) k ((l.take k).map (Value.int .i64 ·)) from fun w' gr => rdIds hg gr (fun j u hu => by
          rw [List.getElem?_take] at hu
          split at hu
          · rw [Nat.zero_add]; exact HCU.out j u hu
          · cases hu) (by rw [List.length_take]; omega))
        have HRD2 := Lib.hid (show ∀ w', Grow w w' → Rd w' 1 (.slice (some ⟨b, k, none⟩) (l.length - k) (cap - k)) (l.length - k) ((l.drop k).map (Value.int .i64 ·)) from fun w' gr => rdIds hg gr (fun j u hu => by
          rw [List.getElem?_drop] at hu
          exact HCU.out _ u hu) (by rw [List.length_drop]))
        have HON1 := Lib.hid (oneIds (l.take k)); have HON2 := Lib.hid (oneIds (l.drop k))
        have HOS0 := Lib.hid (OwnS.lit w.drew #[] 2 1 0 (by unfold maxLen; omega) (by simp))
        have HOS6 := Lib.hid (show OwnS ((w.drew.alloc (.cells #[.int .i64 n] 2)).alloc (.cells #[] 2)) 2 1 (.slice (some ⟨w.heap.size + 1, 0, none⟩) 0 0) 0 [] (some (w.heap.size + 1)) by
          have h := OwnS.lit (w.drew.alloc (.cells #[.int .i64 n] 2)) #[] 2 1 0 (by unfold maxLen; omega) (by simp)
          have e : (w.drew.alloc (.cells #[.int .i64 n] 2)).heap.size = w.heap.size + 1 := by simp
          rw [e] at h
          exact h)
        have HRL6 := Lib.hid (show Rd ((w.drew.alloc (.cells #[] 2)).alloc (.cells #[.int .i64 n] 2)) 1 (.slice (some ⟨w.heap.size + 1, 0, none⟩) 1 1) 1 [.int .i64 n] by
          have h := Rd.lit (w.drew.alloc (.cells #[] 2)) #[.int .i64 n] 2 1 1 rfl
          have e : (w.drew.alloc (.cells #[] 2)).heap.size = w.heap.size + 1 := by simp
          rw [e] at h
          exact h)
        have HRL0 := Lib.hid (show Rd ((w.drew.alloc (.cells #[.int .i64 n] 2)).alloc (.cells #[] 2)) 1 (.slice (some ⟨w.heap.size, 0, none⟩) 1 1) 1 [.int .i64 n] from
          (Rd.lit w.drew #[.int .i64 n] 2 1 1 rfl).modd (Mod.of_grow (F := fun _ => False) ((Grow.rfl' _).allocd _)) (by simp) id)
        have HFIN := Lib.hid (show ∀ w' v' o', OwnS w' 2 1 v' (k + 1 + (l.length - k)) (((l.take k).map (Value.int .i64 ·) ++ [Value.int .i64 n]) ++ (l.drop k).map (Value.int .i64 ·)) o' → IdsO w' v' (putL l n) o' from fun w' v' o' h => by
          rw [HP.out, HSP.out]
          unfold IdsO
          rw [List.length_append, List.length_cons, List.length_take, List.length_drop, Nat.min_eq_left (by omega)]
          have e1 : k + 1 + (l.length - k) = k + (l.length - k + 1) := by omega
          rw [e1] at h
          simpa using h)
        clear hg hcs htk HCU hcm' hnc
        refine wp_region_noPanic ?_
        refine wp_region_held_drew (S := fun _ => True) (by kernel_rfl) ?_ (fun hHeld => ?_)
        · trivial
        refine' wpAnyH_take (i := 1) (oi := ?o1) (v := _) (by simp only [List.getElem?_toArray, List.getElem?_cons_succ, List.getElem?_cons_zero]; rfl) (by kernel_rfl) (by kernel_rfl) (by kernel_rfl) (fun _ _ _ h => h) (Or.inl ⟨by rfl, ?y1⟩) (by assumption) ?r1
        case y1 =>
          intro wS hSw
          try dsimp only at hSw
          go_simp
          all_goals with_reducible rfl
        simp only [Act.put, List.setIfInBounds_toArray, List.set_cons_zero, List.set_cons_succ]
        refine' wpAnyH_take (i := 2) (oi := ?o2) (v := _) (by simp only [List.getElem?_toArray, List.getElem?_cons_succ, List.getElem?_cons_zero]; rfl) (by kernel_rfl) (by kernel_rfl) (by kernel_rfl) (fun _ _ _ h => h) (Or.inl ⟨by rfl, ?y2⟩) (by assumption) ?r2
        case y2 =>
          intro wS hSw
          try dsimp only at hSw
          go_simp
          all_goals with_reducible rfl
        simp only [Act.put, List.setIfInBounds_toArray, List.set_cons_zero, List.set_cons_succ]
        refine' wpAnyH_take (i := 3) (oi := ?o3) (v := _) (by simp only [List.getElem?_toArray, List.getElem?_cons_succ, List.getElem?_cons_zero]; rfl) (by kernel_rfl) (by kernel_rfl) (by kernel_rfl) (fun _ _ _ h => h) (Or.inl ⟨by rfl, ?y3⟩) (by assumption) ?r3
        case y3 =>
          intro wS hSw
          try dsimp only at hSw
          go_simp
          all_goals with_reducible rfl
        simp only [Act.put, List.setIfInBounds_toArray, List.set_cons_zero, List.set_cons_succ]
        refine' wpAnyH_take (i := 5) (oi := ?o4) (v := _) (by simp only [List.getElem?_toArray, List.getElem?_cons_succ, List.getElem?_cons_zero]; rfl) (by kernel_rfl) (by kernel_rfl) (by kernel_rfl) (fun _ _ _ h => h) (Or.inl ⟨by rfl, ?y4⟩) (by assumption) ?r4
        case y4 =>
          intro wS hSw
          try dsimp only at hSw
          go_simp
          all_goals with_reducible rfl
        simp only [Act.put, List.setIfInBounds_toArray, List.set_cons_zero, List.set_cons_succ]
        refine' wpAnyH_take (i := 8) (oi := ?o5) (v := _) (by simp only [List.getElem?_toArray, List.getElem?_cons_succ, List.getElem?_cons_zero]; rfl) (by kernel_rfl) (by kernel_rfl) (by kernel_rfl) (fun _ _ _ h => h) (Or.inl ⟨by rfl, ?y5⟩) (by assumption) ?r5
        case y5 =>
          intro wS hSw
          try dsimp only at hSw
          go_simp
          all_goals with_reducible rfl
        simp only [Act.put, List.setIfInBounds_toArray, List.set_cons_zero, List.set_cons_succ]
        refine' wpAnyH_take (i := 9) (oi := ?o6) (v := _) (by simp only [List.getElem?_toArray, List.getElem?_cons_succ, List.getElem?_cons_zero]; rfl) (by kernel_rfl) (by kernel_rfl) (by kernel_rfl) (fun _ _ _ h => h) (Or.inl ⟨by rfl, ?y6⟩) (by assumption) ?r6
        case y6 =>
          intro wS hSw
          try dsimp only at hSw
          go_simp
          all_goals with_reducible rfl
        simp only [Act.put, List.setIfInBounds_toArray, List.set_cons_zero, List.set_cons_succ]
        refine' wpAnyH_take (i := 10) (oi := ?o7) (v := _) (by simp only [List.getElem?_toArray, List.getElem?_cons_succ, List.getElem?_cons_zero]; rfl) (by kernel_rfl) (by kernel_rfl) (by kernel_rfl) (fun _ _ _ h => h) (Or.inl ⟨by rfl, ?y7⟩) (by assumption) ?r7
        case y7 =>
          intro wS hSw
          try dsimp only at hSw
          go_simp
          all_goals with_reducible rfl
        simp only [Act.put, List.setIfInBounds_toArray, List.set_cons_zero, List.set_cons_succ]
        refine wpAnyH_ready (rs := [0, 6]) (by kernel_rfl) (by simp) ?_
        refine' AllReadyH.cons (o := ?o23) (by simp only [List.getElem?_toArray, List.getElem?_cons_zero]; rfl) (fun K hK => ?s23) ?m23
        rotate_left
        · refine' AllReadyH.cons (o := ?o24) (by simp only [List.getElem?_toArray, List.getElem?_cons_succ, List.getElem?_cons_zero]; rfl) (fun K hK => ?s24) ?m24
          case m24 => exact AllReadyH.nil
          go_simp
          refine hK.out _ _ ?_ (fun hHeld => ?_)
          · trivial
          clear hK K
          try simp only [Act.put, List.setIfInBounds_toArray, List.set_cons_zero, List.set_cons_succ]
          refine wpAnyH_ready (rs := [0]) (by kernel_rfl) (by simp) ?_
          refine' AllReadyH.cons (o := ?o18) (by simp only [List.getElem?_toArray, List.getElem?_cons_zero]; rfl) (fun K hK => ?s18) ?m18
          case m18 => exact AllReadyH.nil
          go_simp
          refine hK.out _ _ ?_ (fun hHeld => ?_)
          · trivial
          clear hK K
          try simp only [Act.put, List.setIfInBounds_toArray, List.set_cons_zero, List.set_cons_succ]
          refine wpAnyH_ready (rs := [4]) (by kernel_rfl) (by simp) ?_
          refine' AllReadyH.cons (o := ?o19) (by simp only [List.getElem?_toArray, List.getElem?_cons_succ, List.getElem?_cons_zero]; rfl) (fun K hK => ?s19) ?m19
          case m19 => exact AllReadyH.nil
          refine step_append_S rfl (.tmp 24) (.tmp 27) 30 rfl 2 iP _ 1 8 Tryz.underlying30 hiP hzP0 hzP1 hzP2 rfl (by decide) (.slice (some ⟨(w.heap.size + 1), 0, none⟩) 0 0) 0 [] (some (w.heap.size + 1)) (by rfl) HOS6.out (.slice (some ⟨b, 0, none⟩) k cap) (by rfl) k _ (HRD1.out _ ((((Grow.rfl' w).drewd).allocd (.cells #[.int .i64 n] 2)).allocd (.cells #[] 2))) (fun u hu => HON1.out u hu) (by have := HLN.out; unfold maxLen; omega) (by have := HLN.out; omega) ?_
          intro va vaw vao a1 a2 a3 a14
          clear a14
          try simp only [Nat.zero_add, List.nil_append] at a1
          have Ha1 := Lib.hid a1; have Ha2 := Lib.hid a2; have Ha3 := Lib.hid a3
          obtain ⟨vaa, vac, rfl, -, -⟩ := a1.isSlice
          clear a1 a2 a3
          have HGa := Lib.hid (((((Grow.rfl' w).drewd).allocd (.cells #[.int .i64 n] 2)).allocd (.cells #[] 2)).modd Ha2.out (fun b hb => by cases hb; first | exact Nat.le_refl _ | (simp; try omega)))
          have HOa := Lib.hid (ob_caseP Ha3.out ((((Grow.rfl' w).drewd).allocd (.cells #[.int .i64 n] 2)).allocd (.cells #[] 2)).size (fun q hq => by cases hq; first | exact Nat.le_refl _ | (simp; try omega)))
          refine hK.out _ _ ?_ (fun hHeld => ?_)
          · trivial
          clear hK K
          try simp only [Act.put, List.setIfInBounds_toArray, List.set_cons_zero, List.set_cons_succ]
          refine wpAnyH_ready (rs := [7]) (by kernel_rfl) (by simp) ?_
          refine' AllReadyH.cons (o := ?o20) (by simp only [List.getElem?_toArray, List.getElem?_cons_succ, List.getElem?_cons_zero]; rfl) (fun K hK => ?s20) ?m20
          case m20 => exact AllReadyH.nil
          refine step_append_S rfl (.tmp 28) (.tmp 30) 30 rfl 2 iP _ 1 8 Tryz.underlying30 hiP hzP0 hzP1 hzP2 rfl (by decide) (.slice vaa k vac) k _ vao (by rfl) Ha1.out (.slice (some ⟨w.heap.size, 0, none⟩) 1 1) (by rfl) 1 _ (HRL0.out.modd Ha2.out (by first | (simp; done) | (simp; omega)) (fun e => by simp at e)) (one1 _ rfl) (by have := HLN.out; unfold maxLen; omega) (by have := HLN.out; omega) ?_
          intro vb vbw vbo b1 b2 b3 b14
          clear b14
          try simp only [Nat.zero_add, Nat.add_zero, List.nil_append, List.append_nil] at b1
          have Hb1 := Lib.hid b1; have Hb2 := Lib.hid b2; have Hb3 := Lib.hid b3
          obtain ⟨vba, vbc, rfl, -, -⟩ := b1.isSlice
          clear b1 b2 b3
          have HGb := Lib.hid ((HGa.out).modd Hb2.out (fun b hb => HOa.out b hb))
          have HOb := Lib.hid (ob_caseP Hb3.out (HGa.out).size HOa.out)
          refine hK.out _ _ ?_ (fun hHeld => ?_)
          · trivial
          clear hK K
          try simp only [Act.put, List.setIfInBounds_toArray, List.set_cons_zero, List.set_cons_succ]
          refine wpAnyH_ready (rs := [11]) (by kernel_rfl) (by simp) ?_
          refine' AllReadyH.cons (o := ?o21) (by simp only [List.getElem?_toArray, List.getElem?_cons_succ, List.getElem?_cons_zero]; rfl) (fun K hK => ?s21) ?m21
          case m21 => exact AllReadyH.nil
          refine step_append_S rfl (.tmp 31) (.tmp 34) 30 rfl 2 iP _ 1 8 Tryz.underlying30 hiP hzP0 hzP1 hzP2 rfl (by decide) (.slice vba (k + 1) vbc) (k + 1) _ vbo (by rfl) Hb1.out (.slice (some ⟨b, k, none⟩) (l.length - k) (cap - k)) (by rfl) (l.length - k) _ (HRD2.out _ HGb.out) (fun u hu => HON2.out u hu) (by have := HLN.out; unfold maxLen; omega) (by have := HLN.out; omega) ?_
          intro vc vcw vco c1 c2 c3 c14
          clear c14
          try simp only at c1
          have Hc1 := Lib.hid c1; have Hc2 := Lib.hid c2; have Hc3 := Lib.hid c3
          obtain ⟨vca, vcc, rfl, -, -⟩ := c1.isSlice
          clear c1 c2 c3
          have HGc := Lib.hid (HGb.out.modd Hc2.out (fun b hb => HOb.out b hb))
          have HOc := Lib.hid (ob_caseP Hc3.out HGb.out.size HOb.out)
          refine hK.out _ _ ?_ (fun hHeld => ?_)
          · trivial
          clear hK K
          try simp only [Act.put, List.setIfInBounds_toArray, List.set_cons_zero, List.set_cons_succ]
          refine' wpAnyH_take (i := 12) (oi := ?o22) (v := _) (by simp only [List.getElem?_toArray, List.getElem?_cons_succ, List.getElem?_cons_zero]; rfl) (by kernel_rfl) (by kernel_rfl) (by kernel_rfl) (fun _ _ _ h => h) (Or.inl ⟨by rfl, ?y22⟩) (by assumption) ?r22
          case y22 =>
            intro wS hSw
            try dsimp only at hSw
            go_simp
            all_goals with_reducible rfl
          simp only [Act.put, List.setIfInBounds_toArray, List.set_cons_zero, List.set_cons_succ]
          refine wpAnyH_done (by kernel_rfl) ?_ _
          refine NoPanic.normal ?_
          go_wp2
          go_ret
          exact ⟨_, vco, rfl, HFIN.out _ _ _ Hc1.out, .inr HOc.out, HGc.out⟩
        go_simp
        refine hK.out _ _ ?_ (fun hHeld => ?_)
        · trivial
        clear hK K
        try simp only [Act.put, List.setIfInBounds_toArray, List.set_cons_zero, List.set_cons_succ]
        refine wpAnyH_ready (rs := [4, 6]) (by kernel_rfl) (by simp) ?_
        refine' AllReadyH.cons (o := ?o16) (by simp only [List.getElem?_toArray, List.getElem?_cons_succ, List.getElem?_cons_zero]; rfl) (fun K hK => ?s16) ?m16
        rotate_left
        · refine' AllReadyH.cons (o := ?o17) (by simp only [List.getElem?_toArray, List.getElem?_cons_succ, List.getElem?_cons_zero]; rfl) (fun K hK => ?s17) ?m17
          case m17 => exact AllReadyH.nil
          go_simp
          refine hK.out _ _ ?_ (fun hHeld => ?_)
          · trivial
          clear hK K
          try simp only [Act.put, List.setIfInBounds_toArray, List.set_cons_zero, List.set_cons_succ]
          refine wpAnyH_ready (rs := [4]) (by kernel_rfl) (by simp) ?_
          refine' AllReadyH.cons (o := ?o12) (by simp only [List.getElem?_toArray, List.getElem?_cons_succ, List.getElem?_cons_zero]; rfl) (fun K hK => ?s12) ?m12
          case m12 => exact AllReadyH.nil
          refine step_append_S rfl (.tmp 24) (.tmp 27) 30 rfl 2 iP _ 1 8 Tryz.underlying30 hiP hzP0 hzP1 hzP2 rfl (by decide) (.slice (some ⟨w.heap.size, 0, none⟩) 0 0) 0 [] (some w.heap.size) (by rfl) (HOS0.out.grow ((Grow.rfl' _).allocd _)) (.slice (some ⟨b, 0, none⟩) k cap) (by rfl) k _ (HRD1.out _ ((((Grow.rfl' w).drewd).allocd (.cells #[] 2)).allocd (.cells #[.int .i64 n] 2))) (fun u hu => HON1.out u hu) (by have := HLN.out; unfold maxLen; omega) (by have := HLN.out; omega) ?_
          intro va vaw vao a1 a2 a3 a14
          clear a14
          try simp only [Nat.zero_add, List.nil_append] at a1
          have Ha1 := Lib.hid a1; have Ha2 := Lib.hid a2; have Ha3 := Lib.hid a3
          obtain ⟨vaa, vac, rfl, -, -⟩ := a1.isSlice
          clear a1 a2 a3
          have HGa := Lib.hid (((((Grow.rfl' w).drewd).allocd (.cells #[] 2)).allocd (.cells #[.int .i64 n] 2)).modd Ha2.out (fun b hb => by cases hb; first | exact Nat.le_refl _ | (simp; try omega)))
          have HOa := Lib.hid (ob_caseP Ha3.out ((((Grow.rfl' w).drewd).allocd (.cells #[] 2)).allocd (.cells #[.int .i64 n] 2)).size (fun q hq => by cases hq; first | exact Nat.le_refl _ | (simp; try omega)))
          refine hK.out _ _ ?_ (fun hHeld => ?_)
          · trivial
          clear hK K
          try simp only [Act.put, List.setIfInBounds_toArray, List.set_cons_zero, List.set_cons_succ]
          refine wpAnyH_ready (rs := [7]) (by kernel_rfl) (by simp) ?_
          refine' AllReadyH.cons (o := ?o13) (by simp only [List.getElem?_toArray, List.getElem?_cons_succ, List.getElem?_cons_zero]; rfl) (fun K hK => ?s13) ?m13
          case m13 => exact AllReadyH.nil
          refine step_append_S rfl (.tmp 28) (.tmp 30) 30 rfl 2 iP _ 1 8 Tryz.underlying30 hiP hzP0 hzP1 hzP2 rfl (by decide) (.slice vaa k vac) k _ vao (by rfl) Ha1.out (.slice (some ⟨w.heap.size + 1, 0, none⟩) 1 1) (by rfl) 1 _ (HRL6.out.modd Ha2.out (by first | (simp; done) | (simp; omega)) (fun e => by simp at e)) (one1 _ rfl) (by have := HLN.out; unfold maxLen; omega) (by have := HLN.out; omega) ?_
          intro vb vbw vbo b1 b2 b3 b14
          clear b14
          try simp only [Nat.zero_add, Nat.add_zero, List.nil_append, List.append_nil] at b1
          have Hb1 := Lib.hid b1; have Hb2 := Lib.hid b2; have Hb3 := Lib.hid b3
          obtain ⟨vba, vbc, rfl, -, -⟩ := b1.isSlice
          clear b1 b2 b3
          have HGb := Lib.hid ((HGa.out).modd Hb2.out (fun b hb => HOa.out b hb))
          have HOb := Lib.hid (ob_caseP Hb3.out (HGa.out).size HOa.out)
          refine hK.out _ _ ?_ (fun hHeld => ?_)
          · trivial
          clear hK K
          try simp only [Act.put, List.setIfInBounds_toArray, List.set_cons_zero, List.set_cons_succ]
          refine wpAnyH_ready (rs := [11]) (by kernel_rfl) (by simp) ?_
          refine' AllReadyH.cons (o := ?o14) (by simp only [List.getElem?_toArray, List.getElem?_cons_succ, List.getElem?_cons_zero]; rfl) (fun K hK => ?s14) ?m14
          case m14 => exact AllReadyH.nil
          refine step_append_S rfl (.tmp 31) (.tmp 34) 30 rfl 2 iP _ 1 8 Tryz.underlying30 hiP hzP0 hzP1 hzP2 rfl (by decide) (.slice vba (k + 1) vbc) (k + 1) _ vbo (by rfl) Hb1.out (.slice (some ⟨b, k, none⟩) (l.length - k) (cap - k)) (by rfl) (l.length - k) _ (HRD2.out _ HGb.out) (fun u hu => HON2.out u hu) (by have := HLN.out; unfold maxLen; omega) (by have := HLN.out; omega) ?_
          intro vc vcw vco c1 c2 c3 c14
          clear c14
          try simp only at c1
          have Hc1 := Lib.hid c1; have Hc2 := Lib.hid c2; have Hc3 := Lib.hid c3
          obtain ⟨vca, vcc, rfl, -, -⟩ := c1.isSlice
          clear c1 c2 c3
          have HGc := Lib.hid (HGb.out.modd Hc2.out (fun b hb => HOb.out b hb))
          have HOc := Lib.hid (ob_caseP Hc3.out HGb.out.size HOb.out)
          refine hK.out _ _ ?_ (fun hHeld => ?_)
          · trivial
          clear hK K
          try simp only [Act.put, List.setIfInBounds_toArray, List.set_cons_zero, List.set_cons_succ]
          refine' wpAnyH_take (i := 12) (oi := ?o15) (v := _) (by simp only [List.getElem?_toArray, List.getElem?_cons_succ, List.getElem?_cons_zero]; rfl) (by kernel_rfl) (by kernel_rfl) (by kernel_rfl) (fun _ _ _ h => h) (Or.inl ⟨by rfl, ?y15⟩) (by assumption) ?r15
          case y15 =>
            intro wS hSw
            try dsimp only at hSw
            go_simp
            all_goals with_reducible rfl
          simp only [Act.put, List.setIfInBounds_toArray, List.set_cons_zero, List.set_cons_succ]
          refine wpAnyH_done (by kernel_rfl) ?_ _
          refine NoPanic.normal ?_
          go_wp2
          go_ret
          exact ⟨_, vco, rfl, HFIN.out _ _ _ Hc1.out, .inr HOc.out, HGc.out⟩
        refine step_append_S rfl (.tmp 24) (.tmp 27) 30 rfl 2 iP _ 1 8 Tryz.underlying30 hiP hzP0 hzP1 hzP2 rfl (by decide) (.slice (some ⟨w.heap.size, 0, none⟩) 0 0) 0 [] (some w.heap.size) (by rfl) HOS0.out (.slice (some ⟨b, 0, none⟩) k cap) (by rfl) k _ (HRD1.out _ (((Grow.rfl' w).drewd).allocd (.cells #[] 2))) (fun u hu => HON1.out u hu) (by have := HLN.out; unfold maxLen; omega) (by have := HLN.out; omega) ?_
        intro va vaw vao a1 a2 a3 a14
        clear a14
        try simp only [Nat.zero_add, List.nil_append] at a1
        have Ha1 := Lib.hid a1; have Ha2 := Lib.hid a2; have Ha3 := Lib.hid a3
        obtain ⟨vaa, vac, rfl, -, -⟩ := a1.isSlice
        clear a1 a2 a3
        have HGa := Lib.hid ((((Grow.rfl' w).drewd).allocd (.cells #[] 2)).modd Ha2.out (fun b hb => by cases hb; first | exact Nat.le_refl _ | (simp; try omega)))
        have HOa := Lib.hid (ob_caseP Ha3.out (((Grow.rfl' w).drewd).allocd (.cells #[] 2)).size (fun q hq => by cases hq; first | exact Nat.le_refl _ | (simp; try omega)))
        refine hK.out _ _ ?_ (fun hHeld => ?_)
        · trivial
        clear hK K
        try simp only [Act.put, List.setIfInBounds_toArray, List.set_cons_zero, List.set_cons_succ]
        refine wpAnyH_ready (rs := [6]) (by kernel_rfl) (by simp) ?_
        refine' AllReadyH.cons (o := ?o8) (by simp only [List.getElem?_toArray, List.getElem?_cons_succ, List.getElem?_cons_zero]; rfl) (fun K hK => ?s8) ?m8
        case m8 => exact AllReadyH.nil
        go_simp
        refine hK.out _ _ ?_ (fun hHeld => ?_)
        · trivial
        clear hK K
        try simp only [Act.put, List.setIfInBounds_toArray, List.set_cons_zero, List.set_cons_succ]
        refine wpAnyH_ready (rs := [7]) (by kernel_rfl) (by simp) ?_
        refine' AllReadyH.cons (o := ?o9) (by simp only [List.getElem?_toArray, List.getElem?_cons_succ, List.getElem?_cons_zero]; rfl) (fun K hK => ?s9) ?m9
        case m9 => exact AllReadyH.nil
        refine step_append_S rfl (.tmp 28) (.tmp 30) 30 rfl 2 iP _ 1 8 Tryz.underlying30 hiP hzP0 hzP1 hzP2 rfl (by decide) (.slice vaa k vac) k _ vao (by rfl) (Ha1.out.grow ((Grow.rfl' vaw).allocd _)) (.slice (some ⟨vaw.heap.size, 0, none⟩) 1 1) (by rfl) 1 _ (Rd.lit vaw #[.int .i64 n] 2 1 1 rfl) (one1 _ rfl) (by have := HLN.out; unfold maxLen; omega) (by have := HLN.out; omega) ?_
        intro vb vbw vbo b1 b2 b3 b14
        clear b14
        try simp only at b1
        have Hb1 := Lib.hid b1; have Hb2 := Lib.hid b2; have Hb3 := Lib.hid b3
        obtain ⟨vba, vbc, rfl, -, -⟩ := b1.isSlice
        clear b1 b2 b3
        have HGb := Lib.hid ((HGa.out.allocd (.cells #[.int .i64 n] 2)).modd Hb2.out (fun b hb => HOa.out b hb))
        have HOb := Lib.hid (ob_caseP Hb3.out (HGa.out.allocd (.cells #[.int .i64 n] 2)).size HOa.out)
        refine hK.out _ _ ?_ (fun hHeld => ?_)
        · trivial
        clear hK K
        try simp only [Act.put, List.setIfInBounds_toArray, List.set_cons_zero, List.set_cons_succ]
        refine wpAnyH_ready (rs := [11]) (by kernel_rfl) (by simp) ?_
        refine' AllReadyH.cons (o := ?o10) (by simp only [List.getElem?_toArray, List.getElem?_cons_succ, List.getElem?_cons_zero]; rfl) (fun K hK => ?s10) ?m10
        case m10 => exact AllReadyH.nil
        refine step_append_S rfl (.tmp 31) (.tmp 34) 30 rfl 2 iP _ 1 8 Tryz.underlying30 hiP hzP0 hzP1 hzP2 rfl (by decide) (.slice vba (k + 1) vbc) (k + 1) _ vbo (by rfl) Hb1.out (.slice (some ⟨b, k, none⟩) (l.length - k) (cap - k)) (by rfl) (l.length - k) _ (HRD2.out _ HGb.out) (fun u hu => HON2.out u hu) (by have := HLN.out; unfold maxLen; omega) (by have := HLN.out; omega) ?_
        intro vc vcw vco c1 c2 c3 c14
        clear c14
        try simp only at c1
        have Hc1 := Lib.hid c1; have Hc2 := Lib.hid c2; have Hc3 := Lib.hid c3
        obtain ⟨vca, vcc, rfl, -, -⟩ := c1.isSlice
        clear c1 c2 c3
        have HGc := Lib.hid (HGb.out.modd Hc2.out (fun b hb => HOb.out b hb))
        have HOc := Lib.hid (ob_caseP Hc3.out HGb.out.size HOb.out)
        refine hK.out _ _ ?_ (fun hHeld => ?_)
        · trivial
        clear hK K
        try simp only [Act.put, List.setIfInBounds_toArray, List.set_cons_zero, List.set_cons_succ]
        refine' wpAnyH_take (i := 12) (oi := ?o11) (v := _) (by simp only [List.getElem?_toArray, List.getElem?_cons_succ, List.getElem?_cons_zero]; rfl) (by kernel_rfl) (by kernel_rfl) (by kernel_rfl) (fun _ _ _ h => h) (Or.inl ⟨by rfl, ?y11⟩) (by assumption) ?r11
        case y11 =>
          intro wS hSw
          try dsimp only at hSw
          go_simp
          all_goals with_reducible rfl
        simp only [Act.put, List.setIfInBounds_toArray, List.set_cons_zero, List.set_cons_succ]
        refine wpAnyH_done (by kernel_rfl) ?_ _
        refine NoPanic.normal ?_
        go_wp2
        go_ret
        exact ⟨_, vco, rfl, HFIN.out _ _ _ Hc1.out, .inr HOc.out, HGc.out⟩
    · have HSP := Lib.hid (spotL_eq (k := k) HJ.out hk (fun y hy => by have := (List.getElem?_eq_some_iff.1 hy).1; omega))
      go_wp2_with fail
      rcases HO.out.2 with ⟨oa, hv, hl0, rfl, -⟩ | ⟨g, cap', cur, hv, rfl, hg, hnc, hcm', hcs, htk⟩
      · simp only [Value.slice.injEq] at hv
        obtain ⟨rfl, -, rfl⟩ := hv
        obtain rfl : l = [] := List.eq_nil_of_length_eq_zero hl0
        obtain rfl : k = 0 := by simpa using hk
        clear hl0
        rcases a with _ | ⟨b, o, s⟩
        · skip
          have HOS0 := Lib.hid (OwnS.lit w.drew #[] 2 1 0 (by unfold maxLen; omega) (by simp))
          have HOS6 := Lib.hid (show OwnS ((w.drew.alloc (.cells #[.int .i64 n] 2)).alloc (.cells #[] 2)) 2 1 (.slice (some ⟨w.heap.size + 1, 0, none⟩) 0 0) 0 [] (some (w.heap.size + 1)) by
            have h := OwnS.lit (w.drew.alloc (.cells #[.int .i64 n] 2)) #[] 2 1 0 (by unfold maxLen; omega) (by simp)
            have e : (w.drew.alloc (.cells #[.int .i64 n] 2)).heap.size = w.heap.size + 1 := by simp
            rw [e] at h
            exact h)
          have HRL6 := Lib.hid (show Rd ((w.drew.alloc (.cells #[] 2)).alloc (.cells #[.int .i64 n] 2)) 1 (.slice (some ⟨w.heap.size + 1, 0, none⟩) 1 1) 1 [.int .i64 n] by
            have h := Rd.lit (w.drew.alloc (.cells #[] 2)) #[.int .i64 n] 2 1 1 rfl
            have e : (w.drew.alloc (.cells #[] 2)).heap.size = w.heap.size + 1 := by simp
            rw [e] at h
            exact h)
          have HRL0 := Lib.hid (show Rd ((w.drew.alloc (.cells #[.int .i64 n] 2)).alloc (.cells #[] 2)) 1 (.slice (some ⟨w.heap.size, 0, none⟩) 1 1) 1 [.int .i64 n] from
            (Rd.lit w.drew #[.int .i64 n] 2 1 1 rfl).modd (Mod.of_grow (F := fun _ => False) ((Grow.rfl' _).allocd _)) (by simp) id)
          have HRD0 := Lib.hid (show ∀ w', Grow w w' → Rd w' 1 (.slice none 0 0) 0 [] from fun _ _ => rdNil)
          have HON1 := Lib.hid (oneIds []); have HON2 := Lib.hid (oneIds [])
          have HFIN := Lib.hid (show ∀ w' v' o', OwnS w' 2 1 v' 1 [Value.int .i64 n] o' → IdsO w' v' (putL [] n) o' from fun w' v' o' h => by
            rw [HP.out]
            unfold IdsO
            simpa using h)
          refine wp_region_noPanic ?_
          refine wp_region_held_drew (S := fun _ => True) (by kernel_rfl) ?_ (fun hHeld => ?_)
          · trivial
          refine' wpAnyH_take (i := 1) (oi := ?o25) (v := _) (by simp only [List.getElem?_toArray, List.getElem?_cons_succ, List.getElem?_cons_zero]; rfl) (by kernel_rfl) (by kernel_rfl) (by kernel_rfl) (fun _ _ _ h => h) (Or.inl ⟨by rfl, ?y25⟩) (by assumption) ?r25
          case y25 =>
            intro wS hSw
            try dsimp only at hSw
            go_simp
            all_goals with_reducible rfl
          simp only [Act.put, List.setIfInBounds_toArray, List.set_cons_zero, List.set_cons_succ]
          refine' wpAnyH_take (i := 2) (oi := ?o26) (v := _) (by simp only [List.getElem?_toArray, List.getElem?_cons_succ, List.getElem?_cons_zero]; rfl) (by kernel_rfl) (by kernel_rfl) (by kernel_rfl) (fun _ _ _ h => h) (Or.inl ⟨by rfl, ?y26⟩) (by assumption) ?r26
          case y26 =>
            intro wS hSw
            try dsimp only at hSw
            go_simp
            all_goals with_reducible rfl
          simp only [Act.put, List.setIfInBounds_toArray, List.set_cons_zero, List.set_cons_succ]
          refine' wpAnyH_take (i := 3) (oi := ?o27) (v := _) (by simp only [List.getElem?_toArray, List.getElem?_cons_succ, List.getElem?_cons_zero]; rfl) (by kernel_rfl) (by kernel_rfl) (by kernel_rfl) (fun _ _ _ h => h) (Or.inl ⟨by rfl, ?y27⟩) (by assumption) ?r27
          case y27 =>
            intro wS hSw
            try dsimp only at hSw
            go_simp
            all_goals with_reducible rfl
          simp only [Act.put, List.setIfInBounds_toArray, List.set_cons_zero, List.set_cons_succ]
          refine' wpAnyH_take (i := 5) (oi := ?o28) (v := _) (by simp only [List.getElem?_toArray, List.getElem?_cons_succ, List.getElem?_cons_zero]; rfl) (by kernel_rfl) (by kernel_rfl) (by kernel_rfl) (fun _ _ _ h => h) (Or.inl ⟨by rfl, ?y28⟩) (by assumption) ?r28
          case y28 =>
            intro wS hSw
            try dsimp only at hSw
            go_simp
            all_goals with_reducible rfl
          simp only [Act.put, List.setIfInBounds_toArray, List.set_cons_zero, List.set_cons_succ]
          refine' wpAnyH_take (i := 8) (oi := ?o29) (v := _) (by simp only [List.getElem?_toArray, List.getElem?_cons_succ, List.getElem?_cons_zero]; rfl) (by kernel_rfl) (by kernel_rfl) (by kernel_rfl) (fun _ _ _ h => h) (Or.inl ⟨by rfl, ?y29⟩) (by assumption) ?r29
          case y29 =>
            intro wS hSw
            try dsimp only at hSw
            go_simp
            all_goals with_reducible rfl
          simp only [Act.put, List.setIfInBounds_toArray, List.set_cons_zero, List.set_cons_succ]
          refine' wpAnyH_take (i := 9) (oi := ?o30) (v := _) (by simp only [List.getElem?_toArray, List.getElem?_cons_succ, List.getElem?_cons_zero]; rfl) (by kernel_rfl) (by kernel_rfl) (by kernel_rfl) (fun _ _ _ h => h) (Or.inl ⟨by rfl, ?y30⟩) (by assumption) ?r30
          case y30 =>
            intro wS hSw
            try dsimp only at hSw
            go_simp
            all_goals with_reducible rfl
          simp only [Act.put, List.setIfInBounds_toArray, List.set_cons_zero, List.set_cons_succ]
          refine' wpAnyH_take (i := 10) (oi := ?o31) (v := _) (by simp only [List.getElem?_toArray, List.getElem?_cons_succ, List.getElem?_cons_zero]; rfl) (by kernel_rfl) (by kernel_rfl) (by kernel_rfl) (fun _ _ _ h => h) (Or.inl ⟨by rfl, ?y31⟩) (by assumption) ?r31
          case y31 =>
            intro wS hSw
            try dsimp only at hSw
            go_simp
            all_goals with_reducible rfl
          simp only [Act.put, List.setIfInBounds_toArray, List.set_cons_zero, List.set_cons_succ]
          refine wpAnyH_ready (rs := [0, 6]) (by kernel_rfl) (by simp) ?_
          refine' AllReadyH.cons (o := ?o47) (by simp only [List.getElem?_toArray, List.getElem?_cons_zero]; rfl) (fun K hK => ?s47) ?m47
          rotate_left
          · refine' AllReadyH.cons (o := ?o48) (by simp only [List.getElem?_toArray, List.getElem?_cons_succ, List.getElem?_cons_zero]; rfl) (fun K hK => ?s48) ?m48
            case m48 => exact AllReadyH.nil
            go_simp
            refine hK.out _ _ ?_ (fun hHeld => ?_)
            · trivial
            clear hK K
            try simp only [Act.put, List.setIfInBounds_toArray, List.set_cons_zero, List.set_cons_succ]
            refine wpAnyH_ready (rs := [0]) (by kernel_rfl) (by simp) ?_
            refine' AllReadyH.cons (o := ?o42) (by simp only [List.getElem?_toArray, List.getElem?_cons_zero]; rfl) (fun K hK => ?s42) ?m42
            case m42 => exact AllReadyH.nil
            go_simp
            refine hK.out _ _ ?_ (fun hHeld => ?_)
            · trivial
            clear hK K
            try simp only [Act.put, List.setIfInBounds_toArray, List.set_cons_zero, List.set_cons_succ]
            refine wpAnyH_ready (rs := [4]) (by kernel_rfl) (by simp) ?_
            refine' AllReadyH.cons (o := ?o43) (by simp only [List.getElem?_toArray, List.getElem?_cons_succ, List.getElem?_cons_zero]; rfl) (fun K hK => ?s43) ?m43
            case m43 => exact AllReadyH.nil
            refine step_append_S rfl (.tmp 24) (.tmp 27) 30 rfl 2 iP _ 1 8 Tryz.underlying30 hiP hzP0 hzP1 hzP2 rfl (by decide) (.slice (some ⟨(w.heap.size + 1), 0, none⟩) 0 0) 0 [] (some (w.heap.size + 1)) (by rfl) HOS6.out (.slice none 0 0) (by rfl) 0 _ (HRD0.out _ ((((Grow.rfl' w).drewd).allocd (.cells #[.int .i64 n] 2)).allocd (.cells #[] 2))) (fun u hu => HON1.out u hu) (by have := HLN.out; unfold maxLen; omega) (by have := HLN.out; omega) ?_
            intro va vaw vao a1 a2 a3 a14
            clear a14
            try simp only [Nat.add_zero, List.append_nil] at a1
            have Ha1 := Lib.hid a1; have Ha2 := Lib.hid a2; have Ha3 := Lib.hid a3
            obtain ⟨vaa, vac, rfl, -, -⟩ := a1.isSlice
            clear a1 a2 a3
            have HGa := Lib.hid (((((Grow.rfl' w).drewd).allocd (.cells #[.int .i64 n] 2)).allocd (.cells #[] 2)).modd Ha2.out (fun b hb => by cases hb; first | exact Nat.le_refl _ | (simp; try omega)))
            have HOa := Lib.hid (ob_caseP Ha3.out ((((Grow.rfl' w).drewd).allocd (.cells #[.int .i64 n] 2)).allocd (.cells #[] 2)).size (fun q hq => by cases hq; first | exact Nat.le_refl _ | (simp; try omega)))
            refine hK.out _ _ ?_ (fun hHeld => ?_)
            · trivial
            clear hK K
            try simp only [Act.put, List.setIfInBounds_toArray, List.set_cons_zero, List.set_cons_succ]
            refine wpAnyH_ready (rs := [7]) (by kernel_rfl) (by simp) ?_
            refine' AllReadyH.cons (o := ?o44) (by simp only [List.getElem?_toArray, List.getElem?_cons_succ, List.getElem?_cons_zero]; rfl) (fun K hK => ?s44) ?m44
            case m44 => exact AllReadyH.nil
            refine step_append_S rfl (.tmp 28) (.tmp 30) 30 rfl 2 iP _ 1 8 Tryz.underlying30 hiP hzP0 hzP1 hzP2 rfl (by decide) (.slice vaa 0 vac) 0 _ vao (by rfl) Ha1.out (.slice (some ⟨w.heap.size, 0, none⟩) 1 1) (by rfl) 1 _ (HRL0.out.modd Ha2.out (by first | (simp; done) | (simp; omega)) (fun e => by simp at e)) (one1 _ rfl) (by have := HLN.out; unfold maxLen; omega) (by have := HLN.out; omega) ?_
            intro vb vbw vbo b1 b2 b3 b14
            clear b14
            try simp only [Nat.zero_add, List.nil_append] at b1
            have Hb1 := Lib.hid b1; have Hb2 := Lib.hid b2; have Hb3 := Lib.hid b3
            obtain ⟨vba, vbc, rfl, -, -⟩ := b1.isSlice
            clear b1 b2 b3
            have HGb := Lib.hid ((HGa.out).modd Hb2.out (fun b hb => HOa.out b hb))
            have HOb := Lib.hid (ob_caseP Hb3.out (HGa.out).size HOa.out)
            refine hK.out _ _ ?_ (fun hHeld => ?_)
            · trivial
            clear hK K
            try simp only [Act.put, List.setIfInBounds_toArray, List.set_cons_zero, List.set_cons_succ]
            refine wpAnyH_ready (rs := [11]) (by kernel_rfl) (by simp) ?_
            refine' AllReadyH.cons (o := ?o45) (by simp only [List.getElem?_toArray, List.getElem?_cons_succ, List.getElem?_cons_zero]; rfl) (fun K hK => ?s45) ?m45
            case m45 => exact AllReadyH.nil
            refine step_append_S rfl (.tmp 31) (.tmp 34) 30 rfl 2 iP _ 1 8 Tryz.underlying30 hiP hzP0 hzP1 hzP2 rfl (by decide) (.slice vba 1 vbc) 1 _ vbo (by rfl) Hb1.out (.slice none 0 0) (by rfl) 0 _ (HRD0.out _ HGb.out) (fun u hu => HON2.out u hu) (by have := HLN.out; unfold maxLen; omega) (by have := HLN.out; omega) ?_
            intro vc vcw vco c1 c2 c3 c14
            clear c14
            try simp only [Nat.add_zero, List.append_nil] at c1
            have Hc1 := Lib.hid c1; have Hc2 := Lib.hid c2; have Hc3 := Lib.hid c3
            obtain ⟨vca, vcc, rfl, -, -⟩ := c1.isSlice
            clear c1 c2 c3
            have HGc := Lib.hid (HGb.out.modd Hc2.out (fun b hb => HOb.out b hb))
            have HOc := Lib.hid (ob_caseP Hc3.out HGb.out.size HOb.out)
            refine hK.out _ _ ?_ (fun hHeld => ?_)
            · trivial
            clear hK K
            try simp only [Act.put, List.setIfInBounds_toArray, List.set_cons_zero, List.set_cons_succ]
            refine' wpAnyH_take (i := 12) (oi := ?o46) (v := _) (by simp only [List.getElem?_toArray, List.getElem?_cons_succ, List.getElem?_cons_zero]; rfl) (by kernel_rfl) (by kernel_rfl) (by kernel_rfl) (fun _ _ _ h => h) (Or.inl ⟨by rfl, ?y46⟩) (by assumption) ?r46
            case y46 =>
              intro wS hSw
              try dsimp only at hSw
              go_simp
              all_goals with_reducible rfl
            simp only [Act.put, List.setIfInBounds_toArray, List.set_cons_zero, List.set_cons_succ]
            refine wpAnyH_done (by kernel_rfl) ?_ _
            refine NoPanic.normal ?_
            go_wp2
            go_ret
            exact ⟨_, vco, rfl, HFIN.out _ _ _ Hc1.out, .inr HOc.out, HGc.out⟩
          go_simp
          refine hK.out _ _ ?_ (fun hHeld => ?_)
          · trivial
          clear hK K
          try simp only [Act.put, List.setIfInBounds_toArray, List.set_cons_zero, List.set_cons_succ]
          refine wpAnyH_ready (rs := [4, 6]) (by kernel_rfl) (by simp) ?_
          refine' AllReadyH.cons (o := ?o40) (by simp only [List.getElem?_toArray, List.getElem?_cons_succ, List.getElem?_cons_zero]; rfl) (fun K hK => ?s40) ?m40
          rotate_left
          · refine' AllReadyH.cons (o := ?o41) (by simp only [List.getElem?_toArray, List.getElem?_cons_succ, List.getElem?_cons_zero]; rfl) (fun K hK => ?s41) ?m41
            case m41 => exact AllReadyH.nil
            go_simp
            refine hK.out _ _ ?_ (fun hHeld => ?_)
            · trivial
            clear hK K
            try simp only [Act.put, List.setIfInBounds_toArray, List.set_cons_zero, List.set_cons_succ]
            refine wpAnyH_ready (rs := [4]) (by kernel_rfl) (by simp) ?_
            refine' AllReadyH.cons (o := ?o36) (by simp only [List.getElem?_toArray, List.getElem?_cons_succ, List.getElem?_cons_zero]; rfl) (fun K hK => ?s36) ?m36
            case m36 => exact AllReadyH.nil
            refine step_append_S rfl (.tmp 24) (.tmp 27) 30 rfl 2 iP _ 1 8 Tryz.underlying30 hiP hzP0 hzP1 hzP2 rfl (by decide) (.slice (some ⟨w.heap.size, 0, none⟩) 0 0) 0 [] (some w.heap.size) (by rfl) (HOS0.out.grow ((Grow.rfl' _).allocd _)) (.slice none 0 0) (by rfl) 0 _ (HRD0.out _ ((((Grow.rfl' w).drewd).allocd (.cells #[] 2)).allocd (.cells #[.int .i64 n] 2))) (fun u hu => HON1.out u hu) (by have := HLN.out; unfold maxLen; omega) (by have := HLN.out; omega) ?_
            intro va vaw vao a1 a2 a3 a14
            clear a14
            try simp only [Nat.add_zero, List.append_nil] at a1
            have Ha1 := Lib.hid a1; have Ha2 := Lib.hid a2; have Ha3 := Lib.hid a3
            obtain ⟨vaa, vac, rfl, -, -⟩ := a1.isSlice
            clear a1 a2 a3
            have HGa := Lib.hid (((((Grow.rfl' w).drewd).allocd (.cells #[] 2)).allocd (.cells #[.int .i64 n] 2)).modd Ha2.out (fun b hb => by cases hb; first | exact Nat.le_refl _ | (simp; try omega)))
            have HOa := Lib.hid (ob_caseP Ha3.out ((((Grow.rfl' w).drewd).allocd (.cells #[] 2)).allocd (.cells #[.int .i64 n] 2)).size (fun q hq => by cases hq; first | exact Nat.le_refl _ | (simp; try omega)))
            refine hK.out _ _ ?_ (fun hHeld => ?_)
            · trivial
            clear hK K
            try simp only [Act.put, List.setIfInBounds_toArray, List.set_cons_zero, List.set_cons_succ]
            refine wpAnyH_ready (rs := [7]) (by kernel_rfl) (by simp) ?_
            refine' AllReadyH.cons (o := ?o37) (by simp only [List.getElem?_toArray, List.getElem?_cons_succ, List.getElem?_cons_zero]; rfl) (fun K hK => ?s37) ?m37
            case m37 => exact AllReadyH.nil
            refine step_append_S rfl (.tmp 28) (.tmp 30) 30 rfl 2 iP _ 1 8 Tryz.underlying30 hiP hzP0 hzP1 hzP2 rfl (by decide) (.slice vaa 0 vac) 0 _ vao (by rfl) Ha1.out (.slice (some ⟨w.heap.size + 1, 0, none⟩) 1 1) (by rfl) 1 _ (HRL6.out.modd Ha2.out (by first | (simp; done) | (simp; omega)) (fun e => by simp at e)) (one1 _ rfl) (by have := HLN.out; unfold maxLen; omega) (by have := HLN.out; omega) ?_
            intro vb vbw vbo b1 b2 b3 b14
            clear b14
            try simp only [Nat.zero_add, List.nil_append] at b1
            have Hb1 := Lib.hid b1; have Hb2 := Lib.hid b2; have Hb3 := Lib.hid b3
            obtain ⟨vba, vbc, rfl, -, -⟩ := b1.isSlice
            clear b1 b2 b3
            have HGb := Lib.hid ((HGa.out).modd Hb2.out (fun b hb => HOa.out b hb))
            have HOb := Lib.hid (ob_caseP Hb3.out (HGa.out).size HOa.out)
            refine hK.out _ _ ?_ (fun hHeld => ?_)
            · trivial
            clear hK K
            try simp only [Act.put, List.setIfInBounds_toArray, List.set_cons_zero, List.set_cons_succ]
            refine wpAnyH_ready (rs := [11]) (by kernel_rfl) (by simp) ?_
            refine' AllReadyH.cons (o := ?o38) (by simp only [List.getElem?_toArray, List.getElem?_cons_succ, List.getElem?_cons_zero]; rfl) (fun K hK => ?s38) ?m38
            case m38 => exact AllReadyH.nil
            refine step_append_S rfl (.tmp 31) (.tmp 34) 30 rfl 2 iP _ 1 8 Tryz.underlying30 hiP hzP0 hzP1 hzP2 rfl (by decide) (.slice vba 1 vbc) 1 _ vbo (by rfl) Hb1.out (.slice none 0 0) (by rfl) 0 _ (HRD0.out _ HGb.out) (fun u hu => HON2.out u hu) (by have := HLN.out; unfold maxLen; omega) (by have := HLN.out; omega) ?_
            intro vc vcw vco c1 c2 c3 c14
            clear c14
            try simp only [Nat.add_zero, List.append_nil] at c1
            have Hc1 := Lib.hid c1; have Hc2 := Lib.hid c2; have Hc3 := Lib.hid c3
            obtain ⟨vca, vcc, rfl, -, -⟩ := c1.isSlice
            clear c1 c2 c3
            have HGc := Lib.hid (HGb.out.modd Hc2.out (fun b hb => HOb.out b hb))
            have HOc := Lib.hid (ob_caseP Hc3.out HGb.out.size HOb.out)
            refine hK.out _ _ ?_ (fun hHeld => ?_)
            · trivial
            clear hK K
            try simp only [Act.put, List.setIfInBounds_toArray, List.set_cons_zero, List.set_cons_succ]
            refine' wpAnyH_take (i := 12) (oi := ?o39) (v := _) (by simp only [List.getElem?_toArray, List.getElem?_cons_succ, List.getElem?_cons_zero]; rfl) (by kernel_rfl) (by kernel_rfl) (by kernel_rfl) (fun _ _ _ h => h) (Or.inl ⟨by rfl, ?y39⟩) (by assumption) ?r39
            case y39 =>
              intro wS hSw
              try dsimp only at hSw
              go_simp
              all_goals with_reducible rfl
            simp only [Act.put, List.setIfInBounds_toArray, List.set_cons_zero, List.set_cons_succ]
            refine wpAnyH_done (by kernel_rfl) ?_ _
            refine NoPanic.normal ?_
            go_wp2
            go_ret
            exact ⟨_, vco, rfl, HFIN.out _ _ _ Hc1.out, .inr HOc.out, HGc.out⟩
          refine step_append_S rfl (.tmp 24) (.tmp 27) 30 rfl 2 iP _ 1 8 Tryz.underlying30 hiP hzP0 hzP1 hzP2 rfl (by decide) (.slice (some ⟨w.heap.size, 0, none⟩) 0 0) 0 [] (some w.heap.size) (by rfl) HOS0.out (.slice none 0 0) (by rfl) 0 _ (HRD0.out _ (((Grow.rfl' w).drewd).allocd (.cells #[] 2))) (fun u hu => HON1.out u hu) (by have := HLN.out; unfold maxLen; omega) (by have := HLN.out; omega) ?_
          intro va vaw vao a1 a2 a3 a14
          clear a14
          try simp only [Nat.add_zero, List.append_nil] at a1
          have Ha1 := Lib.hid a1; have Ha2 := Lib.hid a2; have Ha3 := Lib.hid a3
          obtain ⟨vaa, vac, rfl, -, -⟩ := a1.isSlice
          clear a1 a2 a3
          have HGa := Lib.hid ((((Grow.rfl' w).drewd).allocd (.cells #[] 2)).modd Ha2.out (fun b hb => by cases hb; first | exact Nat.le_refl _ | (simp; try omega)))
          have HOa := Lib.hid (ob_caseP Ha3.out (((Grow.rfl' w).drewd).allocd (.cells #[] 2)).size (fun q hq => by cases hq; first | exact Nat.le_refl _ | (simp; try omega)))
          refine hK.out _ _ ?_ (fun hHeld => ?_)
          · trivial
          clear hK K
          try simp only [Act.put, List.setIfInBounds_toArray, List.set_cons_zero, List.set_cons_succ]
          refine wpAnyH_ready (rs := [6]) (by kernel_rfl) (by simp) ?_
          refine' AllReadyH.cons (o := ?o32) (by simp only [List.getElem?_toArray, List.getElem?_cons_succ, List.getElem?_cons_zero]; rfl) (fun K hK => ?s32) ?m32
          case m32 => exact AllReadyH.nil
          go_simp
          refine hK.out _ _ ?_ (fun hHeld => ?_)
          · trivial
          clear hK K
          try simp only [Act.put, List.setIfInBounds_toArray, List.set_cons_zero, List.set_cons_succ]
          refine wpAnyH_ready (rs := [7]) (by kernel_rfl) (by simp) ?_
          refine' AllReadyH.cons (o := ?o33) (by simp only [List.getElem?_toArray, List.getElem?_cons_succ, List.getElem?_cons_zero]; rfl) (fun K hK => ?s33) ?m33
          case m33 => exact AllReadyH.nil
          refine step_append_S rfl (.tmp 28) (.tmp 30) 30 rfl 2 iP _ 1 8 Tryz.underlying30 hiP hzP0 hzP1 hzP2 rfl (by decide) (.slice vaa 0 vac) 0 _ vao (by rfl) (Ha1.out.grow ((Grow.rfl' vaw).allocd _)) (.slice (some ⟨vaw.heap.size, 0, none⟩) 1 1) (by rfl) 1 _ (Rd.lit vaw #[.int .i64 n] 2 1 1 rfl) (one1 _ rfl) (by have := HLN.out; unfold maxLen; omega) (by have := HLN.out; omega) ?_
          intro vb vbw vbo b1 b2 b3 b14
          clear b14
          try simp only [Nat.zero_add, List.nil_append] at b1
          have Hb1 := Lib.hid b1; have Hb2 := Lib.hid b2; have Hb3 := Lib.hid b3
          obtain ⟨vba, vbc, rfl, -, -⟩ := b1.isSlice
          clear b1 b2 b3
          have HGb := Lib.hid ((HGa.out.allocd (.cells #[.int .i64 n] 2)).modd Hb2.out (fun b hb => HOa.out b hb))
          have HOb := Lib.hid (ob_caseP Hb3.out (HGa.out.allocd (.cells #[.int .i64 n] 2)).size HOa.out)
          refine hK.out _ _ ?_ (fun hHeld => ?_)
          · trivial
          clear hK K
          try simp only [Act.put, List.setIfInBounds_toArray, List.set_cons_zero, List.set_cons_succ]
          refine wpAnyH_ready (rs := [11]) (by kernel_rfl) (by simp) ?_
          refine' AllReadyH.cons (o := ?o34) (by simp only [List.getElem?_toArray, List.getElem?_cons_succ, List.getElem?_cons_zero]; rfl) (fun K hK => ?s34) ?m34
          case m34 => exact AllReadyH.nil
          refine step_append_S rfl (.tmp 31) (.tmp 34) 30 rfl 2 iP _ 1 8 Tryz.underlying30 hiP hzP0 hzP1 hzP2 rfl (by decide) (.slice vba 1 vbc) 1 _ vbo (by rfl) Hb1.out (.slice none 0 0) (by rfl) 0 _ (HRD0.out _ HGb.out) (fun u hu => HON2.out u hu) (by have := HLN.out; unfold maxLen; omega) (by have := HLN.out; omega) ?_
          intro vc vcw vco c1 c2 c3 c14
          clear c14
          try simp only [Nat.add_zero, List.append_nil] at c1
          have Hc1 := Lib.hid c1; have Hc2 := Lib.hid c2; have Hc3 := Lib.hid c3
          obtain ⟨vca, vcc, rfl, -, -⟩ := c1.isSlice
          clear c1 c2 c3
          have HGc := Lib.hid (HGb.out.modd Hc2.out (fun b hb => HOb.out b hb))
          have HOc := Lib.hid (ob_caseP Hc3.out HGb.out.size HOb.out)
          refine hK.out _ _ ?_ (fun hHeld => ?_)
          · trivial
          clear hK K
          try simp only [Act.put, List.setIfInBounds_toArray, List.set_cons_zero, List.set_cons_succ]
          refine' wpAnyH_take (i := 12) (oi := ?o35) (v := _) (by simp only [List.getElem?_toArray, List.getElem?_cons_succ, List.getElem?_cons_zero]; rfl) (by kernel_rfl) (by kernel_rfl) (by kernel_rfl) (fun _ _ _ h => h) (Or.inl ⟨by rfl, ?y35⟩) (by assumption) ?r35
          case y35 =>
            intro wS hSw
            try dsimp only at hSw
            go_simp
            all_goals with_reducible rfl
          simp only [Act.put, List.setIfInBounds_toArray, List.set_cons_zero, List.set_cons_succ]
          refine wpAnyH_done (by kernel_rfl) ?_ _
          refine NoPanic.normal ?_
          go_wp2
          go_ret
          exact ⟨_, vco, rfl, HFIN.out _ _ _ Hc1.out, .inr HOc.out, HGc.out⟩
        · skip
          have HOS0 := Lib.hid (OwnS.lit w.drew #[] 2 1 0 (by unfold maxLen; omega) (by simp))
          have HOS6 := Lib.hid (show OwnS ((w.drew.alloc (.cells #[.int .i64 n] 2)).alloc (.cells #[] 2)) 2 1 (.slice (some ⟨w.heap.size + 1, 0, none⟩) 0 0) 0 [] (some (w.heap.size + 1)) by
            have h := OwnS.lit (w.drew.alloc (.cells #[.int .i64 n] 2)) #[] 2 1 0 (by unfold maxLen; omega) (by simp)
            have e : (w.drew.alloc (.cells #[.int .i64 n] 2)).heap.size = w.heap.size + 1 := by simp
            rw [e] at h
            exact h)
          have HRL6 := Lib.hid (show Rd ((w.drew.alloc (.cells #[] 2)).alloc (.cells #[.int .i64 n] 2)) 1 (.slice (some ⟨w.heap.size + 1, 0, none⟩) 1 1) 1 [.int .i64 n] by
            have h := Rd.lit (w.drew.alloc (.cells #[] 2)) #[.int .i64 n] 2 1 1 rfl
            have e : (w.drew.alloc (.cells #[] 2)).heap.size = w.heap.size + 1 := by simp
            rw [e] at h
            exact h)
          have HRL0 := Lib.hid (show Rd ((w.drew.alloc (.cells #[.int .i64 n] 2)).alloc (.cells #[] 2)) 1 (.slice (some ⟨w.heap.size, 0, none⟩) 1 1) 1 [.int .i64 n] from
            (Rd.lit w.drew #[.int .i64 n] 2 1 1 rfl).modd (Mod.of_grow (F := fun _ => False) ((Grow.rfl' _).allocd _)) (by simp) id)
          have HRD0 := Lib.hid (show ∀ w', Grow w w' → Rd w' 1 (.slice (some ⟨b, o, s⟩) 0 0) 0 [] from fun _ _ => rdNil)
          have HON1 := Lib.hid (oneIds []); have HON2 := Lib.hid (oneIds [])
          have HFIN := Lib.hid (show ∀ w' v' o', OwnS w' 2 1 v' 1 [Value.int .i64 n] o' → IdsO w' v' (putL [] n) o' from fun w' v' o' h => by
            rw [HP.out]
            unfold IdsO
            simpa using h)
          refine wp_region_noPanic ?_
          refine wp_region_held_drew (S := fun _ => True) (by kernel_rfl) ?_ (fun hHeld => ?_)
          · trivial
          refine' wpAnyH_take (i := 1) (oi := ?o49) (v := _) (by simp only [List.getElem?_toArray, List.getElem?_cons_succ, List.getElem?_cons_zero]; rfl) (by kernel_rfl) (by kernel_rfl) (by kernel_rfl) (fun _ _ _ h => h) (Or.inl ⟨by rfl, ?y49⟩) (by assumption) ?r49
          case y49 =>
            intro wS hSw
            try dsimp only at hSw
            go_simp
            all_goals with_reducible rfl
          simp only [Act.put, List.setIfInBounds_toArray, List.set_cons_zero, List.set_cons_succ]
          refine' wpAnyH_take (i := 2) (oi := ?o50) (v := _) (by simp only [List.getElem?_toArray, List.getElem?_cons_succ, List.getElem?_cons_zero]; rfl) (by kernel_rfl) (by kernel_rfl) (by kernel_rfl) (fun _ _ _ h => h) (Or.inl ⟨by rfl, ?y50⟩) (by assumption) ?r50
          case y50 =>
            intro wS hSw
            try dsimp only at hSw
            go_simp
            all_goals with_reducible rfl
          simp only [Act.put, List.setIfInBounds_toArray, List.set_cons_zero, List.set_cons_succ]
          refine' wpAnyH_take (i := 3) (oi := ?o51) (v := _) (by simp only [List.getElem?_toArray, List.getElem?_cons_succ, List.getElem?_cons_zero]; rfl) (by kernel_rfl) (by kernel_rfl) (by kernel_rfl) (fun _ _ _ h => h) (Or.inl ⟨by rfl, ?y51⟩) (by assumption) ?r51
          case y51 =>
            intro wS hSw
            try dsimp only at hSw
            go_simp
            all_goals with_reducible rfl
          simp only [Act.put, List.setIfInBounds_toArray, List.set_cons_zero, List.set_cons_succ]
          refine' wpAnyH_take (i := 5) (oi := ?o52) (v := _) (by simp only [List.getElem?_toArray, List.getElem?_cons_succ, List.getElem?_cons_zero]; rfl) (by kernel_rfl) (by kernel_rfl) (by kernel_rfl) (fun _ _ _ h => h) (Or.inl ⟨by rfl, ?y52⟩) (by assumption) ?r52
          case y52 =>
            intro wS hSw
            try dsimp only at hSw
            go_simp
            all_goals with_reducible rfl
          simp only [Act.put, List.setIfInBounds_toArray, List.set_cons_zero, List.set_cons_succ]
          refine' wpAnyH_take (i := 8) (oi := ?o53) (v := _) (by simp only [List.getElem?_toArray, List.getElem?_cons_succ, List.getElem?_cons_zero]; rfl) (by kernel_rfl) (by kernel_rfl) (by kernel_rfl) (fun _ _ _ h => h) (Or.inl ⟨by rfl, ?y53⟩) (by assumption) ?r53
          case y53 =>
            intro wS hSw
            try dsimp only at hSw
            go_simp
            all_goals with_reducible rfl
          simp only [Act.put, List.setIfInBounds_toArray, List.set_cons_zero, List.set_cons_succ]
          refine' wpAnyH_take (i := 9) (oi := ?o54) (v := _) (by simp only [List.getElem?_toArray, List.getElem?_cons_succ, List.getElem?_cons_zero]; rfl) (by kernel_rfl) (by kernel_rfl) (by kernel_rfl) (fun _ _ _ h => h) (Or.inl ⟨by rfl, ?y54⟩) (by assumption) ?r54
          case y54 =>
            intro wS hSw
            try dsimp only at hSw
            go_simp
            all_goals with_reducible rfl
          simp only [Act.put, List.setIfInBounds_toArray, List.set_cons_zero, List.set_cons_succ]
          refine' wpAnyH_take (i := 10) (oi := ?o55) (v := _) (by simp only [List.getElem?_toArray, List.getElem?_cons_succ, List.getElem?_cons_zero]; rfl) (by kernel_rfl) (by kernel_rfl) (by kernel_rfl) (fun _ _ _ h => h) (Or.inl ⟨by rfl, ?y55⟩) (by assumption) ?r55
          case y55 =>
            intro wS hSw
            try dsimp only at hSw
            go_simp
            all_goals with_reducible rfl
          simp only [Act.put, List.setIfInBounds_toArray, List.set_cons_zero, List.set_cons_succ]
          refine wpAnyH_ready (rs := [0, 6]) (by kernel_rfl) (by simp) ?_
          refine' AllReadyH.cons (o := ?o71) (by simp only [List.getElem?_toArray, List.getElem?_cons_zero]; rfl) (fun K hK => ?s71) ?m71
          rotate_left
          · refine' AllReadyH.cons (o := ?o72) (by simp only [List.getElem?_toArray, List.getElem?_cons_succ, List.getElem?_cons_zero]; rfl) (fun K hK => ?s72) ?m72
            case m72 => exact AllReadyH.nil
            go_simp
            refine hK.out _ _ ?_ (fun hHeld => ?_)
            · trivial
            clear hK K
            try simp only [Act.put, List.setIfInBounds_toArray, List.set_cons_zero, List.set_cons_succ]
            refine wpAnyH_ready (rs := [0]) (by kernel_rfl) (by simp) ?_
            refine' AllReadyH.cons (o := ?o66) (by simp only [List.getElem?_toArray, List.getElem?_cons_zero]; rfl) (fun K hK => ?s66) ?m66
            case m66 => exact AllReadyH.nil
            go_simp
            refine hK.out _ _ ?_ (fun hHeld => ?_)
            · trivial
            clear hK K
            try simp only [Act.put, List.setIfInBounds_toArray, List.set_cons_zero, List.set_cons_succ]
            refine wpAnyH_ready (rs := [4]) (by kernel_rfl) (by simp) ?_
            refine' AllReadyH.cons (o := ?o67) (by simp only [List.getElem?_toArray, List.getElem?_cons_succ, List.getElem?_cons_zero]; rfl) (fun K hK => ?s67) ?m67
            case m67 => exact AllReadyH.nil
            refine step_append_S rfl (.tmp 24) (.tmp 27) 30 rfl 2 iP _ 1 8 Tryz.underlying30 hiP hzP0 hzP1 hzP2 rfl (by decide) (.slice (some ⟨(w.heap.size + 1), 0, none⟩) 0 0) 0 [] (some (w.heap.size + 1)) (by rfl) HOS6.out (.slice (some ⟨b, o, s⟩) 0 0) (by rfl) 0 _ (HRD0.out _ ((((Grow.rfl' w).drewd).allocd (.cells #[.int .i64 n] 2)).allocd (.cells #[] 2))) (fun u hu => HON1.out u hu) (by have := HLN.out; unfold maxLen; omega) (by have := HLN.out; omega) ?_
            intro va vaw vao a1 a2 a3 a14
            clear a14
            try simp only [Nat.add_zero, List.append_nil] at a1
            have Ha1 := Lib.hid a1; have Ha2 := Lib.hid a2; have Ha3 := Lib.hid a3
            obtain ⟨vaa, vac, rfl, -, -⟩ := a1.isSlice
            clear a1 a2 a3
            have HGa := Lib.hid (((((Grow.rfl' w).drewd).allocd (.cells #[.int .i64 n] 2)).allocd (.cells #[] 2)).modd Ha2.out (fun b hb => by cases hb; first | exact Nat.le_refl _ | (simp; try omega)))
            have HOa := Lib.hid (ob_caseP Ha3.out ((((Grow.rfl' w).drewd).allocd (.cells #[.int .i64 n] 2)).allocd (.cells #[] 2)).size (fun q hq => by cases hq; first | exact Nat.le_refl _ | (simp; try omega)))
            refine hK.out _ _ ?_ (fun hHeld => ?_)
            · trivial
            clear hK K
            try simp only [Act.put, List.setIfInBounds_toArray, List.set_cons_zero, List.set_cons_succ]
            refine wpAnyH_ready (rs := [7]) (by kernel_rfl) (by simp) ?_
            refine' AllReadyH.cons (o := ?o68) (by simp only [List.getElem?_toArray, List.getElem?_cons_succ, List.getElem?_cons_zero]; rfl) (fun K hK => ?s68) ?m68
            case m68 => exact AllReadyH.nil
            refine step_append_S rfl (.tmp 28) (.tmp 30) 30 rfl 2 iP _ 1 8 Tryz.underlying30 hiP hzP0 hzP1 hzP2 rfl (by decide) (.slice vaa 0 vac) 0 _ vao (by rfl) Ha1.out (.slice (some ⟨w.heap.size, 0, none⟩) 1 1) (by rfl) 1 _ (HRL0.out.modd Ha2.out (by first | (simp; done) | (simp; omega)) (fun e => by simp at e)) (one1 _ rfl) (by have := HLN.out; unfold maxLen; omega) (by have := HLN.out; omega) ?_
            intro vb vbw vbo b1 b2 b3 b14
            clear b14
            try simp only [Nat.zero_add, List.nil_append] at b1
            have Hb1 := Lib.hid b1; have Hb2 := Lib.hid b2; have Hb3 := Lib.hid b3
            obtain ⟨vba, vbc, rfl, -, -⟩ := b1.isSlice
            clear b1 b2 b3
            have HGb := Lib.hid ((HGa.out).modd Hb2.out (fun b hb => HOa.out b hb))
            have HOb := Lib.hid (ob_caseP Hb3.out (HGa.out).size HOa.out)
            refine hK.out _ _ ?_ (fun hHeld => ?_)
            · trivial
            clear hK K
            try simp only [Act.put, List.setIfInBounds_toArray, List.set_cons_zero, List.set_cons_succ]
            refine wpAnyH_ready (rs := [11]) (by kernel_rfl) (by simp) ?_
            refine' AllReadyH.cons (o := ?o69) (by simp only [List.getElem?_toArray, List.getElem?_cons_succ, List.getElem?_cons_zero]; rfl) (fun K hK => ?s69) ?m69
            case m69 => exact AllReadyH.nil
            refine step_append_S rfl (.tmp 31) (.tmp 34) 30 rfl 2 iP _ 1 8 Tryz.underlying30 hiP hzP0 hzP1 hzP2 rfl (by decide) (.slice vba 1 vbc) 1 _ vbo (by rfl) Hb1.out (.slice (some ⟨b, o, s⟩) 0 0) (by rfl) 0 _ (HRD0.out _ HGb.out) (fun u hu => HON2.out u hu) (by have := HLN.out; unfold maxLen; omega) (by have := HLN.out; omega) ?_
            intro vc vcw vco c1 c2 c3 c14
            clear c14
            try simp only [Nat.add_zero, List.append_nil] at c1
            have Hc1 := Lib.hid c1; have Hc2 := Lib.hid c2; have Hc3 := Lib.hid c3
            obtain ⟨vca, vcc, rfl, -, -⟩ := c1.isSlice
            clear c1 c2 c3
            have HGc := Lib.hid (HGb.out.modd Hc2.out (fun b hb => HOb.out b hb))
            have HOc := Lib.hid (ob_caseP Hc3.out HGb.out.size HOb.out)
            refine hK.out _ _ ?_ (fun hHeld => ?_)
            · trivial
            clear hK K
            try simp only [Act.put, List.setIfInBounds_toArray, List.set_cons_zero, List.set_cons_succ]
            refine' wpAnyH_take (i := 12) (oi := ?o70) (v := _) (by simp only [List.getElem?_toArray, List.getElem?_cons_succ, List.getElem?_cons_zero]; rfl) (by kernel_rfl) (by kernel_rfl) (by kernel_rfl) (fun _ _ _ h => h) (Or.inl ⟨by rfl, ?y70⟩) (by assumption) ?r70
            case y70 =>
              intro wS hSw
              try dsimp only at hSw
              go_simp
              all_goals with_reducible rfl
            simp only [Act.put, List.setIfInBounds_toArray, List.set_cons_zero, List.set_cons_succ]
            refine wpAnyH_done (by kernel_rfl) ?_ _
            refine NoPanic.normal ?_
            go_wp2
            go_ret
            exact ⟨_, vco, rfl, HFIN.out _ _ _ Hc1.out, .inr HOc.out, HGc.out⟩
          go_simp
          refine hK.out _ _ ?_ (fun hHeld => ?_)
          · trivial
          clear hK K
          try simp only [Act.put, List.setIfInBounds_toArray, List.set_cons_zero, List.set_cons_succ]
          refine wpAnyH_ready (rs := [4, 6]) (by kernel_rfl) (by simp) ?_
          refine' AllReadyH.cons (o := ?o64) (by simp only [List.getElem?_toArray, List.getElem?_cons_succ, List.getElem?_cons_zero]; rfl) (fun K hK => ?s64) ?m64
          rotate_left
          · refine' AllReadyH.cons (o := ?o65) (by simp only [List.getElem?_toArray, List.getElem?_cons_succ, List.getElem?_cons_zero]; rfl) (fun K hK => ?s65) ?m65
            case m65 => exact AllReadyH.nil
            go_simp
            refine hK.out _ _ ?_ (fun hHeld => ?_)
            · trivial
            clear hK K
            try simp only [Act.put, List.setIfInBounds_toArray, List.set_cons_zero, List.set_cons_succ]
            refine wpAnyH_ready (rs := [4]) (by kernel_rfl) (by simp) ?_
            refine' AllReadyH.cons (o := ?o60) (by simp only [List.getElem?_toArray, List.getElem?_cons_succ, List.getElem?_cons_zero]; rfl) (fun K hK => ?s60) ?m60
            case m60 => exact AllReadyH.nil
            refine step_append_S rfl (.tmp 24) (.tmp 27) 30 rfl 2 iP _ 1 8 Tryz.underlying30 hiP hzP0 hzP1 hzP2 rfl (by decide) (.slice (some ⟨w.heap.size, 0, none⟩) 0 0) 0 [] (some w.heap.size) (by rfl) (HOS0.out.grow ((Grow.rfl' _).allocd _)) (.slice (some ⟨b, o, s⟩) 0 0) (by rfl) 0 _ (HRD0.out _ ((((Grow.rfl' w).drewd).allocd (.cells #[] 2)).allocd (.cells #[.int .i64 n] 2))) (fun u hu => HON1.out u hu) (by have := HLN.out; unfold maxLen; omega) (by have := HLN.out; omega) ?_
            intro va vaw vao a1 a2 a3 a14
            clear a14
            try simp only [Nat.add_zero, List.append_nil] at a1
            have Ha1 := Lib.hid a1; have Ha2 := Lib.hid a2; have Ha3 := Lib.hid a3
            obtain ⟨vaa, vac, rfl, -, -⟩ := a1.isSlice
            clear a1 a2 a3
            have HGa := Lib.hid (((((Grow.rfl' w).drewd).allocd (.cells #[] 2)).allocd (.cells #[.int .i64 n] 2)).modd Ha2.out (fun b hb => by cases hb; first | exact Nat.le_refl _ | (simp; try omega)))
            have HOa := Lib.hid (ob_caseP Ha3.out ((((Grow.rfl' w).drewd).allocd (.cells #[] 2)).allocd (.cells #[.int .i64 n] 2)).size (fun q hq => by cases hq; first | exact Nat.le_refl _ | (simp; try omega)))
            refine hK.out _ _ ?_ (fun hHeld => ?_)
            · trivial
            clear hK K
            try simp only [Act.put, List.setIfInBounds_toArray, List.set_cons_zero, List.set_cons_succ]
            refine wpAnyH_ready (rs := [7]) (by kernel_rfl) (by simp) ?_
            refine' AllReadyH.cons (o := ?o61) (by simp only [List.getElem?_toArray, List.getElem?_cons_succ, List.getElem?_cons_zero]; rfl) (fun K hK => ?s61) ?m61
            case m61 => exact AllReadyH.nil
            refine step_append_S rfl (.tmp 28) (.tmp 30) 30 rfl 2 iP _ 1 8 Tryz.underlying30 hiP hzP0 hzP1 hzP2 rfl (by decide) (.slice vaa 0 vac) 0 _ vao (by rfl) Ha1.out (.slice (some ⟨w.heap.size + 1, 0, none⟩) 1 1) (by rfl) 1 _ (HRL6.out.modd Ha2.out (by first | (simp; done) | (simp; omega)) (fun e => by simp at e)) (one1 _ rfl) (by have := HLN.out; unfold maxLen; omega) (by have := HLN.out; omega) ?_
            intro vb vbw vbo b1 b2 b3 b14
            clear b14
            try simp only [Nat.zero_add, List.nil_append] at b1
            have Hb1 := Lib.hid b1; have Hb2 := Lib.hid b2; have Hb3 := Lib.hid b3
            obtain ⟨vba, vbc, rfl, -, -⟩ := b1.isSlice
            clear b1 b2 b3
            have HGb := Lib.hid ((HGa.out).modd Hb2.out (fun b hb => HOa.out b hb))
            have HOb := Lib.hid (ob_caseP Hb3.out (HGa.out).size HOa.out)
            refine hK.out _ _ ?_ (fun hHeld => ?_)
            · trivial
            clear hK K
            try simp only [Act.put, List.setIfInBounds_toArray, List.set_cons_zero, List.set_cons_succ]
            refine wpAnyH_ready (rs := [11]) (by kernel_rfl) (by simp) ?_
            refine' AllReadyH.cons (o := ?o62) (by simp only [List.getElem?_toArray, List.getElem?_cons_succ, List.getElem?_cons_zero]; rfl) (fun K hK => ?s62) ?m62
            case m62 => exact AllReadyH.nil
            refine step_append_S rfl (.tmp 31) (.tmp 34) 30 rfl 2 iP _ 1 8 Tryz.underlying30 hiP hzP0 hzP1 hzP2 rfl (by decide) (.slice vba 1 vbc) 1 _ vbo (by rfl) Hb1.out (.slice (some ⟨b, o, s⟩) 0 0) (by rfl) 0 _ (HRD0.out _ HGb.out) (fun u hu => HON2.out u hu) (by have := HLN.out; unfold maxLen; omega) (by have := HLN.out; omega) ?_
            intro vc vcw vco c1 c2 c3 c14
            clear c14
            try simp only [Nat.add_zero, List.append_nil] at c1
            have Hc1 := Lib.hid c1; have Hc2 := Lib.hid c2; have Hc3 := Lib.hid c3
            obtain ⟨vca, vcc, rfl, -, -⟩ := c1.isSlice
            clear c1 c2 c3
            have HGc := Lib.hid (HGb.out.modd Hc2.out (fun b hb => HOb.out b hb))
            have HOc := Lib.hid (ob_caseP Hc3.out HGb.out.size HOb.out)
            refine hK.out _ _ ?_ (fun hHeld => ?_)
            · trivial
            clear hK K
            try simp only [Act.put, List.setIfInBounds_toArray, List.set_cons_zero, List.set_cons_succ]
            refine' wpAnyH_take (i := 12) (oi := ?o63) (v := _) (by simp only [List.getElem?_toArray, List.getElem?_cons_succ, List.getElem?_cons_zero]; rfl) (by kernel_rfl) (by kernel_rfl) (by kernel_rfl) (fun _ _ _ h => h) (Or.inl ⟨by rfl, ?y63⟩) (by assumption) ?r63
            case y63 =>
              intro wS hSw
              try dsimp only at hSw
              go_simp
              all_goals with_reducible rfl
            simp only [Act.put, List.setIfInBounds_toArray, List.set_cons_zero, List.set_cons_succ]
            refine wpAnyH_done (by kernel_rfl) ?_ _
            refine NoPanic.normal ?_
            go_wp2
            go_ret
            exact ⟨_, vco, rfl, HFIN.out _ _ _ Hc1.out, .inr HOc.out, HGc.out⟩
          refine step_append_S rfl (.tmp 24) (.tmp 27) 30 rfl 2 iP _ 1 8 Tryz.underlying30 hiP hzP0 hzP1 hzP2 rfl (by decide) (.slice (some ⟨w.heap.size, 0, none⟩) 0 0) 0 [] (some w.heap.size) (by rfl) HOS0.out (.slice (some ⟨b, o, s⟩) 0 0) (by rfl) 0 _ (HRD0.out _ (((Grow.rfl' w).drewd).allocd (.cells #[] 2))) (fun u hu => HON1.out u hu) (by have := HLN.out; unfold maxLen; omega) (by have := HLN.out; omega) ?_
          intro va vaw vao a1 a2 a3 a14
          clear a14
          try simp only [Nat.add_zero, List.append_nil] at a1
          have Ha1 := Lib.hid a1; have Ha2 := Lib.hid a2; have Ha3 := Lib.hid a3
          obtain ⟨vaa, vac, rfl, -, -⟩ := a1.isSlice
          clear a1 a2 a3
          have HGa := Lib.hid ((((Grow.rfl' w).drewd).allocd (.cells #[] 2)).modd Ha2.out (fun b hb => by cases hb; first | exact Nat.le_refl _ | (simp; try omega)))
          have HOa := Lib.hid (ob_caseP Ha3.out (((Grow.rfl' w).drewd).allocd (.cells #[] 2)).size (fun q hq => by cases hq; first | exact Nat.le_refl _ | (simp; try omega)))
          refine hK.out _ _ ?_ (fun hHeld => ?_)
          · trivial
          clear hK K
          try simp only [Act.put, List.setIfInBounds_toArray, List.set_cons_zero, List.set_cons_succ]
          refine wpAnyH_ready (rs := [6]) (by kernel_rfl) (by simp) ?_
          refine' AllReadyH.cons (o := ?o56) (by simp only [List.getElem?_toArray, List.getElem?_cons_succ, List.getElem?_cons_zero]; rfl) (fun K hK => ?s56) ?m56
          case m56 => exact AllReadyH.nil
          go_simp
          refine hK.out _ _ ?_ (fun hHeld => ?_)
          · trivial
          clear hK K
          try simp only [Act.put, List.setIfInBounds_toArray, List.set_cons_zero, List.set_cons_succ]
          refine wpAnyH_ready (rs := [7]) (by kernel_rfl) (by simp) ?_
          refine' AllReadyH.cons (o := ?o57) (by simp only [List.getElem?_toArray, List.getElem?_cons_succ, List.getElem?_cons_zero]; rfl) (fun K hK => ?s57) ?m57
          case m57 => exact AllReadyH.nil
          refine step_append_S rfl (.tmp 28) (.tmp 30) 30 rfl 2 iP _ 1 8 Tryz.underlying30 hiP hzP0 hzP1 hzP2 rfl (by decide) (.slice vaa 0 vac) 0 _ vao (by rfl) (Ha1.out.grow ((Grow.rfl' vaw).allocd _)) (.slice (some ⟨vaw.heap.size, 0, none⟩) 1 1) (by rfl) 1 _ (Rd.lit vaw #[.int .i64 n] 2 1 1 rfl) (one1 _ rfl) (by have := HLN.out; unfold maxLen; omega) (by have := HLN.out; omega) ?_
          intro vb vbw vbo b1 b2 b3 b14
          clear b14
          try simp only [Nat.zero_add, List.nil_append] at b1
          have Hb1 := Lib.hid b1; have Hb2 := Lib.hid b2; have Hb3 := Lib.hid b3
          obtain ⟨vba, vbc, rfl, -, -⟩ := b1.isSlice
          clear b1 b2 b3
          have HGb := Lib.hid ((HGa.out.allocd (.cells #[.int .i64 n] 2)).modd Hb2.out (fun b hb => HOa.out b hb))
          have HOb := Lib.hid (ob_caseP Hb3.out (HGa.out.allocd (.cells #[.int .i64 n] 2)).size HOa.out)
          refine hK.out _ _ ?_ (fun hHeld => ?_)
          · trivial
          clear hK K
          try simp only [Act.put, List.setIfInBounds_toArray, List.set_cons_zero, List.set_cons_succ]
          refine wpAnyH_ready (rs := [11]) (by kernel_rfl) (by simp) ?_
          refine' AllReadyH.cons (o := ?o58) (by simp only [List.getElem?_toArray, List.getElem?_cons_succ, List.getElem?_cons_zero]; rfl) (fun K hK => ?s58) ?m58
          case m58 => exact AllReadyH.nil
          refine step_append_S rfl (.tmp 31) (.tmp 34) 30 rfl 2 iP _ 1 8 Tryz.underlying30 hiP hzP0 hzP1 hzP2 rfl (by decide) (.slice vba 1 vbc) 1 _ vbo (by rfl) Hb1.out (.slice (some ⟨b, o, s⟩) 0 0) (by rfl) 0 _ (HRD0.out _ HGb.out) (fun u hu => HON2.out u hu) (by have := HLN.out; unfold maxLen; omega) (by have := HLN.out; omega) ?_
          intro vc vcw vco c1 c2 c3 c14
          clear c14
          try simp only [Nat.add_zero, List.append_nil] at c1
          have Hc1 := Lib.hid c1; have Hc2 := Lib.hid c2; have Hc3 := Lib.hid c3
          obtain ⟨vca, vcc, rfl, -, -⟩ := c1.isSlice
          clear c1 c2 c3
          have HGc := Lib.hid (HGb.out.modd Hc2.out (fun b hb => HOb.out b hb))
          have HOc := Lib.hid (ob_caseP Hc3.out HGb.out.size HOb.out)
          refine hK.out _ _ ?_ (fun hHeld => ?_)
          · trivial
          clear hK K
          try simp only [Act.put, List.setIfInBounds_toArray, List.set_cons_zero, List.set_cons_succ]
          refine' wpAnyH_take (i := 12) (oi := ?o59) (v := _) (by simp only [List.getElem?_toArray, List.getElem?_cons_succ, List.getElem?_cons_zero]; rfl) (by kernel_rfl) (by kernel_rfl) (by kernel_rfl) (fun _ _ _ h => h) (Or.inl ⟨by rfl, ?y59⟩) (by assumption) ?r59
          case y59 =>
            intro wS hSw
            try dsimp only at hSw
            go_simp
            all_goals with_reducible rfl
          simp only [Act.put, List.setIfInBounds_toArray, List.set_cons_zero, List.set_cons_succ]
          refine wpAnyH_done (by kernel_rfl) ?_ _
          refine NoPanic.normal ?_
          go_wp2
          go_ret
          exact ⟨_, vco, rfl, HFIN.out _ _ _ Hc1.out, .inr HOc.out, HGc.out⟩
      · simp only [Value.slice.injEq, true_and] at hv
        obtain ⟨rfl, rfl⟩ := hv
        obtain ⟨b, rfl⟩ : ∃ b, b = g := ⟨_, rfl⟩
        have hkl3 : ¬ ((k : Int) < (l.length : Int)) := by omega
        by_cases hce : cap = k
        · have hnl : l.length = k := by omega
          subst hce
          have hq1 : (0 : Int) ≤ (cap : Int) := by omega
          have hq2 : (cap : Int) ≤ (l.length : Int) := by omega
          have hq3 : (l.length : Int) ≤ (cap : Int) := by omega
          have hq4 : ((cap : Int)).toNat = cap := by omega
          have hq5 : (cap : Int) ≤ (cap : Int) := by omega
          have HCU := Lib.hid (show ∀ (j : Nat) u, l[j]? = some u → cur[j]? = some (.int .i64 u) from fun j u hu => by
            have h : (cur.toList.take (l.length * 1))[j]? = some (Value.int .i64 u) := by rw [htk, List.getElem?_map, hu]; rfl
            rw [List.getElem?_take] at h
            split at h
            · simpa using h
            · cases h)
          have HRD1 := Lib.hid (show ∀ w', Grow w w' → Rd w' 1 (.slice (some ⟨b, 0, none⟩) cap cap) cap ((l.take cap).map (Value.int .i64 ·)) from fun w' gr => rdIds hg gr (fun j u hu => by
            rw [List.getElem?_take] at hu
            split at hu
            · rw [Nat.zero_add]; exact HCU.out j u hu
            · cases hu) (by rw [List.length_take]; omega))
          have HRD2 := Lib.hid (show ∀ w', Grow w w' → Rd w' 1 (.slice (some ⟨b, 0, none⟩) 0 0) 0 ((l.drop cap).map (Value.int .i64 ·)) from fun w' gr => by
            rw [List.drop_of_length_le (by omega)]
            exact rdNil)
          have HON1 := Lib.hid (oneIds (l.take cap)); have HON2 := Lib.hid (oneIds (l.drop cap))
          have HOS0 := Lib.hid (OwnS.lit w.drew #[] 2 1 0 (by unfold maxLen; omega) (by simp))
          have HOS6 := Lib.hid (show OwnS ((w.drew.alloc (.cells #[.int .i64 n] 2)).alloc (.cells #[] 2)) 2 1 (.slice (some ⟨w.heap.size + 1, 0, none⟩) 0 0) 0 [] (some (w.heap.size + 1)) by
            have h := OwnS.lit (w.drew.alloc (.cells #[.int .i64 n] 2)) #[] 2 1 0 (by unfold maxLen; omega) (by simp)
            have e : (w.drew.alloc (.cells #[.int .i64 n] 2)).heap.size = w.heap.size + 1 := by simp
            rw [e] at h
            exact h)
          have HRL6 := Lib.hid (show Rd ((w.drew.alloc (.cells #[] 2)).alloc (.cells #[.int .i64 n] 2)) 1 (.slice (some ⟨w.heap.size + 1, 0, none⟩) 1 1) 1 [.int .i64 n] by
            have h := Rd.lit (w.drew.alloc (.cells #[] 2)) #[.int .i64 n] 2 1 1 rfl
            have e : (w.drew.alloc (.cells #[] 2)).heap.size = w.heap.size + 1 := by simp
            rw [e] at h
            exact h)
          have HRL0 := Lib.hid (show Rd ((w.drew.alloc (.cells #[.int .i64 n] 2)).alloc (.cells #[] 2)) 1 (.slice (some ⟨w.heap.size, 0, none⟩) 1 1) 1 [.int .i64 n] from
            (Rd.lit w.drew #[.int .i64 n] 2 1 1 rfl).modd (Mod.of_grow (F := fun _ => False) ((Grow.rfl' _).allocd _)) (by simp) id)
          have HFIN := Lib.hid (show ∀ w' v' o', OwnS w' 2 1 v' (cap + 1) (((l.take cap).map (Value.int .i64 ·) ++ [Value.int .i64 n]) ++ (l.drop cap).map (Value.int .i64 ·)) o' → IdsO w' v' (putL l n) o' from fun w' v' o' h => by
            rw [HP.out, HSP.out]
            unfold IdsO
            rw [List.length_append, List.length_cons, List.length_take, List.length_drop, Nat.min_eq_left (by omega)]
            have e1 : cap + 1 = cap + (l.length - cap + 1) := by omega
            rw [e1] at h
            simpa using h)
          clear hg hcs htk HCU hcm' hnc
          refine wp_region_noPanic ?_
          refine wp_region_held_drew (S := fun _ => True) (by kernel_rfl) ?_ (fun hHeld => ?_)
          · trivial
          refine' wpAnyH_take (i := 1) (oi := ?o73) (v := _) (by simp only [List.getElem?_toArray, List.getElem?_cons_succ, List.getElem?_cons_zero]; rfl) (by kernel_rfl) (by kernel_rfl) (by kernel_rfl) (fun _ _ _ h => h) (Or.inl ⟨by rfl, ?y73⟩) (by assumption) ?r73
          case y73 =>
            intro wS hSw
            try dsimp only at hSw
            go_simp
            all_goals with_reducible rfl
          simp only [Act.put, List.setIfInBounds_toArray, List.set_cons_zero, List.set_cons_succ]
          refine' wpAnyH_take (i := 2) (oi := ?o74) (v := _) (by simp only [List.getElem?_toArray, List.getElem?_cons_succ, List.getElem?_cons_zero]; rfl) (by kernel_rfl) (by kernel_rfl) (by kernel_rfl) (fun _ _ _ h => h) (Or.inl ⟨by rfl, ?y74⟩) (by assumption) ?r74
          case y74 =>
            intro wS hSw
            try dsimp only at hSw
            go_simp
            all_goals with_reducible rfl
          simp only [Act.put, List.setIfInBounds_toArray, List.set_cons_zero, List.set_cons_succ]
          refine' wpAnyH_take (i := 3) (oi := ?o75) (v := _) (by simp only [List.getElem?_toArray, List.getElem?_cons_succ, List.getElem?_cons_zero]; rfl) (by kernel_rfl) (by kernel_rfl) (by kernel_rfl) (fun _ _ _ h => h) (Or.inl ⟨by rfl, ?y75⟩) (by assumption) ?r75
          case y75 =>
            intro wS hSw
            try dsimp only at hSw
            go_simp
            all_goals with_reducible rfl
          simp only [Act.put, List.setIfInBounds_toArray, List.set_cons_zero, List.set_cons_succ]
          refine' wpAnyH_take (i := 5) (oi := ?o76) (v := _) (by simp only [List.getElem?_toArray, List.getElem?_cons_succ, List.getElem?_cons_zero]; rfl) (by kernel_rfl) (by kernel_rfl) (by kernel_rfl) (fun _ _ _ h => h) (Or.inl ⟨by rfl, ?y76⟩) (by assumption) ?r76
          case y76 =>
            intro wS hSw
            try dsimp only at hSw
            go_simp
            all_goals with_reducible rfl
          simp only [Act.put, List.setIfInBounds_toArray, List.set_cons_zero, List.set_cons_succ]
          refine' wpAnyH_take (i := 8) (oi := ?o77) (v := _) (by simp only [List.getElem?_toArray, List.getElem?_cons_succ, List.getElem?_cons_zero]; rfl) (by kernel_rfl) (by kernel_rfl) (by kernel_rfl) (fun _ _ _ h => h) (Or.inl ⟨by rfl, ?y77⟩) (by assumption) ?r77
          case y77 =>
            intro wS hSw
            try dsimp only at hSw
            go_simp
            all_goals with_reducible rfl
          simp only [Act.put, List.setIfInBounds_toArray, List.set_cons_zero, List.set_cons_succ]
          refine' wpAnyH_take (i := 9) (oi := ?o78) (v := _) (by simp only [List.getElem?_toArray, List.getElem?_cons_succ, List.getElem?_cons_zero]; rfl) (by kernel_rfl) (by kernel_rfl) (by kernel_rfl) (fun _ _ _ h => h) (Or.inl ⟨by rfl, ?y78⟩) (by assumption) ?r78
          case y78 =>
            intro wS hSw
            try dsimp only at hSw
            go_simp
            all_goals with_reducible rfl
          simp only [Act.put, List.setIfInBounds_toArray, List.set_cons_zero, List.set_cons_succ]
          refine' wpAnyH_take (i := 10) (oi := ?o79) (v := _) (by simp only [List.getElem?_toArray, List.getElem?_cons_succ, List.getElem?_cons_zero]; rfl) (by kernel_rfl) (by kernel_rfl) (by kernel_rfl) (fun _ _ _ h => h) (Or.inl ⟨by rfl, ?y79⟩) (by assumption) ?r79
          case y79 =>
            intro wS hSw
            try dsimp only at hSw
            go_simp
            all_goals with_reducible rfl
          simp only [Act.put, List.setIfInBounds_toArray, List.set_cons_zero, List.set_cons_succ]
          refine wpAnyH_ready (rs := [0, 6]) (by kernel_rfl) (by simp) ?_
          refine' AllReadyH.cons (o := ?o95) (by simp only [List.getElem?_toArray, List.getElem?_cons_zero]; rfl) (fun K hK => ?s95) ?m95
          rotate_left
          · refine' AllReadyH.cons (o := ?o96) (by simp only [List.getElem?_toArray, List.getElem?_cons_succ, List.getElem?_cons_zero]; rfl) (fun K hK => ?s96) ?m96
            case m96 => exact AllReadyH.nil
            go_simp
            refine hK.out _ _ ?_ (fun hHeld => ?_)
            · trivial
            clear hK K
            try simp only [Act.put, List.setIfInBounds_toArray, List.set_cons_zero, List.set_cons_succ]
            refine wpAnyH_ready (rs := [0]) (by kernel_rfl) (by simp) ?_
            refine' AllReadyH.cons (o := ?o90) (by simp only [List.getElem?_toArray, List.getElem?_cons_zero]; rfl) (fun K hK => ?s90) ?m90
            case m90 => exact AllReadyH.nil
            go_simp
            refine hK.out _ _ ?_ (fun hHeld => ?_)
            · trivial
            clear hK K
            try simp only [Act.put, List.setIfInBounds_toArray, List.set_cons_zero, List.set_cons_succ]
            refine wpAnyH_ready (rs := [4]) (by kernel_rfl) (by simp) ?_
            refine' AllReadyH.cons (o := ?o91) (by simp only [List.getElem?_toArray, List.getElem?_cons_succ, List.getElem?_cons_zero]; rfl) (fun K hK => ?s91) ?m91
            case m91 => exact AllReadyH.nil
            refine step_append_S rfl (.tmp 24) (.tmp 27) 30 rfl 2 iP _ 1 8 Tryz.underlying30 hiP hzP0 hzP1 hzP2 rfl (by decide) (.slice (some ⟨(w.heap.size + 1), 0, none⟩) 0 0) 0 [] (some (w.heap.size + 1)) (by rfl) HOS6.out (.slice (some ⟨b, 0, none⟩) cap cap) (by rfl) cap _ (HRD1.out _ ((((Grow.rfl' w).drewd).allocd (.cells #[.int .i64 n] 2)).allocd (.cells #[] 2))) (fun u hu => HON1.out u hu) (by have := HLN.out; unfold maxLen; omega) (by have := HLN.out; omega) ?_
            intro va vaw vao a1 a2 a3 a14
            clear a14
            try simp only [Nat.zero_add, List.nil_append] at a1
            have Ha1 := Lib.hid a1; have Ha2 := Lib.hid a2; have Ha3 := Lib.hid a3
            obtain ⟨vaa, vac, rfl, -, -⟩ := a1.isSlice
            clear a1 a2 a3
            have HGa := Lib.hid (((((Grow.rfl' w).drewd).allocd (.cells #[.int .i64 n] 2)).allocd (.cells #[] 2)).modd Ha2.out (fun b hb => by cases hb; first | exact Nat.le_refl _ | (simp; try omega)))
            have HOa := Lib.hid (ob_caseP Ha3.out ((((Grow.rfl' w).drewd).allocd (.cells #[.int .i64 n] 2)).allocd (.cells #[] 2)).size (fun q hq => by cases hq; first | exact Nat.le_refl _ | (simp; try omega)))
            refine hK.out _ _ ?_ (fun hHeld => ?_)
            · trivial
            clear hK K
            try simp only [Act.put, List.setIfInBounds_toArray, List.set_cons_zero, List.set_cons_succ]
            refine wpAnyH_ready (rs := [7]) (by kernel_rfl) (by simp) ?_
            refine' AllReadyH.cons (o := ?o92) (by simp only [List.getElem?_toArray, List.getElem?_cons_succ, List.getElem?_cons_zero]; rfl) (fun K hK => ?s92) ?m92
            case m92 => exact AllReadyH.nil
            refine step_append_S rfl (.tmp 28) (.tmp 30) 30 rfl 2 iP _ 1 8 Tryz.underlying30 hiP hzP0 hzP1 hzP2 rfl (by decide) (.slice vaa cap vac) cap _ vao (by rfl) Ha1.out (.slice (some ⟨w.heap.size, 0, none⟩) 1 1) (by rfl) 1 _ (HRL0.out.modd Ha2.out (by first | (simp; done) | (simp; omega)) (fun e => by simp at e)) (one1 _ rfl) (by have := HLN.out; unfold maxLen; omega) (by have := HLN.out; omega) ?_
            intro vb vbw vbo b1 b2 b3 b14
            clear b14
            try simp only [Nat.zero_add, Nat.add_zero, List.nil_append, List.append_nil] at b1
            have Hb1 := Lib.hid b1; have Hb2 := Lib.hid b2; have Hb3 := Lib.hid b3
            obtain ⟨vba, vbc, rfl, -, -⟩ := b1.isSlice
            clear b1 b2 b3
            have HGb := Lib.hid ((HGa.out).modd Hb2.out (fun b hb => HOa.out b hb))
            have HOb := Lib.hid (ob_caseP Hb3.out (HGa.out).size HOa.out)
            refine hK.out _ _ ?_ (fun hHeld => ?_)
            · trivial
            clear hK K
            try simp only [Act.put, List.setIfInBounds_toArray, List.set_cons_zero, List.set_cons_succ]
            refine wpAnyH_ready (rs := [11]) (by kernel_rfl) (by simp) ?_
            refine' AllReadyH.cons (o := ?o93) (by simp only [List.getElem?_toArray, List.getElem?_cons_succ, List.getElem?_cons_zero]; rfl) (fun K hK => ?s93) ?m93
            case m93 => exact AllReadyH.nil
            refine step_append_S rfl (.tmp 31) (.tmp 34) 30 rfl 2 iP _ 1 8 Tryz.underlying30 hiP hzP0 hzP1 hzP2 rfl (by decide) (.slice vba (cap + 1) vbc) (cap + 1) _ vbo (by rfl) Hb1.out (.slice (some ⟨b, 0, none⟩) 0 0) (by rfl) 0 _ (HRD2.out _ HGb.out) (fun u hu => HON2.out u hu) (by have := HLN.out; unfold maxLen; omega) (by have := HLN.out; omega) ?_
            intro vc vcw vco c1 c2 c3 c14
            clear c14
            try simp only [Nat.add_zero] at c1
            have Hc1 := Lib.hid c1; have Hc2 := Lib.hid c2; have Hc3 := Lib.hid c3
            obtain ⟨vca, vcc, rfl, -, -⟩ := c1.isSlice
            clear c1 c2 c3
            have HGc := Lib.hid (HGb.out.modd Hc2.out (fun b hb => HOb.out b hb))
            have HOc := Lib.hid (ob_caseP Hc3.out HGb.out.size HOb.out)
            refine hK.out _ _ ?_ (fun hHeld => ?_)
            · trivial
            clear hK K
            try simp only [Act.put, List.setIfInBounds_toArray, List.set_cons_zero, List.set_cons_succ]
            refine' wpAnyH_take (i := 12) (oi := ?o94) (v := _) (by simp only [List.getElem?_toArray, List.getElem?_cons_succ, List.getElem?_cons_zero]; rfl) (by kernel_rfl) (by kernel_rfl) (by kernel_rfl) (fun _ _ _ h => h) (Or.inl ⟨by rfl, ?y94⟩) (by assumption) ?r94
            case y94 =>
              intro wS hSw
              try dsimp only at hSw
              go_simp
              all_goals with_reducible rfl
            simp only [Act.put, List.setIfInBounds_toArray, List.set_cons_zero, List.set_cons_succ]
            refine wpAnyH_done (by kernel_rfl) ?_ _
            refine NoPanic.normal ?_
            go_wp2
            go_ret
            exact ⟨_, vco, rfl, HFIN.out _ _ _ Hc1.out, .inr HOc.out, HGc.out⟩
          go_simp
          refine hK.out _ _ ?_ (fun hHeld => ?_)
          · trivial
          clear hK K
          try simp only [Act.put, List.setIfInBounds_toArray, List.set_cons_zero, List.set_cons_succ]
          refine wpAnyH_ready (rs := [4, 6]) (by kernel_rfl) (by simp) ?_
          refine' AllReadyH.cons (o := ?o88) (by simp only [List.getElem?_toArray, List.getElem?_cons_succ, List.getElem?_cons_zero]; rfl) (fun K hK => ?s88) ?m88
          rotate_left
          · refine' AllReadyH.cons (o := ?o89) (by simp only [List.getElem?_toArray, List.getElem?_cons_succ, List.getElem?_cons_zero]; rfl) (fun K hK => ?s89) ?m89
            case m89 => exact AllReadyH.nil
            go_simp
            refine hK.out _ _ ?_ (fun hHeld => ?_)
            · trivial
            clear hK K
            try simp only [Act.put, List.setIfInBounds_toArray, List.set_cons_zero, List.set_cons_succ]
            refine wpAnyH_ready (rs := [4]) (by kernel_rfl) (by simp) ?_
            refine' AllReadyH.cons (o := ?o84) (by simp only [List.getElem?_toArray, List.getElem?_cons_succ, List.getElem?_cons_zero]; rfl) (fun K hK => ?s84) ?m84
            case m84 => exact AllReadyH.nil
            refine step_append_S rfl (.tmp 24) (.tmp 27) 30 rfl 2 iP _ 1 8 Tryz.underlying30 hiP hzP0 hzP1 hzP2 rfl (by decide) (.slice (some ⟨w.heap.size, 0, none⟩) 0 0) 0 [] (some w.heap.size) (by rfl) (HOS0.out.grow ((Grow.rfl' _).allocd _)) (.slice (some ⟨b, 0, none⟩) cap cap) (by rfl) cap _ (HRD1.out _ ((((Grow.rfl' w).drewd).allocd (.cells #[] 2)).allocd (.cells #[.int .i64 n] 2))) (fun u hu => HON1.out u hu) (by have := HLN.out; unfold maxLen; omega) (by have := HLN.out; omega) ?_
            intro va vaw vao a1 a2 a3 a14
            clear a14
            try simp only [Nat.zero_add, List.nil_append] at a1
            have Ha1 := Lib.hid a1; have Ha2 := Lib.hid a2; have Ha3 := Lib.hid a3
            obtain ⟨vaa, vac, rfl, -, -⟩ := a1.isSlice
            clear a1 a2 a3
            have HGa := Lib.hid (((((Grow.rfl' w).drewd).allocd (.cells #[] 2)).allocd (.cells #[.int .i64 n] 2)).modd Ha2.out (fun b hb => by cases hb; first | exact Nat.le_refl _ | (simp; try omega)))
            have HOa := Lib.hid (ob_caseP Ha3.out ((((Grow.rfl' w).drewd).allocd (.cells #[] 2)).allocd (.cells #[.int .i64 n] 2)).size (fun q hq => by cases hq; first | exact Nat.le_refl _ | (simp; try omega)))
            refine hK.out _ _ ?_ (fun hHeld => ?_)
            · trivial
            clear hK K
            try simp only [Act.put, List.setIfInBounds_toArray, List.set_cons_zero, List.set_cons_succ]
            refine wpAnyH_ready (rs := [7]) (by kernel_rfl) (by simp) ?_
            refine' AllReadyH.cons (o := ?o85) (by simp only [List.getElem?_toArray, List.getElem?_cons_succ, List.getElem?_cons_zero]; rfl) (fun K hK => ?s85) ?m85
            case m85 => exact AllReadyH.nil
            refine step_append_S rfl (.tmp 28) (.tmp 30) 30 rfl 2 iP _ 1 8 Tryz.underlying30 hiP hzP0 hzP1 hzP2 rfl (by decide) (.slice vaa cap vac) cap _ vao (by rfl) Ha1.out (.slice (some ⟨w.heap.size + 1, 0, none⟩) 1 1) (by rfl) 1 _ (HRL6.out.modd Ha2.out (by first | (simp; done) | (simp; omega)) (fun e => by simp at e)) (one1 _ rfl) (by have := HLN.out; unfold maxLen; omega) (by have := HLN.out; omega) ?_
            intro vb vbw vbo b1 b2 b3 b14
            clear b14
            try simp only [Nat.zero_add, Nat.add_zero, List.nil_append, List.append_nil] at b1
            have Hb1 := Lib.hid b1; have Hb2 := Lib.hid b2; have Hb3 := Lib.hid b3
            obtain ⟨vba, vbc, rfl, -, -⟩ := b1.isSlice
            clear b1 b2 b3
            have HGb := Lib.hid ((HGa.out).modd Hb2.out (fun b hb => HOa.out b hb))
            have HOb := Lib.hid (ob_caseP Hb3.out (HGa.out).size HOa.out)
            refine hK.out _ _ ?_ (fun hHeld => ?_)
            · trivial
            clear hK K
            try simp only [Act.put, List.setIfInBounds_toArray, List.set_cons_zero, List.set_cons_succ]
            refine wpAnyH_ready (rs := [11]) (by kernel_rfl) (by simp) ?_
            refine' AllReadyH.cons (o := ?o86) (by simp only [List.getElem?_toArray, List.getElem?_cons_succ, List.getElem?_cons_zero]; rfl) (fun K hK => ?s86) ?m86
            case m86 => exact AllReadyH.nil
            refine step_append_S rfl (.tmp 31) (.tmp 34) 30 rfl 2 iP _ 1 8 Tryz.underlying30 hiP hzP0 hzP1 hzP2 rfl (by decide) (.slice vba (cap + 1) vbc) (cap + 1) _ vbo (by rfl) Hb1.out (.slice (some ⟨b, 0, none⟩) 0 0) (by rfl) 0 _ (HRD2.out _ HGb.out) (fun u hu => HON2.out u hu) (by have := HLN.out; unfold maxLen; omega) (by have := HLN.out; omega) ?_
            intro vc vcw vco c1 c2 c3 c14
            clear c14
            try simp only [Nat.add_zero] at c1
            have Hc1 := Lib.hid c1; have Hc2 := Lib.hid c2; have Hc3 := Lib.hid c3
            obtain ⟨vca, vcc, rfl, -, -⟩ := c1.isSlice
            clear c1 c2 c3
            have HGc := Lib.hid (HGb.out.modd Hc2.out (fun b hb => HOb.out b hb))
            have HOc := Lib.hid (ob_caseP Hc3.out HGb.out.size HOb.out)
            refine hK.out _ _ ?_ (fun hHeld => ?_)
            · trivial
            clear hK K
            try simp only [Act.put, List.setIfInBounds_toArray, List.set_cons_zero, List.set_cons_succ]
            refine' wpAnyH_take (i := 12) (oi := ?o87) (v := _) (by simp only [List.getElem?_toArray, List.getElem?_cons_succ, List.getElem?_cons_zero]; rfl) (by kernel_rfl) (by kernel_rfl) (by kernel_rfl) (fun _ _ _ h => h) (Or.inl ⟨by rfl, ?y87⟩) (by assumption) ?r87
            case y87 =>
              intro wS hSw
              try dsimp only at hSw
              go_simp
              all_goals with_reducible rfl
            simp only [Act.put, List.setIfInBounds_toArray, List.set_cons_zero, List.set_cons_succ]
            refine wpAnyH_done (by kernel_rfl) ?_ _
            refine NoPanic.normal ?_
            go_wp2
            go_ret
            exact ⟨_, vco, rfl, HFIN.out _ _ _ Hc1.out, .inr HOc.out, HGc.out⟩
          refine step_append_S rfl (.tmp 24) (.tmp 27) 30 rfl 2 iP _ 1 8 Tryz.underlying30 hiP hzP0 hzP1 hzP2 rfl (by decide) (.slice (some ⟨w.heap.size, 0, none⟩) 0 0) 0 [] (some w.heap.size) (by rfl) HOS0.out (.slice (some ⟨b, 0, none⟩) cap cap) (by rfl) cap _ (HRD1.out _ (((Grow.rfl' w).drewd).allocd (.cells #[] 2))) (fun u hu => HON1.out u hu) (by have := HLN.out; unfold maxLen; omega) (by have := HLN.out; omega) ?_
          intro va vaw vao a1 a2 a3 a14
          clear a14
          try simp only [Nat.zero_add, List.nil_append] at a1
          have Ha1 := Lib.hid a1; have Ha2 := Lib.hid a2; have Ha3 := Lib.hid a3
          obtain ⟨vaa, vac, rfl, -, -⟩ := a1.isSlice
          clear a1 a2 a3
          have HGa := Lib.hid ((((Grow.rfl' w).drewd).allocd (.cells #[] 2)).modd Ha2.out (fun b hb => by cases hb; first | exact Nat.le_refl _ | (simp; try omega)))
          have HOa := Lib.hid (ob_caseP Ha3.out (((Grow.rfl' w).drewd).allocd (.cells #[] 2)).size (fun q hq => by cases hq; first | exact Nat.le_refl _ | (simp; try omega)))
          refine hK.out _ _ ?_ (fun hHeld => ?_)
          · trivial
          clear hK K
          try simp only [Act.put, List.setIfInBounds_toArray, List.set_cons_zero, List.set_cons_succ]
          refine wpAnyH_ready (rs := [6]) (by kernel_rfl) (by simp) ?_
          refine' AllReadyH.cons (o := ?o80) (by simp only [List.getElem?_toArray, List.getElem?_cons_succ, List.getElem?_cons_zero]; rfl) (fun K hK => ?s80) ?m80
          case m80 => exact AllReadyH.nil
          go_simp
          refine hK.out _ _ ?_ (fun hHeld => ?_)
          · trivial
          clear hK K
          try simp only [Act.put, List.setIfInBounds_toArray, List.set_cons_zero, List.set_cons_succ]
          refine wpAnyH_ready (rs := [7]) (by kernel_rfl) (by simp) ?_
          refine' AllReadyH.cons (o := ?o81) (by simp only [List.getElem?_toArray, List.getElem?_cons_succ, List.getElem?_cons_zero]; rfl) (fun K hK => ?s81) ?m81
          case m81 => exact AllReadyH.nil
          refine step_append_S rfl (.tmp 28) (.tmp 30) 30 rfl 2 iP _ 1 8 Tryz.underlying30 hiP hzP0 hzP1 hzP2 rfl (by decide) (.slice vaa cap vac) cap _ vao (by rfl) (Ha1.out.grow ((Grow.rfl' vaw).allocd _)) (.slice (some ⟨vaw.heap.size, 0, none⟩) 1 1) (by rfl) 1 _ (Rd.lit vaw #[.int .i64 n] 2 1 1 rfl) (one1 _ rfl) (by have := HLN.out; unfold maxLen; omega) (by have := HLN.out; omega) ?_
          intro vb vbw vbo b1 b2 b3 b14
          clear b14
          try simp only at b1
          have Hb1 := Lib.hid b1; have Hb2 := Lib.hid b2; have Hb3 := Lib.hid b3
          obtain ⟨vba, vbc, rfl, -, -⟩ := b1.isSlice
          clear b1 b2 b3
          have HGb := Lib.hid ((HGa.out.allocd (.cells #[.int .i64 n] 2)).modd Hb2.out (fun b hb => HOa.out b hb))
          have HOb := Lib.hid (ob_caseP Hb3.out (HGa.out.allocd (.cells #[.int .i64 n] 2)).size HOa.out)
          refine hK.out _ _ ?_ (fun hHeld => ?_)
          · trivial
          clear hK K
          try simp only [Act.put, List.setIfInBounds_toArray, List.set_cons_zero, List.set_cons_succ]
          refine wpAnyH_ready (rs := [11]) (by kernel_rfl) (by simp) ?_
          refine' AllReadyH.cons (o := ?o82) (by simp only [List.getElem?_toArray, List.getElem?_cons_succ, List.getElem?_cons_zero]; rfl) (fun K hK => ?s82) ?m82
          case m82 => exact AllReadyH.nil
          refine step_append_S rfl (.tmp 31) (.tmp 34) 30 rfl 2 iP _ 1 8 Tryz.underlying30 hiP hzP0 hzP1 hzP2 rfl (by decide) (.slice vba (cap + 1) vbc) (cap + 1) _ vbo (by rfl) Hb1.out (.slice (some ⟨b, 0, none⟩) 0 0) (by rfl) 0 _ (HRD2.out _ HGb.out) (fun u hu => HON2.out u hu) (by have := HLN.out; unfold maxLen; omega) (by have := HLN.out; omega) ?_
          intro vc vcw vco c1 c2 c3 c14
          clear c14
          try simp only [Nat.add_zero] at c1
          have Hc1 := Lib.hid c1; have Hc2 := Lib.hid c2; have Hc3 := Lib.hid c3
          obtain ⟨vca, vcc, rfl, -, -⟩ := c1.isSlice
          clear c1 c2 c3
          have HGc := Lib.hid (HGb.out.modd Hc2.out (fun b hb => HOb.out b hb))
          have HOc := Lib.hid (ob_caseP Hc3.out HGb.out.size HOb.out)
          refine hK.out _ _ ?_ (fun hHeld => ?_)
          · trivial
          clear hK K
          try simp only [Act.put, List.setIfInBounds_toArray, List.set_cons_zero, List.set_cons_succ]
          refine' wpAnyH_take (i := 12) (oi := ?o83) (v := _) (by simp only [List.getElem?_toArray, List.getElem?_cons_succ, List.getElem?_cons_zero]; rfl) (by kernel_rfl) (by kernel_rfl) (by kernel_rfl) (fun _ _ _ h => h) (Or.inl ⟨by rfl, ?y83⟩) (by assumption) ?r83
          case y83 =>
            intro wS hSw
            try dsimp only at hSw
            go_simp
            all_goals with_reducible rfl
          simp only [Act.put, List.setIfInBounds_toArray, List.set_cons_zero, List.set_cons_succ]
          refine wpAnyH_done (by kernel_rfl) ?_ _
          refine NoPanic.normal ?_
          go_wp2
          go_ret
          exact ⟨_, vco, rfl, HFIN.out _ _ _ Hc1.out, .inr HOc.out, HGc.out⟩
        · skip
          have hq1 : (0 : Int) ≤ (k : Int) := by omega
          have hq2 : (k : Int) ≤ (l.length : Int) := by omega
          have hq3 : (l.length : Int) ≤ (cap : Int) := by omega
          have hq4 : ((k : Int)).toNat = k := by omega
          have hq5 : (k : Int) ≤ (cap : Int) := by omega
          have HCU := Lib.hid (show ∀ (j : Nat) u, l[j]? = some u → cur[j]? = some (.int .i64 u) from fun j u hu => by
            have h : (cur.toList.take (l.length * 1))[j]? = some (Value.int .i64 u) := by rw [htk, List.getElem?_map, hu]; rfl
            rw [List.getElem?_take] at h
            split at h
            · simpa using h
            · cases h)
          have HRD1 := Lib.hid (show ∀ w', Grow w w' → Rd w' 1 (.slice (some ⟨b, 0, none⟩) k cap) k ((l.take k).map (Value.int .i64 ·)) from fun w' gr => rdIds hg gr (fun j u hu => by
            rw [List.getElem?_take] at hu
            split at hu
            · rw [Nat.zero_add]; exact HCU.out j u hu
            · cases hu) (by rw [List.length_take]; omega))
          have HRD2 := Lib.hid (show ∀ w', Grow w w' → Rd w' 1 (.slice (some ⟨b, k, none⟩) (l.length - k) (cap - k)) (l.length - k) ((l.drop k).map (Value.int .i64 ·)) from fun w' gr => rdIds hg gr (fun j u hu => by
            rw [List.getElem?_drop] at hu
            exact HCU.out _ u hu) (by rw [List.length_drop]))
          have HON1 := Lib.hid (oneIds (l.take k)); have HON2 := Lib.hid (oneIds (l.drop k))
          have HOS0 := Lib.hid (OwnS.lit w.drew #[] 2 1 0 (by unfold maxLen; omega) (by simp))
          have HOS6 := Lib.hid (show OwnS ((w.drew.alloc (.cells #[.int .i64 n] 2)).alloc (.cells #[] 2)) 2 1 (.slice (some ⟨w.heap.size + 1, 0, none⟩) 0 0) 0 [] (some (w.heap.size + 1)) by
            have h := OwnS.lit (w.drew.alloc (.cells #[.int .i64 n] 2)) #[] 2 1 0 (by unfold maxLen; omega) (by simp)
            have e : (w.drew.alloc (.cells #[.int .i64 n] 2)).heap.size = w.heap.size + 1 := by simp
            rw [e] at h
            exact h)
          have HRL6 := Lib.hid (show Rd ((w.drew.alloc (.cells #[] 2)).alloc (.cells #[.int .i64 n] 2)) 1 (.slice (some ⟨w.heap.size + 1, 0, none⟩) 1 1) 1 [.int .i64 n] by
            have h := Rd.lit (w.drew.alloc (.cells #[] 2)) #[.int .i64 n] 2 1 1 rfl
            have e : (w.drew.alloc (.cells #[] 2)).heap.size = w.heap.size + 1 := by simp
            rw [e] at h
            exact h)
          have HRL0 := Lib.hid (show Rd ((w.drew.alloc (.cells #[.int .i64 n] 2)).alloc (.cells #[] 2)) 1 (.slice (some ⟨w.heap.size, 0, none⟩) 1 1) 1 [.int .i64 n] from
            (Rd.lit w.drew #[.int .i64 n] 2 1 1 rfl).modd (Mod.of_grow (F := fun _ => False) ((Grow.rfl' _).allocd _)) (by simp) id)
          have HFIN := Lib.hid (show ∀ w' v' o', OwnS w' 2 1 v' (k + 1 + (l.length - k)) (((l.take k).map (Value.int .i64 ·) ++ [Value.int .i64 n]) ++ (l.drop k).map (Value.int .i64 ·)) o' → IdsO w' v' (putL l n) o' from fun w' v' o' h => by
            rw [HP.out, HSP.out]
            unfold IdsO
            rw [List.length_append, List.length_cons, List.length_take, List.length_drop, Nat.min_eq_left (by omega)]
            have e1 : k + 1 + (l.length - k) = k + (l.length - k + 1) := by omega
            rw [e1] at h
            simpa using h)
          clear hg hcs htk HCU hcm' hnc
          refine wp_region_noPanic ?_
          refine wp_region_held_drew (S := fun _ => True) (by kernel_rfl) ?_ (fun hHeld => ?_)
          · trivial
          refine' wpAnyH_take (i := 1) (oi := ?o97) (v := _) (by simp only [List.getElem?_toArray, List.getElem?_cons_succ, List.getElem?_cons_zero]; rfl) (by kernel_rfl) (by kernel_rfl) (by kernel_rfl) (fun _ _ _ h => h) (Or.inl ⟨by rfl, ?y97⟩) (by assumption) ?r97
          case y97 =>
            intro wS hSw
            try dsimp only at hSw
            go_simp
            all_goals with_reducible rfl
          simp only [Act.put, List.setIfInBounds_toArray, List.set_cons_zero, List.set_cons_succ]
          refine' wpAnyH_take (i := 2) (oi := ?o98) (v := _) (by simp only [List.getElem?_toArray, List.getElem?_cons_succ, List.getElem?_cons_zero]; rfl) (by kernel_rfl) (by kernel_rfl) (by kernel_rfl) (fun _ _ _ h => h) (Or.inl ⟨by rfl, ?y98⟩) (by assumption) ?r98
          case y98 =>
            intro wS hSw
            try dsimp only at hSw
            go_simp
            all_goals with_reducible rfl
          simp only [Act.put, List.setIfInBounds_toArray, List.set_cons_zero, List.set_cons_succ]
          refine' wpAnyH_take (i := 3) (oi := ?o99) (v := _) (by simp only [List.getElem?_toArray, List.getElem?_cons_succ, List.getElem?_cons_zero]; rfl) (by kernel_rfl) (by kernel_rfl) (by kernel_rfl) (fun _ _ _ h => h) (Or.inl ⟨by rfl, ?y99⟩) (by assumption) ?r99
          case y99 =>
            intro wS hSw
            try dsimp only at hSw
            go_simp
            all_goals with_reducible rfl
          simp only [Act.put, List.setIfInBounds_toArray, List.set_cons_zero, List.set_cons_succ]
          refine' wpAnyH_take (i := 5) (oi := ?o100) (v := _) (by simp only [List.getElem?_toArray, List.getElem?_cons_succ, List.getElem?_cons_zero]; rfl) (by kernel_rfl) (by kernel_rfl) (by kernel_rfl) (fun _ _ _ h => h) (Or.inl ⟨by rfl, ?y100⟩) (by assumption) ?r100
          case y100 =>
            intro wS hSw
            try dsimp only at hSw
            go_simp
            all_goals with_reducible rfl
          simp only [Act.put, List.setIfInBounds_toArray, List.set_cons_zero, List.set_cons_succ]
          refine' wpAnyH_take (i := 8) (oi := ?o101) (v := _) (by simp only [List.getElem?_toArray, List.getElem?_cons_succ, List.getElem?_cons_zero]; rfl) (by kernel_rfl) (by kernel_rfl) (by kernel_rfl) (fun _ _ _ h => h) (Or.inl ⟨by rfl, ?y101⟩) (by assumption) ?r101
          case y101 =>
            intro wS hSw
            try dsimp only at hSw
            go_simp
            all_goals with_reducible rfl
          simp only [Act.put, List.setIfInBounds_toArray, List.set_cons_zero, List.set_cons_succ]
          refine' wpAnyH_take (i := 9) (oi := ?o102) (v := _) (by simp only [List.getElem?_toArray, List.getElem?_cons_succ, List.getElem?_cons_zero]; rfl) (by kernel_rfl) (by kernel_rfl) (by kernel_rfl) (fun _ _ _ h => h) (Or.inl ⟨by rfl, ?y102⟩) (by assumption) ?r102
          case y102 =>
            intro wS hSw
            try dsimp only at hSw
            go_simp
            all_goals with_reducible rfl
          simp only [Act.put, List.setIfInBounds_toArray, List.set_cons_zero, List.set_cons_succ]
          refine' wpAnyH_take (i := 10) (oi := ?o103) (v := _) (by simp only [List.getElem?_toArray, List.getElem?_cons_succ, List.getElem?_cons_zero]; rfl) (by kernel_rfl) (by kernel_rfl) (by kernel_rfl) (fun _ _ _ h => h) (Or.inl ⟨by rfl, ?y103⟩) (by assumption) ?r103
          case y103 =>
            intro wS hSw
            try dsimp only at hSw
            go_simp
            all_goals with_reducible rfl
          simp only [Act.put, List.setIfInBounds_toArray, List.set_cons_zero, List.set_cons_succ]
          refine wpAnyH_ready (rs := [0, 6]) (by kernel_rfl) (by simp) ?_
          refine' AllReadyH.cons (o := ?o119) (by simp only [List.getElem?_toArray, List.getElem?_cons_zero]; rfl) (fun K hK => ?s119) ?m119
          rotate_left
          · refine' AllReadyH.cons (o := ?o120) (by simp only [List.getElem?_toArray, List.getElem?_cons_succ, List.getElem?_cons_zero]; rfl) (fun K hK => ?s120) ?m120
            case m120 => exact AllReadyH.nil
            go_simp
            refine hK.out _ _ ?_ (fun hHeld => ?_)
            · trivial
            clear hK K
            try simp only [Act.put, List.setIfInBounds_toArray, List.set_cons_zero, List.set_cons_succ]
            refine wpAnyH_ready (rs := [0]) (by kernel_rfl) (by simp) ?_
            refine' AllReadyH.cons (o := ?o114) (by simp only [List.getElem?_toArray, List.getElem?_cons_zero]; rfl) (fun K hK => ?s114) ?m114
            case m114 => exact AllReadyH.nil
            go_simp
            refine hK.out _ _ ?_ (fun hHeld => ?_)
            · trivial
            clear hK K
            try simp only [Act.put, List.setIfInBounds_toArray, List.set_cons_zero, List.set_cons_succ]
            refine wpAnyH_ready (rs := [4]) (by kernel_rfl) (by simp) ?_
            refine' AllReadyH.cons (o := ?o115) (by simp only [List.getElem?_toArray, List.getElem?_cons_succ, List.getElem?_cons_zero]; rfl) (fun K hK => ?s115) ?m115
            case m115 => exact AllReadyH.nil
            refine step_append_S rfl (.tmp 24) (.tmp 27) 30 rfl 2 iP _ 1 8 Tryz.underlying30 hiP hzP0 hzP1 hzP2 rfl (by decide) (.slice (some ⟨(w.heap.size + 1), 0, none⟩) 0 0) 0 [] (some (w.heap.size + 1)) (by rfl) HOS6.out (.slice (some ⟨b, 0, none⟩) k cap) (by rfl) k _ (HRD1.out _ ((((Grow.rfl' w).drewd).allocd (.cells #[.int .i64 n] 2)).allocd (.cells #[] 2))) (fun u hu => HON1.out u hu) (by have := HLN.out; unfold maxLen; omega) (by have := HLN.out; omega) ?_
            intro va vaw vao a1 a2 a3 a14
            clear a14
            try simp only [Nat.zero_add, List.nil_append] at a1
            have Ha1 := Lib.hid a1; have Ha2 := Lib.hid a2; have Ha3 := Lib.hid a3
            obtain ⟨vaa, vac, rfl, -, -⟩ := a1.isSlice
            clear a1 a2 a3
            have HGa := Lib.hid (((((Grow.rfl' w).drewd).allocd (.cells #[.int .i64 n] 2)).allocd (.cells #[] 2)).modd Ha2.out (fun b hb => by cases hb; first | exact Nat.le_refl _ | (simp; try omega)))
            have HOa := Lib.hid (ob_caseP Ha3.out ((((Grow.rfl' w).drewd).allocd (.cells #[.int .i64 n] 2)).allocd (.cells #[] 2)).size (fun q hq => by cases hq; first | exact Nat.le_refl _ | (simp; try omega)))
            refine hK.out _ _ ?_ (fun hHeld => ?_)
            · trivial
            clear hK K
            try simp only [Act.put, List.setIfInBounds_toArray, List.set_cons_zero, List.set_cons_succ]
            refine wpAnyH_ready (rs := [7]) (by kernel_rfl) (by simp) ?_
            refine' AllReadyH.cons (o := ?o116) (by simp only [List.getElem?_toArray, List.getElem?_cons_succ, List.getElem?_cons_zero]; rfl) (fun K hK => ?s116) ?m116
            case m116 => exact AllReadyH.nil
            refine step_append_S rfl (.tmp 28) (.tmp 30) 30 rfl 2 iP _ 1 8 Tryz.underlying30 hiP hzP0 hzP1 hzP2 rfl (by decide) (.slice vaa k vac) k _ vao (by rfl) Ha1.out (.slice (some ⟨w.heap.size, 0, none⟩) 1 1) (by rfl) 1 _ (HRL0.out.modd Ha2.out (by first | (simp; done) | (simp; omega)) (fun e => by simp at e)) (one1 _ rfl) (by have := HLN.out; unfold maxLen; omega) (by have := HLN.out; omega) ?_
            intro vb vbw vbo b1 b2 b3 b14
            clear b14
            try simp only [Nat.zero_add, Nat.add_zero, List.nil_append, List.append_nil] at b1
            have Hb1 := Lib.hid b1; have Hb2 := Lib.hid b2; have Hb3 := Lib.hid b3
            obtain ⟨vba, vbc, rfl, -, -⟩ := b1.isSlice
            clear b1 b2 b3
            have HGb := Lib.hid ((HGa.out).modd Hb2.out (fun b hb => HOa.out b hb))
            have HOb := Lib.hid (ob_caseP Hb3.out (HGa.out).size HOa.out)
            refine hK.out _ _ ?_ (fun hHeld => ?_)
            · trivial
            clear hK K
            try simp only [Act.put, List.setIfInBounds_toArray, List.set_cons_zero, List.set_cons_succ]
            refine wpAnyH_ready (rs := [11]) (by kernel_rfl) (by simp) ?_
            refine' AllReadyH.cons (o := ?o117) (by simp only [List.getElem?_toArray, List.getElem?_cons_succ, List.getElem?_cons_zero]; rfl) (fun K hK => ?s117) ?m117
            case m117 => exact AllReadyH.nil
            refine step_append_S rfl (.tmp 31) (.tmp 34) 30 rfl 2 iP _ 1 8 Tryz.underlying30 hiP hzP0 hzP1 hzP2 rfl (by decide) (.slice vba (k + 1) vbc) (k + 1) _ vbo (by rfl) Hb1.out (.slice (some ⟨b, k, none⟩) (l.length - k) (cap - k)) (by rfl) (l.length - k) _ (HRD2.out _ HGb.out) (fun u hu => HON2.out u hu) (by have := HLN.out; unfold maxLen; omega) (by have := HLN.out; omega) ?_
            intro vc vcw vco c1 c2 c3 c14
            clear c14
            try simp only at c1
            have Hc1 := Lib.hid c1; have Hc2 := Lib.hid c2; have Hc3 := Lib.hid c3
            obtain ⟨vca, vcc, rfl, -, -⟩ := c1.isSlice
            clear c1 c2 c3
            have HGc := Lib.hid (HGb.out.modd Hc2.out (fun b hb => HOb.out b hb))
            have HOc := Lib.hid (ob_caseP Hc3.out HGb.out.size HOb.out)
            refine hK.out _ _ ?_ (fun hHeld => ?_)
            · trivial
            clear hK K
            try simp only [Act.put, List.setIfInBounds_toArray, List.set_cons_zero, List.set_cons_succ]
            refine' wpAnyH_take (i := 12) (oi := ?o118) (v := _) (by simp only [List.getElem?_toArray, List.getElem?_cons_succ, List.getElem?_cons_zero]; rfl) (by kernel_rfl) (by kernel_rfl) (by kernel_rfl) (fun _ _ _ h => h) (Or.inl ⟨by rfl, ?y118⟩) (by assumption) ?r118
            case y118 =>
              intro wS hSw
              try dsimp only at hSw
              go_simp
              all_goals with_reducible rfl
            simp only [Act.put, List.setIfInBounds_toArray, List.set_cons_zero, List.set_cons_succ]
            refine wpAnyH_done (by kernel_rfl) ?_ _
            refine NoPanic.normal ?_
            go_wp2
            go_ret
            exact ⟨_, vco, rfl, HFIN.out _ _ _ Hc1.out, .inr HOc.out, HGc.out⟩
          go_simp
          refine hK.out _ _ ?_ (fun hHeld => ?_)
          · trivial
          clear hK K
          try simp only [Act.put, List.setIfInBounds_toArray, List.set_cons_zero, List.set_cons_succ]
          refine wpAnyH_ready (rs := [4, 6]) (by kernel_rfl) (by simp) ?_
          refine' AllReadyH.cons (o := ?o112) (by simp only [List.getElem?_toArray, List.getElem?_cons_succ, List.getElem?_cons_zero]; rfl) (fun K hK => ?s112) ?m112
          rotate_left
          · refine' AllReadyH.cons (o := ?o113) (by simp only [List.getElem?_toArray, List.getElem?_cons_succ, List.getElem?_cons_zero]; rfl) (fun K hK => ?s113) ?m113
            case m113 => exact AllReadyH.nil
            go_simp
            refine hK.out _ _ ?_ (fun hHeld => ?_)
            · trivial
            clear hK K
            try simp only [Act.put, List.setIfInBounds_toArray, List.set_cons_zero, List.set_cons_succ]
            refine wpAnyH_ready (rs := [4]) (by kernel_rfl) (by simp) ?_
            refine' AllReadyH.cons (o := ?o108) (by simp only [List.getElem?_toArray, List.getElem?_cons_succ, List.getElem?_cons_zero]; rfl) (fun K hK => ?s108) ?m108
            case m108 => exact AllReadyH.nil
            refine step_append_S rfl (.tmp 24) (.tmp 27) 30 rfl 2 iP _ 1 8 Tryz.underlying30 hiP hzP0 hzP1 hzP2 rfl (by decide) (.slice (some ⟨w.heap.size, 0, none⟩) 0 0) 0 [] (some w.heap.size) (by rfl) (HOS0.out.grow ((Grow.rfl' _).allocd _)) (.slice (some ⟨b, 0, none⟩) k cap) (by rfl) k _ (HRD1.out _ ((((Grow.rfl' w).drewd).allocd (.cells #[] 2)).allocd (.cells #[.int .i64 n] 2))) (fun u hu => HON1.out u hu) (by have := HLN.out; unfold maxLen; omega) (by have := HLN.out; omega) ?_
            intro va vaw vao a1 a2 a3 a14
            clear a14
            try simp only [Nat.zero_add, List.nil_append] at a1
            have Ha1 := Lib.hid a1; have Ha2 := Lib.hid a2; have Ha3 := Lib.hid a3
            obtain ⟨vaa, vac, rfl, -, -⟩ := a1.isSlice
            clear a1 a2 a3
            have HGa := Lib.hid (((((Grow.rfl' w).drewd).allocd (.cells #[] 2)).allocd (.cells #[.int .i64 n] 2)).modd Ha2.out (fun b hb => by cases hb; first | exact Nat.le_refl _ | (simp; try omega)))
            have HOa := Lib.hid (ob_caseP Ha3.out ((((Grow.rfl' w).drewd).allocd (.cells #[] 2)).allocd (.cells #[.int .i64 n] 2)).size (fun q hq => by cases hq; first | exact Nat.le_refl _ | (simp; try omega)))
            refine hK.out _ _ ?_ (fun hHeld => ?_)
            · trivial
            clear hK K
            try simp only [Act.put, List.setIfInBounds_toArray, List.set_cons_zero, List.set_cons_succ]
            refine wpAnyH_ready (rs := [7]) (by kernel_rfl) (by simp) ?_
            refine' AllReadyH.cons (o := ?o109) (by simp only [List.getElem?_toArray, List.getElem?_cons_succ, List.getElem?_cons_zero]; rfl) (fun K hK => ?s109) ?m109
            case m109 => exact AllReadyH.nil
            refine step_append_S rfl (.tmp 28) (.tmp 30) 30 rfl 2 iP _ 1 8 Tryz.underlying30 hiP hzP0 hzP1 hzP2 rfl (by decide) (.slice vaa k vac) k _ vao (by rfl) Ha1.out (.slice (some ⟨w.heap.size + 1, 0, none⟩) 1 1) (by rfl) 1 _ (HRL6.out.modd Ha2.out (by first | (simp; done) | (simp; omega)) (fun e => by simp at e)) (one1 _ rfl) (by have := HLN.out; unfold maxLen; omega) (by have := HLN.out; omega) ?_
            intro vb vbw vbo b1 b2 b3 b14
            clear b14
            try simp only [Nat.zero_add, Nat.add_zero, List.nil_append, List.append_nil] at b1
            have Hb1 := Lib.hid b1; have Hb2 := Lib.hid b2; have Hb3 := Lib.hid b3
            obtain ⟨vba, vbc, rfl, -, -⟩ := b1.isSlice
            clear b1 b2 b3
            have HGb := Lib.hid ((HGa.out).modd Hb2.out (fun b hb => HOa.out b hb))
            have HOb := Lib.hid (ob_caseP Hb3.out (HGa.out).size HOa.out)
            refine hK.out _ _ ?_ (fun hHeld => ?_)
            · trivial
            clear hK K
            try simp only [Act.put, List.setIfInBounds_toArray, List.set_cons_zero, List.set_cons_succ]
            refine wpAnyH_ready (rs := [11]) (by kernel_rfl) (by simp) ?_
            refine' AllReadyH.cons (o := ?o110) (by simp only [List.getElem?_toArray, List.getElem?_cons_succ, List.getElem?_cons_zero]; rfl) (fun K hK => ?s110) ?m110
            case m110 => exact AllReadyH.nil
            refine step_append_S rfl (.tmp 31) (.tmp 34) 30 rfl 2 iP _ 1 8 Tryz.underlying30 hiP hzP0 hzP1 hzP2 rfl (by decide) (.slice vba (k + 1) vbc) (k + 1) _ vbo (by rfl) Hb1.out (.slice (some ⟨b, k, none⟩) (l.length - k) (cap - k)) (by rfl) (l.length - k) _ (HRD2.out _ HGb.out) (fun u hu => HON2.out u hu) (by have := HLN.out; unfold maxLen; omega) (by have := HLN.out; omega) ?_
            intro vc vcw vco c1 c2 c3 c14
            clear c14
            try simp only at c1
            have Hc1 := Lib.hid c1; have Hc2 := Lib.hid c2; have Hc3 := Lib.hid c3
            obtain ⟨vca, vcc, rfl, -, -⟩ := c1.isSlice
            clear c1 c2 c3
            have HGc := Lib.hid (HGb.out.modd Hc2.out (fun b hb => HOb.out b hb))
            have HOc := Lib.hid (ob_caseP Hc3.out HGb.out.size HOb.out)
            refine hK.out _ _ ?_ (fun hHeld => ?_)
            · trivial
            clear hK K
            try simp only [Act.put, List.setIfInBounds_toArray, List.set_cons_zero, List.set_cons_succ]
            refine' wpAnyH_take (i := 12) (oi := ?o111) (v := _) (by simp only [List.getElem?_toArray, List.getElem?_cons_succ, List.getElem?_cons_zero]; rfl) (by kernel_rfl) (by kernel_rfl) (by kernel_rfl) (fun _ _ _ h => h) (Or.inl ⟨by rfl, ?y111⟩) (by assumption) ?r111
            case y111 =>
              intro wS hSw
              try dsimp only at hSw
              go_simp
              all_goals with_reducible rfl
            simp only [Act.put, List.setIfInBounds_toArray, List.set_cons_zero, List.set_cons_succ]
            refine wpAnyH_done (by kernel_rfl) ?_ _
            refine NoPanic.normal ?_
            go_wp2
            go_ret
            exact ⟨_, vco, rfl, HFIN.out _ _ _ Hc1.out, .inr HOc.out, HGc.out⟩
          refine step_append_S rfl (.tmp 24) (.tmp 27) 30 rfl 2 iP _ 1 8 Tryz.underlying30 hiP hzP0 hzP1 hzP2 rfl (by decide) (.slice (some ⟨w.heap.size, 0, none⟩) 0 0) 0 [] (some w.heap.size) (by rfl) HOS0.out (.slice (some ⟨b, 0, none⟩) k cap) (by rfl) k _ (HRD1.out _ (((Grow.rfl' w).drewd).allocd (.cells #[] 2))) (fun u hu => HON1.out u hu) (by have := HLN.out; unfold maxLen; omega) (by have := HLN.out; omega) ?_
          intro va vaw vao a1 a2 a3 a14
          clear a14
          try simp only [Nat.zero_add, List.nil_append] at a1
          have Ha1 := Lib.hid a1; have Ha2 := Lib.hid a2; have Ha3 := Lib.hid a3
          obtain ⟨vaa, vac, rfl, -, -⟩ := a1.isSlice
          clear a1 a2 a3
          have HGa := Lib.hid ((((Grow.rfl' w).drewd).allocd (.cells #[] 2)).modd Ha2.out (fun b hb => by cases hb; first | exact Nat.le_refl _ | (simp; try omega)))
          have HOa := Lib.hid (ob_caseP Ha3.out (((Grow.rfl' w).drewd).allocd (.cells #[] 2)).size (fun q hq => by cases hq; first | exact Nat.le_refl _ | (simp; try omega)))
          refine hK.out _ _ ?_ (fun hHeld => ?_)
          · trivial
          clear hK K
          try simp only [Act.put, List.setIfInBounds_toArray, List.set_cons_zero, List.set_cons_succ]
          refine wpAnyH_ready (rs := [6]) (by kernel_rfl) (by simp) ?_
          refine' AllReadyH.cons (o := ?o104) (by simp only [List.getElem?_toArray, List.getElem?_cons_succ, List.getElem?_cons_zero]; rfl) (fun K hK => ?s104) ?m104
          case m104 => exact AllReadyH.nil
          go_simp
          refine hK.out _ _ ?_ (fun hHeld => ?_)
          · trivial
          clear hK K
          try simp only [Act.put, List.setIfInBounds_toArray, List.set_cons_zero, List.set_cons_succ]
          refine wpAnyH_ready (rs := [7]) (by kernel_rfl) (by simp) ?_
          refine' AllReadyH.cons (o := ?o105) (by simp only [List.getElem?_toArray, List.getElem?_cons_succ, List.getElem?_cons_zero]; rfl) (fun K hK => ?s105) ?m105
          case m105 => exact AllReadyH.nil
          refine step_append_S rfl (.tmp 28) (.tmp 30) 30 rfl 2 iP _ 1 8 Tryz.underlying30 hiP hzP0 hzP1 hzP2 rfl (by decide) (.slice vaa k vac) k _ vao (by rfl) (Ha1.out.grow ((Grow.rfl' vaw).allocd _)) (.slice (some ⟨vaw.heap.size, 0, none⟩) 1 1) (by rfl) 1 _ (Rd.lit vaw #[.int .i64 n] 2 1 1 rfl) (one1 _ rfl) (by have := HLN.out; unfold maxLen; omega) (by have := HLN.out; omega) ?_
          intro vb vbw vbo b1 b2 b3 b14
          clear b14
          try simp only at b1
          have Hb1 := Lib.hid b1; have Hb2 := Lib.hid b2; have Hb3 := Lib.hid b3
          obtain ⟨vba, vbc, rfl, -, -⟩ := b1.isSlice
          clear b1 b2 b3
          have HGb := Lib.hid ((HGa.out.allocd (.cells #[.int .i64 n] 2)).modd Hb2.out (fun b hb => HOa.out b hb))
          have HOb := Lib.hid (ob_caseP Hb3.out (HGa.out.allocd (.cells #[.int .i64 n] 2)).size HOa.out)
          refine hK.out _ _ ?_ (fun hHeld => ?_)
          · trivial
          clear hK K
          try simp only [Act.put, List.setIfInBounds_toArray, List.set_cons_zero, List.set_cons_succ]
          refine wpAnyH_ready (rs := [11]) (by kernel_rfl) (by simp) ?_
          refine' AllReadyH.cons (o := ?o106) (by simp only [List.getElem?_toArray, List.getElem?_cons_succ, List.getElem?_cons_zero]; rfl) (fun K hK => ?s106) ?m106
          case m106 => exact AllReadyH.nil
          refine step_append_S rfl (.tmp 31) (.tmp 34) 30 rfl 2 iP _ 1 8 Tryz.underlying30 hiP hzP0 hzP1 hzP2 rfl (by decide) (.slice vba (k + 1) vbc) (k + 1) _ vbo (by rfl) Hb1.out (.slice (some ⟨b, k, none⟩) (l.length - k) (cap - k)) (by rfl) (l.length - k) _ (HRD2.out _ HGb.out) (fun u hu => HON2.out u hu) (by have := HLN.out; unfold maxLen; omega) (by have := HLN.out; omega) ?_
          intro vc vcw vco c1 c2 c3 c14
          clear c14
          try simp only at c1
          have Hc1 := Lib.hid c1; have Hc2 := Lib.hid c2; have Hc3 := Lib.hid c3
          obtain ⟨vca, vcc, rfl, -, -⟩ := c1.isSlice
          clear c1 c2 c3
          have HGc := Lib.hid (HGb.out.modd Hc2.out (fun b hb => HOb.out b hb))
          have HOc := Lib.hid (ob_caseP Hc3.out HGb.out.size HOb.out)
          refine hK.out _ _ ?_ (fun hHeld => ?_)
          · trivial
          clear hK K
          try simp only [Act.put, List.setIfInBounds_toArray, List.set_cons_zero, List.set_cons_succ]
          refine' wpAnyH_take (i := 12) (oi := ?o107) (v := _) (by simp only [List.getElem?_toArray, List.getElem?_cons_succ, List.getElem?_cons_zero]; rfl) (by kernel_rfl) (by kernel_rfl) (by kernel_rfl) (fun _ _ _ h => h) (Or.inl ⟨by rfl, ?y107⟩) (by assumption) ?r107
          case y107 =>
            intro wS hSw
            try dsimp only at hSw
            go_simp
            all_goals with_reducible rfl
          simp only [Act.put, List.setIfInBounds_toArray, List.set_cons_zero, List.set_cons_succ]
          refine wpAnyH_done (by kernel_rfl) ?_ _
          refine NoPanic.normal ?_
          go_wp2
          go_ret
          exact ⟨_, vco, rfl, HFIN.out _ _ _ Hc1.out, .inr HOc.out, HGc.out⟩
end Go.Hg
