/- (*hedgerowref23.Job).Touch. Conditions: those that each theorem names. -/
import Derived.WalkKit
import Derived.WalkSpells
import Derived.WalkLawsBesides
import Derived.Lib.Hide
import Derived.BigQuiet
import Derived.Deep.LoopGhost
import Derived.Test.YtfachjfohhhgeaaGreatDoorRows
import Derived.Lib.SliceRun
import Derived.WideMake
import Derived.Deep.RegionLaw
import Derived.Lib.Overlaps
import Derived.Deep.RegionHeld3
import Derived.Laws.ResultCell
import Derived.Shelf.SortM.Plain
import Derived.Shelf.SortM.SortNone
import Derived.Shelf.SlicesE.DeleteFunc
import Derived.Maps.OwnOps
import Derived.Maps.OwnSet
import Derived.Carry
import Derived.Lib.SlKeysI
import Derived.Shelf.SlIterI.Nil
import Derived.Conc.LoneCalls
import Derived.Conc.SmallLaws
import Derived.Deep.CutBlock
import Derived.Deep.DeepCutAuto
import Derived.Laws.EntriesVeiled
import Derived.Maps.RangeWalk
import Derived.Lib.SlMapFilter
import Derived.Test.YtfachjfohhhgeaaGreatDoorBdL
import Derived.Test.YtfachjfohhhgeaaGreatDoorBdN
import Derived.Test.YtfachjfohhhgeaaGreatDoorBdO
import Derived.Test.YtfachjfohhhgeaaGreatDoorBdP
import Derived.Test.YtfachjfohhhgeaaGreatDoorBdR
import Derived.Test.YtfachjfohhhgeaaGreatDoorBdS
import Derived.Test.YtfachjfohhhgeaaGreatDoorBdT
import Derived.Test.YtfachjfohhhgeaaGreatDoorBdW
namespace Go.Hg
open Go.RowKit Go.Proofs

theorem rdB64 {W : World} {n : Int} {nb : Nat} (h : W.heap[nb]? = some (.cells #[.int .i64 n] 2 (0, 0))) : Rd W 1 (.slice (some ⟨nb, 0, none⟩) 1 1) 1 [Value.int .i64 n] := by
  refine ⟨rfl, _, _, rfl, .inr ⟨_, rfl, fun j u hu => ?_⟩⟩
  have hadd : (⟨nb, 0, none⟩ : Addr).add j = ⟨nb, j, none⟩ := by unfold Addr.add; split <;> simp_all
  rw [hadd, blk_cell h, ← Array.getElem?_toList]
  exact hu
theorem boxAt1b (W : World) (o1 o2 : Obj) : ((W.alloc o1).alloc o2).heap[W.heap.size + 1]? = some o2 := by
  have h := heap_alloc_new (W.alloc o1) o2
  rw [World.size_alloc] at h
  exact h
theorem boxAt0b (W : World) (o1 o2 : Obj) : ((W.alloc o1).alloc o2).heap[W.heap.size]? = some o1 := by
  rw [((Grow.rfl' (W.alloc o1)).allocd o2).heapEq (by simp)]
  exact heap_alloc_new W o1
theorem putZ_new {l : List Int} {n : Int} {k : Nat} (hp : l.Pairwise (· < ·)) (h0 : ∀ y ∈ l.take k, y < n) (hk : k = l.length ∨ ∃ h : k < l.length, n < l[k]) : putL l n = l.take k ++ [n] ++ l.drop k := by
  have hs : RSet (l.take k ++ [n] ++ l.drop k) (fun y => y ∈ l ∨ y = n) := by
    constructor
    · have h1 : (l.take k ++ l.drop k).Pairwise (· < ·) := by rw [List.take_append_drop]; exact hp
      rw [List.pairwise_append] at h1
      rw [List.append_assoc, List.pairwise_append]
      refine ⟨h1.1, ?_, ?_⟩
      · rw [List.singleton_append, List.pairwise_cons]
        refine ⟨fun y hy => ?_, h1.2.1⟩
        rcases hk with rfl | ⟨h, hlt⟩
        · rw [List.drop_length] at hy; cases hy
        · rw [List.drop_eq_getElem_cons h] at hy h1
          rcases List.mem_cons.1 hy with rfl | hy
          · exact hlt
          · have := (List.pairwise_cons.1 h1.2.1).1 y hy; omega
      · intro a ha b hb
        rcases List.mem_append.1 hb with hb | hb
        · rw [List.mem_singleton] at hb; subst hb; exact h0 a ha
        · exact h1.2.2 a ha b hb
    · intro y
      rw [List.mem_append, List.mem_append, List.mem_singleton]
      constructor
      · rintro ((h | h) | h)
        · exact .inl (List.mem_of_mem_take h)
        · exact .inr h
        · exact .inl (List.mem_of_mem_drop h)
      · rintro (h | h)
        · rw [← List.take_append_drop k l] at h
          rcases List.mem_append.1 h with h | h
          · exact .inl (.inl h)
          · exact .inr h
        · exact .inl (.inr h)
  have h2 : RSet (putL l n) (fun y => y ∈ l ∨ y = n) := ⟨putL_rises hp n, fun y => mem_putL l n y⟩
  exact h2.uniq hs fun _ => Iff.rfl
theorem putZ_not {l : List Int} {n : Int} {k : Nat} (h : putL l n = l.take k ++ [n] ++ l.drop k) : n ∉ l := by
  intro hm
  have e : putL l n = l := by unfold putL; rw [if_pos hm]
  rw [e] at h
  have h2 := congrArg List.length h
  simp only [List.length_append, List.length_take, List.length_cons, List.length_nil, List.length_drop] at h2
  omega

set_option maxRecDepth 100000 in
set_option maxHeartbeats 16000000 in
theorem ref23Touch (S SI : Nat → Prop) (B : Nat) (J : PJob) (v : Value) (l : List Int) (w : World) (h : RJobOk S w B J) (hi : JobInv J) (hl : IdsR SI w v l) (hsep : ∀ b, SI b → ¬ b = B) (h64 : ∀ x ∈ l, (Lit.int .i64 x).wf = true) :
    Calls Tryz.prog 27 #[.pointer (some ⟨B, 0, none⟩), v] w fun e w' => e = .returned (.tuple #[]) ∧ RJobOk (fun b => S b ∨ w.heap.size ≤ b) w' B (touchL J l) ∧ Mod (fun b => b = B) w w' := by
  obtain ⟨aa, ca, rfl, hal, hac, -⟩ := SlR.open hl
  unfold maxLen at hac
  have HBW := Lib.hid (show B < w.heap.size by obtain ⟨_, _, hb, -⟩ := h; exact blk_lt hb)
  have HJ0 := Lib.hid (show RJobOk (fun b => S b ∨ w.heap.size ≤ b) w B J by
    obtain ⟨lv, h1, h2, h3⟩ := h
    exact ⟨lv, .inl h1, h2, SlR.sub h3 (fun b hb => ⟨.inl hb.1, hb.2⟩) (fun _ _ _ h => h)⟩)
  have HL := Lib.hid hl; have HI := Lib.hid hi; have H64 := Lib.hid h64; have HSEP := Lib.hid hsep
  clear hl h hi h64 hsep
  go_enter Tryz.func27, Tryz.ntmps27
  go_wp2
  go_loopg [4] l.length (fun g iv wr => ∃ i : Nat, i ≤ l.length ∧ g = l.length - i ∧ iv = .int .i64 i ∧ RJobOk (fun b => S b ∨ w.heap.size ≤ b) wr B (touchL J (l.take i)) ∧ Mod (fun b => b = B) w wr)
  case atStart => exact ⟨0, by omega, by omega, rfl, HJ0.out, Mod.rfl' _ _⟩
  case round =>
    obtain ⟨i, hi, rfl, rfl, hj, hgr⟩ := hrel
    have HGR := Lib.hid hgr
    by_cases hil : i < l.length
    · obtain ⟨_, _, he, -, -, hA'⟩ := SlR.at1 (HL.out.modS hgr HSEP.out)
      cases he
      obtain ⟨bx, ox, rfl, hSa, hbx, hcx⟩ := hA' i l[i] (List.getElem?_eq_getElem hil)
      have HX := Lib.hid (show (Lit.int .i64 l[i]).wf = true from H64.out _ (List.getElem_mem hil))
      have HTL := Lib.hid (show touchL J (l.take (i + 1)) = touchJ (touchL J (l.take i)) l[i] by rw [List.take_succ_eq_append_getElem hil, touchL_snoc])
      have HIN := Lib.hid (touchL_inv HI.out (fun x hx => H64.out x (List.mem_of_mem_take hx)) : JobInv (touchL J (l.take i)))
      have HWS := Lib.hid hgr.size
      clear hSa hgr hA'
      generalize l[i] = x at *
      generalize touchL J (l.take i) = Jk at *
      have HJK := Lib.hid hj
      obtain ⟨lv, hS1, hB, hlv⟩ := hj
      obtain ⟨av, cv, rfl, hTc, hcm, hAT⟩ := hlv.at1
      unfold maxLen at hcm
      have HB := Lib.hid hB
      have HSR := Lib.hid (show ∀ w', Grow wr w' → w'.heap[B]? = wr.heap[B]? ∧ w'.cell? ⟨B, 9, none⟩ = some (.int .i64 Jk.pos) ∧ w'.cell? ⟨B, 10, none⟩ = some (.slice av Jk.tch.length cv) ∧ w'.cell? ⟨bx, ox + i, none⟩ = some (.int .i64 x) from fun w' g => by
        obtain ⟨-, -, c9, c10⟩ := rjobB_of hB
        exact ⟨g.heapEq (blk_lt hB), (g.cell (p := ⟨B, 9, none⟩) (blk_lt hB)).trans c9, (g.cell (p := ⟨B, 10, none⟩) (blk_lt hB)).trans c10, (g.cell (p := ⟨bx, ox + i, none⟩) hbx).trans hcx⟩)
      have HLV := Lib.hid hlv
      have HAT := Lib.hid hAT
      have hbr := blk_lt hB
      have HTLE := Lib.hid HIN.out.2.2.2.2.2.1
      have HSO := Lib.hid HIN.out.2.2.2.2.1
      have hTm : Jk.tch.length ≤ 4096 := HTLE.out
      have hi0 : (0 : Int) ≤ (i : Int) := by omega
      have hi1 : (i : Int) < (l.length : Int) := by omega
      clear hB hlv hAT hcx hS1
      have HD := Lib.hid (show Grow wr wr.drew from (Grow.rfl' wr).drewd)
      by_cases hp : Jk.pos ≤ x
      · have HTJ := Lib.hid (show touchJ Jk x = Jk by unfold touchJ; rw [if_pos (.inl hp)])
        go_wp2_with fail
        go_region_held3 (fun w' => w'.cell? ⟨B, 9, none⟩ = some (.int .i64 Jk.pos) ∧ w'.cell? ⟨bx, ox + i, none⟩ = some (.int .i64 x)) (exact ⟨(HSR.out _ HD.out).2.1, (HSR.out _ HD.out).2.2.2⟩) (fail)
        go_wp2
        go_roundg (l.length - (i + 1))
        case measure => omega
        case rel => exact ⟨i + 1, by omega, rfl, by go_num, by rw [HTL.out, HTJ.out]; exact HJK.out.grow HD.out, HGR.out.step (Mod.of_grow HD.out)⟩
      · have HNP := Lib.hid (show x < Jk.pos by omega)
        obtain ⟨T, hT⟩ : ∃ T, Jk.tch = T := ⟨_, rfl⟩
        have HTT := Lib.hid hT
        rw [hT] at HSR HLV HAT HTLE HSO hTm hTc HB
        clear hT
        go_wp2_with fail
        go_region_held3 (fun w' => w'.cell? ⟨B, 9, none⟩ = some (.int .i64 Jk.pos) ∧ w'.cell? ⟨bx, ox + i, none⟩ = some (.int .i64 x)) (exact ⟨(HSR.out _ HD.out).2.1, (HSR.out _ HD.out).2.2.2⟩) (fail)
        go_wp2_with fail
        obtain ⟨wo, hwo⟩ : ∃ wo, wo = wr := ⟨_, rfl⟩
        subst hwo
        go_loopg [5] T.length (fun g kv wi => ∃ k : Nat, k ≤ T.length ∧ g = T.length - k ∧ kv = .int .i64 k ∧ (∀ y ∈ T.take k, y < x) ∧ Grow wo wi)
        case atStart => exact ⟨0, by omega, by omega, rfl, by simp, HD.out⟩
        case round =>
          obtain ⟨k, hk, rfl, rfl, hall, hgi⟩ := hrel
          obtain ⟨wi, hwi⟩ : ∃ wi, wi = wr := ⟨_, rfl⟩
          subst hwi
          have HALL := Lib.hid hall; have HGI := Lib.hid hgi
          clear hall
          have hk0 : (0 : Int) ≤ (k : Int) := by omega
          by_cases hkl : k < T.length
          · obtain ⟨bo, oo, rfl, -, hbo, hcell⟩ := HAT.out k T[k] (List.getElem?_eq_getElem hkl)
            have HSC := Lib.hid (show ∀ w', Grow wi w' → (w'.cell? ⟨B, 10, none⟩ = some (.slice (some ⟨bo, oo, none⟩) T.length cv) ∧ w'.cell? ⟨bx, ox + i, none⟩ = some (.int .i64 x) ∧ w'.cell? ⟨bo, oo + k, none⟩ = some (.int .i64 T[k])) from fun w' g => ⟨(HSR.out w' (HGI.out.step g)).2.2.1, (HSR.out w' (HGI.out.step g)).2.2.2, ((HGI.out.step g).cell (p := ⟨bo, oo + k, none⟩) hbo).trans hcell⟩)
            have HTK1 := Lib.hid (show T.take (k + 1) = T.take k ++ [T[k]] from List.take_succ_eq_append_getElem hkl)
            have HPN := Lib.hid (show x < T[k] → putL T x = T.take k ++ [x] ++ T.drop k from fun h => putZ_new HSO.out HALL.out (.inr ⟨hkl, h⟩))
            have HPH := Lib.hid (show T[k] = x → x ∈ T from fun h => h ▸ List.getElem_mem hkl)
            have hk1 : (k : Int) < (T.length : Int) := by omega
            clear hcell
            generalize T[k] = y at *
            have HDI := Lib.hid (show Grow wi wi.drew from (Grow.rfl' wi).drewd)
            by_cases hlt : y < x
            · have hb1 : decide (y < x) = true := by simpa using hlt
              have HLT2 := Lib.hid hlt
              clear hlt
              go_wp2_with fail
              go_region_held3 (fun w' => w'.cell? ⟨B, 10, none⟩ = some (.slice (some ⟨bo, oo, none⟩) T.length cv) ∧ w'.cell? ⟨bx, ox + i, none⟩ = some (.int .i64 x) ∧ w'.cell? ⟨bo, oo + k, none⟩ = some (.int .i64 y)) (exact HSC.out _ HDI.out) (fail)
              go_wp2
              go_roundg (T.length - (k + 1))
              case measure => omega
              case rel => exact ⟨k + 1, by omega, rfl, by go_num, by rw [HTK1.out]; intro y hy; rcases List.mem_append.1 hy with h | h; exact HALL.out y h; simp at h; subst h; exact HLT2.out, HGI.out.step HDI.out⟩
            · have hb1 : decide (y < x) = false := by simpa using hlt
              have HD2 := Lib.hid (show Grow wi wi.drew.drew from ((Grow.rfl' wi).drewd).drewd)
              by_cases heq : y = x
              · have hb2 : (y == x) = true := by simpa using heq
                have HTJ := Lib.hid (show touchJ Jk x = Jk by unfold touchJ; rw [if_pos (.inr (by rw [HTT.out]; exact HPH.out heq))])
                clear hlt heq
                go_wp2_with fail
                go_region_held3 (fun w' => w'.cell? ⟨B, 10, none⟩ = some (.slice (some ⟨bo, oo, none⟩) T.length cv) ∧ w'.cell? ⟨bx, ox + i, none⟩ = some (.int .i64 x) ∧ w'.cell? ⟨bo, oo + k, none⟩ = some (.int .i64 y)) (exact HSC.out _ HDI.out) (fail)
                go_wp2_with fail
                go_region_held3 (fun w' => w'.cell? ⟨B, 10, none⟩ = some (.slice (some ⟨bo, oo, none⟩) T.length cv) ∧ w'.cell? ⟨bx, ox + i, none⟩ = some (.int .i64 x) ∧ w'.cell? ⟨bo, oo + k, none⟩ = some (.int .i64 y)) (exact HSC.out _ HD2.out) (fail)
                go_wp2
                go_roundg (l.length - (i + 1))
                case measure => omega
                case rel => exact ⟨i + 1, by omega, rfl, by go_num, by rw [HTL.out, HTJ.out]; exact HJK.out.grow (HGI.out.step HD2.out), HGR.out.step (Mod.of_grow (HGI.out.step HD2.out))⟩
              · have hb2 : (y == x) = false := by simpa using heq
                have HPUT := Lib.hid (HPN.out (by omega))
                have HNE := Lib.hid (show ¬(Jk.pos ≤ x ∨ x ∈ Jk.tch) from fun h => h.elim (fun h => by have := HNP.out; omega) (fun hm => putZ_not HPUT.out (HTT.out ▸ hm)))
                clear hlt heq
                go_wp2_with fail
                go_region_held3 (fun w' => w'.cell? ⟨B, 10, none⟩ = some (.slice (some ⟨bo, oo, none⟩) T.length cv) ∧ w'.cell? ⟨bx, ox + i, none⟩ = some (.int .i64 x) ∧ w'.cell? ⟨bo, oo + k, none⟩ = some (.int .i64 y)) (exact HSC.out _ HDI.out) (fail)
                go_wp2_with fail
                go_region_held3 (fun w' => w'.cell? ⟨B, 10, none⟩ = some (.slice (some ⟨bo, oo, none⟩) T.length cv) ∧ w'.cell? ⟨bx, ox + i, none⟩ = some (.int .i64 x) ∧ w'.cell? ⟨bo, oo + k, none⟩ = some (.int .i64 y)) (exact HSC.out _ HD2.out) (fail)
                have HGI := Lib.hid (HGI.out.step HD2.out)
                generalize wi.drew.drew = wj at *
                have HLI := Lib.hid (HLV.out.growS HGI.out)
                have HSS := Lib.hid (show ∀ w', Grow wj w' → (w'.cell? ⟨B, 10, none⟩ = some (.slice ((some ⟨bo, oo, none⟩)) T.length cv) ∧ w'.cell? ⟨bx, ox + i, none⟩ = some (.int .i64 x)) from fun w' g => ⟨(HSR.out w' (HGI.out.step g)).2.2.1, (HSR.out w' (HGI.out.step g)).2.2.2⟩)
                have HBI := Lib.hid ((HSR.out wj HGI.out).1.trans HB.out)
                have hbi := blk_lt HBI.out
                have HJI := Lib.hid (HJK.out.grow HGI.out)
                obtain ⟨-, -, e9, e10⟩ := rjobB_of HBI.out
                have f9 := rjobFroz HBI.out 9
                have f10 := rjobFroz HBI.out 10
                by_cases hfull : T.length = 4096
                · have hb8 : ((T.length : Int) == 4096) = true := by simp; omega
                  have hb9 : (T.length == 4096) = true := by simpa using hfull
                  have HTJ := Lib.hid (show touchJ Jk x = { Jk with pos := 1, tch := [] } by unfold touchJ; rw [if_neg HNE.out, if_pos (by rw [HTT.out]; exact hfull)])
                  have HS9 := Lib.hid (HJI.out.setPos 1)
                  have HS10 := Lib.hid (RJobOk.setTch (S := fun b => S b ∨ w.heap.size ≤ b) (S' := fun b => S b ∨ w.heap.size ≤ b) HS9.out.1 (.slice none 0 0) [] ((OwnL.nil _ 2 1 _).toSl (by simp)) (fun _ h => h))
                  have HMD := Lib.hid (show Mod (fun b => b = B) w wj from HGR.out.step (Mod.of_grow HGI.out))
                  clear hfull
                  go_wp2_with fail
                  go_roundg (l.length - (i + 1))
                  case measure => omega
                  case rel => exact ⟨i + 1, by omega, rfl, by go_num, by rw [HTL.out, HTJ.out]; exact HS10.out.1, (HMD.out.step HS9.out.2).step HS10.out.2⟩
                · have hb8 : ((T.length : Int) == 4096) = false := by simp; omega
                  have hb9 : (T.length == 4096) = false := by simpa using hfull
                  have HTJ := Lib.hid (show touchJ Jk x = { Jk with tch := putL T x } by unfold touchJ; rw [if_neg HNE.out, if_neg (by rw [HTT.out]; exact hfull), HTT.out])
                  clear hfull
                  go_wp2_with fail
                  clear hb8 hb9
                  obtain ⟨wi, hwi⟩ : ∃ wi, wi = wj := ⟨_, rfl⟩
                  subst hwi
                  obtain ⟨vD, hvD⟩ : ∃ v, v = sliced ((some ⟨bo, oo, none⟩)) k T.length cv 1 := ⟨_, rfl⟩
                  have HVD := Lib.hid hvD
                  have HTK := Lib.hid (show ∀ w', Grow wi w' → IdsR (fun _ => True) w' _ (T.take k) from fun w' g => SlR.sub ((HLI.out.growS g).takeS k hk) (fun _ _ => trivial) (fun _ _ _ h => h))
                  have HDK := Lib.hid (show ∀ w', Grow wi w' → IdsR (fun _ => True) w' vD (T.drop k) from fun w' g => SlR.sub (hvD ▸ (HLI.out.growS g).sliced k hk) (fun _ _ => trivial) (fun _ _ _ h => h))
                  clear hvD
                  have HLT := Lib.hid (show T.length ≤ 4096 ∧ (T.take k).length = k ∧ (T.drop k).length = T.length - k ∧ k ≤ T.length by simp; omega)
                  refine wp_region_noPanic ?_
                  refine wp_region_Z (S := fun w' => w'.cell? ⟨B, 10, none⟩ = some (.slice ((some ⟨bo, oo, none⟩)) T.length cv) ∧ w'.cell? ⟨bx, ox + i, none⟩ = some (.int .i64 x)) (z := 24) (by kernel_rfl) ?_ (fun hHeld => ?_)
                  · exact HSS.out _ (by repeat first | exact Grow.rfl' _ | exact HGb.out | exact HGa.out | apply Grow.drewd | apply Grow.allocd)
                  refine' wpAnyZ_take (i := 0) (oi := ?o1) (v := _) (by kernel_rfl) (by simp only [List.getElem?_toArray, List.getElem?_cons_zero]; rfl) (by kernel_rfl) (by kernel_rfl) (by kernel_rfl) (fun _ _ _ h => h) (Or.inl ⟨by rfl, ?y1⟩) (by assumption) ?r1
                  case y1 =>
                    intro wS hSw
                    try dsimp only at hSw
                    go_simp
                    all_goals with_reducible rfl
                  simp only [Act.put, List.setIfInBounds_toArray, List.set_cons_zero, List.set_cons_succ]
                  refine' wpAnyZ_take (i := 2) (oi := ?o2) (v := _) (by kernel_rfl) (by simp only [List.getElem?_toArray, List.getElem?_cons_succ, List.getElem?_cons_zero]; rfl) (by kernel_rfl) (by kernel_rfl) (by kernel_rfl) (fun _ _ _ h => h) (Or.inl ⟨by rfl, ?y2⟩) (by assumption) ?r2
                  case y2 =>
                    intro wS hSw
                    try dsimp only at hSw
                    go_simp
                    all_goals with_reducible rfl
                  simp only [Act.put, List.setIfInBounds_toArray, List.set_cons_zero, List.set_cons_succ]
                  refine' wpAnyZ_take (i := 3) (oi := ?o3) (v := _) (by kernel_rfl) (by simp only [List.getElem?_toArray, List.getElem?_cons_succ, List.getElem?_cons_zero]; rfl) (by kernel_rfl) (by kernel_rfl) (by kernel_rfl) (fun _ _ _ h => h) (Or.inl ⟨by rfl, ?y3⟩) (by assumption) ?r3
                  case y3 =>
                    intro wS hSw
                    try dsimp only at hSw
                    go_simp
                    all_goals with_reducible rfl
                  simp only [Act.put, List.setIfInBounds_toArray, List.set_cons_zero, List.set_cons_succ]
                  refine' wpAnyZ_take (i := 4) (oi := ?o4) (v := _) (by kernel_rfl) (by simp only [List.getElem?_toArray, List.getElem?_cons_succ, List.getElem?_cons_zero]; rfl) (by kernel_rfl) (by kernel_rfl) (by kernel_rfl) (fun _ _ _ h => h) (Or.inl ⟨by rfl, ?y4⟩) (by assumption) ?r4
                  case y4 =>
                    intro wS hSw
                    try dsimp only at hSw
                    go_simp
                    all_goals with_reducible rfl
                  simp only [Act.put, List.setIfInBounds_toArray, List.set_cons_zero, List.set_cons_succ]
                  refine' wpAnyZ_take (i := 5) (oi := ?o5) (v := _) (by kernel_rfl) (by simp only [List.getElem?_toArray, List.getElem?_cons_succ, List.getElem?_cons_zero]; rfl) (by kernel_rfl) (by kernel_rfl) (by kernel_rfl) (fun _ _ _ h => h) (Or.inl ⟨by rfl, ?y5⟩) (by assumption) ?r5
                  case y5 =>
                    intro wS hSw
                    try dsimp only at hSw
                    go_simp
                    all_goals with_reducible rfl
                  simp only [Act.put, List.setIfInBounds_toArray, List.set_cons_zero, List.set_cons_succ]
                  refine' wpAnyZ_take (i := 6) (oi := ?o6) (v := _) (by kernel_rfl) (by simp only [List.getElem?_toArray, List.getElem?_cons_succ, List.getElem?_cons_zero]; rfl) (by kernel_rfl) (by kernel_rfl) (by kernel_rfl) (fun _ _ _ h => h) (Or.inl ⟨by rfl, ?y6⟩) (by assumption) ?r6
                  case y6 =>
                    intro wS hSw
                    try dsimp only at hSw
                    go_simp
                    all_goals with_reducible rfl
                  simp only [Act.put, List.setIfInBounds_toArray, List.set_cons_zero, List.set_cons_succ]
                  refine' wpAnyZ_take (i := 7) (oi := ?o7) (v := .slice ((some ⟨bo, oo, none⟩)) k cv) (by kernel_rfl) (by simp only [List.getElem?_toArray, List.getElem?_cons_succ, List.getElem?_cons_zero]; rfl) (by kernel_rfl) (by kernel_rfl) (by kernel_rfl) (fun _ _ _ h => h) (Or.inl ⟨by rfl, fun wS hSw => exec_takeS (.tmp 82) (.tmp 83) 25 2 (by rfl) Tryz.underlying25 1 sizeI64 ((some ⟨bo, oo, none⟩)) T.length cv k (by rfl) (by rfl) (by omega)⟩) (by assumption) ?r7
                  simp only [Act.put, List.setIfInBounds_toArray, List.set_cons_zero, List.set_cons_succ]
                  refine' wpAnyZ_take (i := 9) (oi := ?o8) (v := _) (by kernel_rfl) (by simp only [List.getElem?_toArray, List.getElem?_cons_succ, List.getElem?_cons_zero]; rfl) (by kernel_rfl) (by kernel_rfl) (by kernel_rfl) (fun _ _ _ h => h) (Or.inl ⟨by rfl, ?y8⟩) (by assumption) ?r8
                  case y8 =>
                    intro wS hSw
                    try dsimp only at hSw
                    go_simp
                    all_goals with_reducible rfl
                  simp only [Act.put, List.setIfInBounds_toArray, List.set_cons_zero, List.set_cons_succ]
                  refine' wpAnyZ_take (i := 10) (oi := ?o9) (v := _) (by kernel_rfl) (by simp only [List.getElem?_toArray, List.getElem?_cons_succ, List.getElem?_cons_zero]; rfl) (by kernel_rfl) (by kernel_rfl) (by kernel_rfl) (fun _ _ _ h => h) (Or.inl ⟨by rfl, ?y9⟩) (by assumption) ?r9
                  case y9 =>
                    intro wS hSw
                    try dsimp only at hSw
                    go_simp
                    all_goals with_reducible rfl
                  simp only [Act.put, List.setIfInBounds_toArray, List.set_cons_zero, List.set_cons_succ]
                  refine' wpAnyZ_take (i := 11) (oi := ?o10) (v := _) (by kernel_rfl) (by simp only [List.getElem?_toArray, List.getElem?_cons_succ, List.getElem?_cons_zero]; rfl) (by kernel_rfl) (by kernel_rfl) (by kernel_rfl) (fun _ _ _ h => h) (Or.inl ⟨by rfl, ?y10⟩) (by assumption) ?r10
                  case y10 =>
                    intro wS hSw
                    try dsimp only at hSw
                    go_simp
                    all_goals with_reducible rfl
                  simp only [Act.put, List.setIfInBounds_toArray, List.set_cons_zero, List.set_cons_succ]
                  refine' wpAnyZ_take (i := 12) (oi := ?o11) (v := _) (by kernel_rfl) (by simp only [List.getElem?_toArray, List.getElem?_cons_succ, List.getElem?_cons_zero]; rfl) (by kernel_rfl) (by kernel_rfl) (by kernel_rfl) (fun _ _ _ h => h) (Or.inl ⟨by rfl, ?y11⟩) (by assumption) ?r11
                  case y11 =>
                    intro wS hSw
                    try dsimp only at hSw
                    go_simp
                    all_goals with_reducible rfl
                  simp only [Act.put, List.setIfInBounds_toArray, List.set_cons_zero, List.set_cons_succ]
                  refine' wpAnyZ_take (i := 15) (oi := ?o12) (v := _) (by kernel_rfl) (by simp only [List.getElem?_toArray, List.getElem?_cons_succ, List.getElem?_cons_zero]; rfl) (by kernel_rfl) (by kernel_rfl) (by kernel_rfl) (fun _ _ _ h => h) (Or.inl ⟨by rfl, ?y12⟩) (by assumption) ?r12
                  case y12 =>
                    intro wS hSw
                    try dsimp only at hSw
                    go_simp
                    all_goals with_reducible rfl
                  simp only [Act.put, List.setIfInBounds_toArray, List.set_cons_zero, List.set_cons_succ]
                  refine' wpAnyZ_take (i := 16) (oi := ?o13) (v := _) (by kernel_rfl) (by simp only [List.getElem?_toArray, List.getElem?_cons_succ, List.getElem?_cons_zero]; rfl) (by kernel_rfl) (by kernel_rfl) (by kernel_rfl) (fun _ _ _ h => h) (Or.inl ⟨by rfl, ?y13⟩) (by assumption) ?r13
                  case y13 =>
                    intro wS hSw
                    try dsimp only at hSw
                    go_simp
                    all_goals with_reducible rfl
                  simp only [Act.put, List.setIfInBounds_toArray, List.set_cons_zero, List.set_cons_succ]
                  refine' wpAnyZ_take (i := 17) (oi := ?o14) (v := _) (by kernel_rfl) (by simp only [List.getElem?_toArray, List.getElem?_cons_succ, List.getElem?_cons_zero]; rfl) (by kernel_rfl) (by kernel_rfl) (by kernel_rfl) (fun _ _ _ h => h) (Or.inl ⟨by rfl, ?y14⟩) (by assumption) ?r14
                  case y14 =>
                    intro wS hSw
                    try dsimp only at hSw
                    go_simp
                    all_goals with_reducible rfl
                  simp only [Act.put, List.setIfInBounds_toArray, List.set_cons_zero, List.set_cons_succ]
                  refine' wpAnyZ_take (i := 18) (oi := ?o15) (v := _) (by kernel_rfl) (by simp only [List.getElem?_toArray, List.getElem?_cons_succ, List.getElem?_cons_zero]; rfl) (by kernel_rfl) (by kernel_rfl) (by kernel_rfl) (fun _ _ _ h => h) (Or.inl ⟨by rfl, ?y15⟩) (by assumption) ?r15
                  case y15 =>
                    intro wS hSw
                    try dsimp only at hSw
                    go_simp
                    all_goals with_reducible rfl
                  simp only [Act.put, List.setIfInBounds_toArray, List.set_cons_zero, List.set_cons_succ]
                  refine' wpAnyZ_take (i := 19) (oi := ?o16) (v := _) (by kernel_rfl) (by simp only [List.getElem?_toArray, List.getElem?_cons_succ, List.getElem?_cons_zero]; rfl) (by kernel_rfl) (by kernel_rfl) (by kernel_rfl) (fun _ _ _ h => h) (Or.inl ⟨by rfl, ?y16⟩) (by assumption) ?r16
                  case y16 =>
                    intro wS hSw
                    try dsimp only at hSw
                    go_simp
                    all_goals with_reducible rfl
                  simp only [Act.put, List.setIfInBounds_toArray, List.set_cons_zero, List.set_cons_succ]
                  refine' wpAnyZ_take (i := 20) (oi := ?o17) (v := vD) (by kernel_rfl) (by simp only [List.getElem?_toArray, List.getElem?_cons_succ, List.getElem?_cons_zero]; rfl) (by kernel_rfl) (by kernel_rfl) (by kernel_rfl) (fun _ _ _ h => h) (Or.inl ⟨by rfl, fun wS hSw => by rw [HVD.out]; exact exec_dropS (.tmp 95) (.tmp 96) 25 2 (by rfl) Tryz.underlying25 1 sizeI64 ((some ⟨bo, oo, none⟩)) T.length cv k (by rfl) (by rfl) (by omega)⟩) (by assumption) ?r17
                  simp only [Act.put, List.setIfInBounds_toArray, List.set_cons_zero, List.set_cons_succ]
                  refine wpAnyZ_ready (rs := [1, 13]) (by kernel_rfl) (by simp) ?_
                  refine' AllZ.cons (o := ?o39) (by simp only [List.getElem?_toArray, List.getElem?_cons_succ, List.getElem?_cons_zero]; rfl) (fun K hK => ?s39) ?m39
                  rotate_left
                  · refine' AllZ.cons (o := ?o40) (by simp only [List.getElem?_toArray, List.getElem?_cons_succ, List.getElem?_cons_zero]; rfl) (fun K hK => ?s40) ?m40
                    case m40 => exact AllZ.nil
                    go_simp
                    refine hK.out _ _ ?_ (fun hHeld => ?_)
                    · exact HSS.out _ (by repeat first | exact Grow.rfl' _ | exact HGb.out | exact HGa.out | apply Grow.drewd | apply Grow.allocd)
                    clear hK K
                    try simp only [Act.put, List.setIfInBounds_toArray, List.set_cons_zero, List.set_cons_succ]
                    refine wpAnyZ_ready (rs := [1]) (by kernel_rfl) (by simp) ?_
                    refine' AllZ.cons (o := ?o32) (by simp only [List.getElem?_toArray, List.getElem?_cons_succ, List.getElem?_cons_zero]; rfl) (fun K hK => ?s32) ?m32
                    case m32 => exact AllZ.nil
                    go_simp
                    refine hK.out _ _ ?_ (fun hHeld => ?_)
                    · exact HSS.out _ (by repeat first | exact Grow.rfl' _ | exact HGb.out | exact HGa.out | apply Grow.drewd | apply Grow.allocd)
                    clear hK K
                    try simp only [Act.put, List.setIfInBounds_toArray, List.set_cons_zero, List.set_cons_succ]
                    refine wpAnyZ_ready (rs := [8]) (by kernel_rfl) (by simp) ?_
                    refine' AllZ.cons (o := ?o33) (by simp only [List.getElem?_toArray, List.getElem?_cons_succ, List.getElem?_cons_zero]; rfl) (fun K hK => ?s33) ?m33
                    case m33 => exact AllZ.nil
                    refine step_append_L rfl (.tmp 78) (.tmp 84) 25 rfl rowInt64 Tryz.underlying25 wi.heap.size _ (by first | rfl | simp [Act.eval]) _ (by first | rfl | simp [Act.eval]) (T.take k) (HTK.out _ (by repeat first | exact Grow.rfl' _ | exact HGb.out | exact HGa.out | apply Grow.drewd | apply Grow.allocd)) idOk64 (by first | (simp; done) | (simp; omega)) (by have := HLT.out; first | (simp; done) | (simp; unfold maxLen; omega) | (simp [maxLen]; done) | (simp [maxLen]; omega)) (by have := HLT.out; first | (simp; done) | (simp; omega)) ?_
                    intro v5 w5 k1 k2
                    have H5 := Lib.hid k1; have HK5 := Lib.hid k2; have HGa := Lib.hid (show Grow wi w5 from Grow.step (by repeat first | exact Grow.rfl' _ | exact HGb.out | exact HGa.out | apply Grow.drewd | apply Grow.allocd) k2)
                    clear k1 k2
                    refine hK.out _ _ ?_ (fun hHeld => ?_)
                    · exact HSS.out _ (by repeat first | exact Grow.rfl' _ | exact HGb.out | exact HGa.out | apply Grow.drewd | apply Grow.allocd)
                    clear hK K
                    try simp only [Act.put, List.setIfInBounds_toArray, List.set_cons_zero, List.set_cons_succ]
                    refine wpAnyZ_ready (rs := [14]) (by kernel_rfl) (by simp) ?_
                    refine' AllZ.cons (o := ?o34) (by simp only [List.getElem?_toArray, List.getElem?_cons_succ, List.getElem?_cons_zero]; rfl) (fun K hK => ?s34) ?m34
                    case m34 => exact AllZ.nil
                    refine step_append_R rfl (.tmp 85) (.tmp 90) 25 rfl rowInt64 Tryz.underlying25 wi.heap.size _ (T.take k) (by first | rfl | simp [Act.eval]) H5.out (x) [Value.int .i64 x] rfl rfl (one1I64 _) _ (by first | rfl | simp [Act.eval]) (rdB64 ((HK5.out.heapEq (by first | (simp; done) | (simp; omega))).trans (boxAt0b _ _ _))) (by have := HGa.out.size; simp; omega) (by have := HLT.out; first | (simp; done) | (simp; unfold maxLen; omega) | (simp [maxLen]; done) | (simp [maxLen]; omega)) (by have := HLT.out; first | (simp; done) | (simp; omega)) ?_
                    intro v6 w6 k1 k2 k3
                    have H6 := Lib.hid k1; have HGb := Lib.hid (show Grow wi w6 from Grow.since (by repeat first | exact Grow.rfl' _ | exact HGb.out | exact HGa.out | apply Grow.drewd | apply Grow.allocd) k2 (Nat.le_refl _))
                    clear k1 k2 k3
                    refine hK.out _ _ ?_ (fun hHeld => ?_)
                    · exact HSS.out _ (by repeat first | exact Grow.rfl' _ | exact HGb.out | exact HGa.out | apply Grow.drewd | apply Grow.allocd)
                    clear hK K
                    try simp only [Act.put, List.setIfInBounds_toArray, List.set_cons_zero, List.set_cons_succ]
                    refine wpAnyZ_ready (rs := [21]) (by kernel_rfl) (by simp) ?_
                    refine' AllZ.cons (o := ?o35) (by simp only [List.getElem?_toArray, List.getElem?_cons_succ, List.getElem?_cons_zero]; rfl) (fun K hK => ?s35) ?m35
                    case m35 => exact AllZ.nil
                    refine step_append_M rfl (.tmp 91) (.tmp 97) 25 rfl rowInt64 Tryz.underlying25 wi.heap.size _ (T.take k ++ [x]) (by first | rfl | simp [Act.eval]) H6.out _ (by first | rfl | (simp [Act.eval]; done) | (simp [Act.eval]; intros; omega)) (T.drop k) (HDK.out _ HGb.out) idOk64 HGb.out.size (by have := HLT.out; first | (simp; done) | (simp; unfold maxLen; omega) | (simp [maxLen]; done) | (simp [maxLen]; omega)) (by have := HLT.out; first | (simp; done) | (simp; omega)) ?_
                    intro v7 w7 k1 k2 k3
                    have H7 := Lib.hid k1; have HG7 := Lib.hid (show Grow wi w7 from Grow.since HGb.out k2 (Nat.le_refl _))
                    clear k1 k2 k3
                    refine hK.out _ _ ?_ (fun hHeld => ?_)
                    · exact HSS.out _ HG7.out
                    clear hK K
                    try simp only [Act.put, List.setIfInBounds_toArray, List.set_cons_zero, List.set_cons_succ]
                    refine wpAnyZ_ready (rs := [22]) (by kernel_rfl) (by simp) ?_
                    refine' AllZ.cons (o := ?o36) (by simp only [List.getElem?_toArray, List.getElem?_cons_succ, List.getElem?_cons_zero]; rfl) (fun K hK => ?s36) ?m36
                    case m36 => exact AllZ.nil
                    go_simp
                    refine hK.out _ _ ?_ (fun hHeld => ?_)
                    · exact HSS.out _ HG7.out
                    clear hK K
                    try simp only [Act.put, List.setIfInBounds_toArray, List.set_cons_zero, List.set_cons_succ]
                    refine wpAnyZ_ready (rs := [23]) (by kernel_rfl) (by simp) ?_
                    refine' AllZ.cons (o := ?o37) (by simp only [List.getElem?_toArray, List.getElem?_cons_succ, List.getElem?_cons_zero]; rfl) (fun K hK => ?s37) ?m37
                    case m37 => exact AllZ.nil
                    go_simp
                    refine hK.out _ _ ?_ (fun hHeld => ?_)
                    · exact HSS.out _ HG7.out
                    clear hK K
                    try simp only [Act.put, List.setIfInBounds_toArray, List.set_cons_zero, List.set_cons_succ]
                    obtain ⟨_, _, _, _, _⟩ : True ∧ True ∧ True ∧ True ∧ True := ⟨trivial, trivial, trivial, trivial, trivial⟩
                    obtain ⟨aN, cN, rfl, -, -⟩ := SlR.open H7.out.toR
                    have HB7 := Lib.hid ((HG7.out.heapEq hbi).trans HBI.out)
                    obtain ⟨-, -, -, e10⟩ := rjobB_of HB7.out
                    have f10 := rjobFroz HB7.out 10
                    have HMD := Lib.hid (show Mod (fun b => b = B) w w7 from HGR.out.step (Mod.of_grow (HGI.out.step HG7.out)))
                    have HSET := Lib.hid ((RJobOk.setTch (S := fun b => S b ∨ w.heap.size ≤ b) (S' := fun b => S b ∨ w.heap.size ≤ b) (HJI.out.grow HG7.out) (.slice aN (T.take k ++ [x] ++ T.drop k).length cN) (T.take k ++ [x] ++ T.drop k) (SlR.sub H7.out.toR (fun b hb => ⟨.inr (by have := HWS.out; have := HGI.out.size; omega), by omega⟩) (fun _ _ _ h => h)) (fun _ h => h)))
                    rw [← HPUT.out] at *
                    refine wpAnyZ_ready (rs := [24]) (by kernel_rfl) (by simp) ?_
                    refine' AllZ.last (o := ?o38) (by simp only [List.getElem?_toArray, List.getElem?_cons_succ, List.getElem?_cons_zero]; rfl) (fun K hK => ?s38)
                    go_simp
                    refine hK.out _ _ ?_
                    clear hK K
                    try simp only [Act.put, List.setIfInBounds_toArray, List.set_cons_zero, List.set_cons_succ]
                    refine wpAnyZ_done (by kernel_rfl) ?_ _
                    refine NoPanic.normal ?_
                    go_wp2
                    go_roundg (l.length - (i + 1))
                    case measure => omega
                    case rel => exact ⟨i + 1, by omega, rfl, by go_num, by rw [HTL.out, HTJ.out]; exact HSET.out.1, HMD.out.step HSET.out.2⟩
                  go_simp
                  refine hK.out _ _ ?_ (fun hHeld => ?_)
                  · exact HSS.out _ (by repeat first | exact Grow.rfl' _ | exact HGb.out | exact HGa.out | apply Grow.drewd | apply Grow.allocd)
                  clear hK K
                  try simp only [Act.put, List.setIfInBounds_toArray, List.set_cons_zero, List.set_cons_succ]
                  refine wpAnyZ_ready (rs := [8, 13]) (by kernel_rfl) (by simp) ?_
                  refine' AllZ.cons (o := ?o30) (by simp only [List.getElem?_toArray, List.getElem?_cons_succ, List.getElem?_cons_zero]; rfl) (fun K hK => ?s30) ?m30
                  rotate_left
                  · refine' AllZ.cons (o := ?o31) (by simp only [List.getElem?_toArray, List.getElem?_cons_succ, List.getElem?_cons_zero]; rfl) (fun K hK => ?s31) ?m31
                    case m31 => exact AllZ.nil
                    go_simp
                    refine hK.out _ _ ?_ (fun hHeld => ?_)
                    · exact HSS.out _ (by repeat first | exact Grow.rfl' _ | exact HGb.out | exact HGa.out | apply Grow.drewd | apply Grow.allocd)
                    clear hK K
                    try simp only [Act.put, List.setIfInBounds_toArray, List.set_cons_zero, List.set_cons_succ]
                    refine wpAnyZ_ready (rs := [8]) (by kernel_rfl) (by simp) ?_
                    refine' AllZ.cons (o := ?o24) (by simp only [List.getElem?_toArray, List.getElem?_cons_succ, List.getElem?_cons_zero]; rfl) (fun K hK => ?s24) ?m24
                    case m24 => exact AllZ.nil
                    refine step_append_L rfl (.tmp 78) (.tmp 84) 25 rfl rowInt64 Tryz.underlying25 wi.heap.size _ (by first | rfl | simp [Act.eval]) _ (by first | rfl | simp [Act.eval]) (T.take k) (HTK.out _ (by repeat first | exact Grow.rfl' _ | exact HGb.out | exact HGa.out | apply Grow.drewd | apply Grow.allocd)) idOk64 (by first | (simp; done) | (simp; omega)) (by have := HLT.out; first | (simp; done) | (simp; unfold maxLen; omega) | (simp [maxLen]; done) | (simp [maxLen]; omega)) (by have := HLT.out; first | (simp; done) | (simp; omega)) ?_
                    intro v5 w5 k1 k2
                    have H5 := Lib.hid k1; have HK5 := Lib.hid k2; have HGa := Lib.hid (show Grow wi w5 from Grow.step (by repeat first | exact Grow.rfl' _ | exact HGb.out | exact HGa.out | apply Grow.drewd | apply Grow.allocd) k2)
                    clear k1 k2
                    refine hK.out _ _ ?_ (fun hHeld => ?_)
                    · exact HSS.out _ (by repeat first | exact Grow.rfl' _ | exact HGb.out | exact HGa.out | apply Grow.drewd | apply Grow.allocd)
                    clear hK K
                    try simp only [Act.put, List.setIfInBounds_toArray, List.set_cons_zero, List.set_cons_succ]
                    refine wpAnyZ_ready (rs := [14]) (by kernel_rfl) (by simp) ?_
                    refine' AllZ.cons (o := ?o25) (by simp only [List.getElem?_toArray, List.getElem?_cons_succ, List.getElem?_cons_zero]; rfl) (fun K hK => ?s25) ?m25
                    case m25 => exact AllZ.nil
                    refine step_append_R rfl (.tmp 85) (.tmp 90) 25 rfl rowInt64 Tryz.underlying25 wi.heap.size _ (T.take k) (by first | rfl | simp [Act.eval]) H5.out (x) [Value.int .i64 x] rfl rfl (one1I64 _) _ (by first | rfl | simp [Act.eval]) (rdB64 ((HK5.out.heapEq (by first | (simp; done) | (simp; omega))).trans (boxAt1b _ _ _))) (by have := HGa.out.size; simp; omega) (by have := HLT.out; first | (simp; done) | (simp; unfold maxLen; omega) | (simp [maxLen]; done) | (simp [maxLen]; omega)) (by have := HLT.out; first | (simp; done) | (simp; omega)) ?_
                    intro v6 w6 k1 k2 k3
                    have H6 := Lib.hid k1; have HGb := Lib.hid (show Grow wi w6 from Grow.since (by repeat first | exact Grow.rfl' _ | exact HGb.out | exact HGa.out | apply Grow.drewd | apply Grow.allocd) k2 (Nat.le_refl _))
                    clear k1 k2 k3
                    refine hK.out _ _ ?_ (fun hHeld => ?_)
                    · exact HSS.out _ (by repeat first | exact Grow.rfl' _ | exact HGb.out | exact HGa.out | apply Grow.drewd | apply Grow.allocd)
                    clear hK K
                    try simp only [Act.put, List.setIfInBounds_toArray, List.set_cons_zero, List.set_cons_succ]
                    refine wpAnyZ_ready (rs := [21]) (by kernel_rfl) (by simp) ?_
                    refine' AllZ.cons (o := ?o26) (by simp only [List.getElem?_toArray, List.getElem?_cons_succ, List.getElem?_cons_zero]; rfl) (fun K hK => ?s26) ?m26
                    case m26 => exact AllZ.nil
                    refine step_append_M rfl (.tmp 91) (.tmp 97) 25 rfl rowInt64 Tryz.underlying25 wi.heap.size _ (T.take k ++ [x]) (by first | rfl | simp [Act.eval]) H6.out _ (by first | rfl | (simp [Act.eval]; done) | (simp [Act.eval]; intros; omega)) (T.drop k) (HDK.out _ HGb.out) idOk64 HGb.out.size (by have := HLT.out; first | (simp; done) | (simp; unfold maxLen; omega) | (simp [maxLen]; done) | (simp [maxLen]; omega)) (by have := HLT.out; first | (simp; done) | (simp; omega)) ?_
                    intro v7 w7 k1 k2 k3
                    have H7 := Lib.hid k1; have HG7 := Lib.hid (show Grow wi w7 from Grow.since HGb.out k2 (Nat.le_refl _))
                    clear k1 k2 k3
                    refine hK.out _ _ ?_ (fun hHeld => ?_)
                    · exact HSS.out _ HG7.out
                    clear hK K
                    try simp only [Act.put, List.setIfInBounds_toArray, List.set_cons_zero, List.set_cons_succ]
                    refine wpAnyZ_ready (rs := [22]) (by kernel_rfl) (by simp) ?_
                    refine' AllZ.cons (o := ?o27) (by simp only [List.getElem?_toArray, List.getElem?_cons_succ, List.getElem?_cons_zero]; rfl) (fun K hK => ?s27) ?m27
                    case m27 => exact AllZ.nil
                    go_simp
                    refine hK.out _ _ ?_ (fun hHeld => ?_)
                    · exact HSS.out _ HG7.out
                    clear hK K
                    try simp only [Act.put, List.setIfInBounds_toArray, List.set_cons_zero, List.set_cons_succ]
                    refine wpAnyZ_ready (rs := [23]) (by kernel_rfl) (by simp) ?_
                    refine' AllZ.cons (o := ?o28) (by simp only [List.getElem?_toArray, List.getElem?_cons_succ, List.getElem?_cons_zero]; rfl) (fun K hK => ?s28) ?m28
                    case m28 => exact AllZ.nil
                    go_simp
                    refine hK.out _ _ ?_ (fun hHeld => ?_)
                    · exact HSS.out _ HG7.out
                    clear hK K
                    try simp only [Act.put, List.setIfInBounds_toArray, List.set_cons_zero, List.set_cons_succ]
                    obtain ⟨_, _, _, _, _⟩ : True ∧ True ∧ True ∧ True ∧ True := ⟨trivial, trivial, trivial, trivial, trivial⟩
                    obtain ⟨aN, cN, rfl, -, -⟩ := SlR.open H7.out.toR
                    have HB7 := Lib.hid ((HG7.out.heapEq hbi).trans HBI.out)
                    obtain ⟨-, -, -, e10⟩ := rjobB_of HB7.out
                    have f10 := rjobFroz HB7.out 10
                    have HMD := Lib.hid (show Mod (fun b => b = B) w w7 from HGR.out.step (Mod.of_grow (HGI.out.step HG7.out)))
                    have HSET := Lib.hid ((RJobOk.setTch (S := fun b => S b ∨ w.heap.size ≤ b) (S' := fun b => S b ∨ w.heap.size ≤ b) (HJI.out.grow HG7.out) (.slice aN (T.take k ++ [x] ++ T.drop k).length cN) (T.take k ++ [x] ++ T.drop k) (SlR.sub H7.out.toR (fun b hb => ⟨.inr (by have := HWS.out; have := HGI.out.size; omega), by omega⟩) (fun _ _ _ h => h)) (fun _ h => h)))
                    rw [← HPUT.out] at *
                    refine wpAnyZ_ready (rs := [24]) (by kernel_rfl) (by simp) ?_
                    refine' AllZ.last (o := ?o29) (by simp only [List.getElem?_toArray, List.getElem?_cons_succ, List.getElem?_cons_zero]; rfl) (fun K hK => ?s29)
                    go_simp
                    refine hK.out _ _ ?_
                    clear hK K
                    try simp only [Act.put, List.setIfInBounds_toArray, List.set_cons_zero, List.set_cons_succ]
                    refine wpAnyZ_done (by kernel_rfl) ?_ _
                    refine NoPanic.normal ?_
                    go_wp2
                    go_roundg (l.length - (i + 1))
                    case measure => omega
                    case rel => exact ⟨i + 1, by omega, rfl, by go_num, by rw [HTL.out, HTJ.out]; exact HSET.out.1, HMD.out.step HSET.out.2⟩
                  refine step_append_L rfl (.tmp 78) (.tmp 84) 25 rfl rowInt64 Tryz.underlying25 wi.heap.size _ (by first | rfl | simp [Act.eval]) _ (by first | rfl | simp [Act.eval]) (T.take k) (HTK.out _ (by repeat first | exact Grow.rfl' _ | exact HGb.out | exact HGa.out | apply Grow.drewd | apply Grow.allocd)) idOk64 (by first | (simp; done) | (simp; omega)) (by have := HLT.out; first | (simp; done) | (simp; unfold maxLen; omega) | (simp [maxLen]; done) | (simp [maxLen]; omega)) (by have := HLT.out; first | (simp; done) | (simp; omega)) ?_
                  intro v5 w5 k1 k2
                  have H5 := Lib.hid k1; have HK5 := Lib.hid k2; have HGa := Lib.hid (show Grow wi w5 from Grow.step (by repeat first | exact Grow.rfl' _ | exact HGb.out | exact HGa.out | apply Grow.drewd | apply Grow.allocd) k2)
                  clear k1 k2
                  refine hK.out _ _ ?_ (fun hHeld => ?_)
                  · exact HSS.out _ (by repeat first | exact Grow.rfl' _ | exact HGb.out | exact HGa.out | apply Grow.drewd | apply Grow.allocd)
                  clear hK K
                  try simp only [Act.put, List.setIfInBounds_toArray, List.set_cons_zero, List.set_cons_succ]
                  refine wpAnyZ_ready (rs := [13]) (by kernel_rfl) (by simp) ?_
                  refine' AllZ.cons (o := ?o18) (by simp only [List.getElem?_toArray, List.getElem?_cons_succ, List.getElem?_cons_zero]; rfl) (fun K hK => ?s18) ?m18
                  case m18 => exact AllZ.nil
                  go_simp
                  refine hK.out _ _ ?_ (fun hHeld => ?_)
                  · exact HSS.out _ (by repeat first | exact Grow.rfl' _ | exact HGb.out | exact HGa.out | apply Grow.drewd | apply Grow.allocd)
                  clear hK K
                  try simp only [Act.put, List.setIfInBounds_toArray, List.set_cons_zero, List.set_cons_succ]
                  refine wpAnyZ_ready (rs := [14]) (by kernel_rfl) (by simp) ?_
                  refine' AllZ.cons (o := ?o19) (by simp only [List.getElem?_toArray, List.getElem?_cons_succ, List.getElem?_cons_zero]; rfl) (fun K hK => ?s19) ?m19
                  case m19 => exact AllZ.nil
                  refine step_append_R rfl (.tmp 85) (.tmp 90) 25 rfl rowInt64 Tryz.underlying25 wi.heap.size _ (T.take k) (by first | rfl | simp [Act.eval]) (H5.out.grow ((Grow.rfl' _).allocd _)) (x) [Value.int .i64 x] rfl rfl (one1I64 _) _ (by first | rfl | simp [Act.eval]) (rdK _ _ _ 1 rfl rfl) (by have := HGa.out.size; simp; omega) (by have := HLT.out; first | (simp; done) | (simp; unfold maxLen; omega) | (simp [maxLen]; done) | (simp [maxLen]; omega)) (by have := HLT.out; first | (simp; done) | (simp; omega)) ?_
                  intro v6 w6 k1 k2 k3
                  have H6 := Lib.hid k1; have HGb := Lib.hid (show Grow wi w6 from Grow.since (by repeat first | exact Grow.rfl' _ | exact HGb.out | exact HGa.out | apply Grow.drewd | apply Grow.allocd) k2 (Nat.le_refl _))
                  clear k1 k2 k3
                  refine hK.out _ _ ?_ (fun hHeld => ?_)
                  · exact HSS.out _ (by repeat first | exact Grow.rfl' _ | exact HGb.out | exact HGa.out | apply Grow.drewd | apply Grow.allocd)
                  clear hK K
                  try simp only [Act.put, List.setIfInBounds_toArray, List.set_cons_zero, List.set_cons_succ]
                  refine wpAnyZ_ready (rs := [21]) (by kernel_rfl) (by simp) ?_
                  refine' AllZ.cons (o := ?o20) (by simp only [List.getElem?_toArray, List.getElem?_cons_succ, List.getElem?_cons_zero]; rfl) (fun K hK => ?s20) ?m20
                  case m20 => exact AllZ.nil
                  refine step_append_M rfl (.tmp 91) (.tmp 97) 25 rfl rowInt64 Tryz.underlying25 wi.heap.size _ (T.take k ++ [x]) (by first | rfl | simp [Act.eval]) H6.out _ (by first | rfl | (simp [Act.eval]; done) | (simp [Act.eval]; intros; omega)) (T.drop k) (HDK.out _ HGb.out) idOk64 HGb.out.size (by have := HLT.out; first | (simp; done) | (simp; unfold maxLen; omega) | (simp [maxLen]; done) | (simp [maxLen]; omega)) (by have := HLT.out; first | (simp; done) | (simp; omega)) ?_
                  intro v7 w7 k1 k2 k3
                  have H7 := Lib.hid k1; have HG7 := Lib.hid (show Grow wi w7 from Grow.since HGb.out k2 (Nat.le_refl _))
                  clear k1 k2 k3
                  refine hK.out _ _ ?_ (fun hHeld => ?_)
                  · exact HSS.out _ HG7.out
                  clear hK K
                  try simp only [Act.put, List.setIfInBounds_toArray, List.set_cons_zero, List.set_cons_succ]
                  refine wpAnyZ_ready (rs := [22]) (by kernel_rfl) (by simp) ?_
                  refine' AllZ.cons (o := ?o21) (by simp only [List.getElem?_toArray, List.getElem?_cons_succ, List.getElem?_cons_zero]; rfl) (fun K hK => ?s21) ?m21
                  case m21 => exact AllZ.nil
                  go_simp
                  refine hK.out _ _ ?_ (fun hHeld => ?_)
                  · exact HSS.out _ HG7.out
                  clear hK K
                  try simp only [Act.put, List.setIfInBounds_toArray, List.set_cons_zero, List.set_cons_succ]
                  refine wpAnyZ_ready (rs := [23]) (by kernel_rfl) (by simp) ?_
                  refine' AllZ.cons (o := ?o22) (by simp only [List.getElem?_toArray, List.getElem?_cons_succ, List.getElem?_cons_zero]; rfl) (fun K hK => ?s22) ?m22
                  case m22 => exact AllZ.nil
                  go_simp
                  refine hK.out _ _ ?_ (fun hHeld => ?_)
                  · exact HSS.out _ HG7.out
                  clear hK K
                  try simp only [Act.put, List.setIfInBounds_toArray, List.set_cons_zero, List.set_cons_succ]
                  obtain ⟨_, _, _, _, _⟩ : True ∧ True ∧ True ∧ True ∧ True := ⟨trivial, trivial, trivial, trivial, trivial⟩
                  obtain ⟨aN, cN, rfl, -, -⟩ := SlR.open H7.out.toR
                  have HB7 := Lib.hid ((HG7.out.heapEq hbi).trans HBI.out)
                  obtain ⟨-, -, -, e10⟩ := rjobB_of HB7.out
                  have f10 := rjobFroz HB7.out 10
                  have HMD := Lib.hid (show Mod (fun b => b = B) w w7 from HGR.out.step (Mod.of_grow (HGI.out.step HG7.out)))
                  have HSET := Lib.hid ((RJobOk.setTch (S := fun b => S b ∨ w.heap.size ≤ b) (S' := fun b => S b ∨ w.heap.size ≤ b) (HJI.out.grow HG7.out) (.slice aN (T.take k ++ [x] ++ T.drop k).length cN) (T.take k ++ [x] ++ T.drop k) (SlR.sub H7.out.toR (fun b hb => ⟨.inr (by have := HWS.out; have := HGI.out.size; omega), by omega⟩) (fun _ _ _ h => h)) (fun _ h => h)))
                  rw [← HPUT.out] at *
                  refine wpAnyZ_ready (rs := [24]) (by kernel_rfl) (by simp) ?_
                  refine' AllZ.last (o := ?o23) (by simp only [List.getElem?_toArray, List.getElem?_cons_succ, List.getElem?_cons_zero]; rfl) (fun K hK => ?s23)
                  go_simp
                  refine hK.out _ _ ?_
                  clear hK K
                  try simp only [Act.put, List.setIfInBounds_toArray, List.set_cons_zero, List.set_cons_succ]
                  refine wpAnyZ_done (by kernel_rfl) ?_ _
                  refine NoPanic.normal ?_
                  go_wp2
                  go_roundg (l.length - (i + 1))
                  case measure => omega
                  case rel => exact ⟨i + 1, by omega, rfl, by go_num, by rw [HTL.out, HTJ.out]; exact HSET.out.1, HMD.out.step HSET.out.2⟩
          · obtain rfl : k = T.length := by omega
            rw [List.take_length] at HALL
            have HPUT := Lib.hid (show putL T x = T.take T.length ++ [x] ++ T.drop T.length from putZ_new HSO.out (by rw [List.take_length]; exact HALL.out) (.inl rfl))
            have HNE := Lib.hid (show ¬(Jk.pos ≤ x ∨ x ∈ Jk.tch) from fun h => h.elim (fun h => by have := HNP.out; omega) (fun hm => putZ_not HPUT.out (HTT.out ▸ hm)))
            obtain ⟨-, d9, d10, dx⟩ := HSR.out wi HGI.out
            have HSIC := Lib.hid (show ∀ w', Grow wi w' → w'.cell? ⟨B, 10, none⟩ = some (.slice av T.length cv) from fun w' g => (HSR.out w' (HGI.out.step g)).2.2.1)
            have hbwi : B < wi.heap.size := Nat.lt_of_lt_of_le hbr hgi.size
            go_wp2_with fail
            refine wp_region_grow (by kernel_rfl) (by kernel_rfl) ?_
            repeat (go_big_quiet_step (fail))
            refine wpQuiet_nil ?_
            intro wq1 hq1
            have HQ1 := Lib.hid hq1
            have d10 := HSIC.out wq1 hq1
            have hbw1 : B < wq1.heap.size := Nat.lt_of_lt_of_le hbwi hq1.size
            clear hq1
            go_wp2_with fail
            refine wp_region_grow (by kernel_rfl) (by kernel_rfl) ?_
            repeat (go_big_quiet_step (fail))
            refine wpQuiet_nil ?_
            intro wq2 hq2
            have HQ2 := Lib.hid (Grow.step HQ1.out hq2)
            clear hq2 d9 d10 dx HSIC hbwi hbw1 hgi HQ1
            have hk : T.length ≤ T.length := Nat.le_refl _
            have HGI := Lib.hid (HGI.out.step HQ2.out)
            generalize wq2 = wj at *
            have HLI := Lib.hid (HLV.out.growS HGI.out)
            have HSS := Lib.hid (show ∀ w', Grow wj w' → (w'.cell? ⟨B, 10, none⟩ = some (.slice (av) T.length cv) ∧ w'.cell? ⟨bx, ox + i, none⟩ = some (.int .i64 x)) from fun w' g => ⟨(HSR.out w' (HGI.out.step g)).2.2.1, (HSR.out w' (HGI.out.step g)).2.2.2⟩)
            have HBI := Lib.hid ((HSR.out wj HGI.out).1.trans HB.out)
            have hbi := blk_lt HBI.out
            have HJI := Lib.hid (HJK.out.grow HGI.out)
            obtain ⟨-, -, e9, e10⟩ := rjobB_of HBI.out
            have f9 := rjobFroz HBI.out 9
            have f10 := rjobFroz HBI.out 10
            by_cases hfull : T.length = 4096
            · have hb8 : ((T.length : Int) == 4096) = true := by simp; omega
              have hb9 : (T.length == 4096) = true := by simpa using hfull
              have HTJ := Lib.hid (show touchJ Jk x = { Jk with pos := 1, tch := [] } by unfold touchJ; rw [if_neg HNE.out, if_pos (by rw [HTT.out]; exact hfull)])
              have HS9 := Lib.hid (HJI.out.setPos 1)
              have HS10 := Lib.hid (RJobOk.setTch (S := fun b => S b ∨ w.heap.size ≤ b) (S' := fun b => S b ∨ w.heap.size ≤ b) HS9.out.1 (.slice none 0 0) [] ((OwnL.nil _ 2 1 _).toSl (by simp)) (fun _ h => h))
              have HMD := Lib.hid (show Mod (fun b => b = B) w wj from HGR.out.step (Mod.of_grow HGI.out))
              clear hfull
              go_wp2_with fail
              go_roundg (l.length - (i + 1))
              case measure => omega
              case rel => exact ⟨i + 1, by omega, rfl, by go_num, by rw [HTL.out, HTJ.out]; exact HS10.out.1, (HMD.out.step HS9.out.2).step HS10.out.2⟩
            · have hb8 : ((T.length : Int) == 4096) = false := by simp; omega
              have hb9 : (T.length == 4096) = false := by simpa using hfull
              have HTJ := Lib.hid (show touchJ Jk x = { Jk with tch := putL T x } by unfold touchJ; rw [if_neg HNE.out, if_neg (by rw [HTT.out]; exact hfull), HTT.out])
              clear hfull
              go_wp2_with fail
              clear hb8 hb9
              obtain ⟨wi, hwi⟩ : ∃ wi, wi = wj := ⟨_, rfl⟩
              subst hwi
              obtain ⟨vD, hvD⟩ : ∃ v, v = sliced (av) T.length T.length cv 1 := ⟨_, rfl⟩
              have HVD := Lib.hid hvD
              have HTK := Lib.hid (show ∀ w', Grow wi w' → IdsR (fun _ => True) w' _ (T.take T.length) from fun w' g => SlR.sub ((HLI.out.growS g).takeS T.length hk) (fun _ _ => trivial) (fun _ _ _ h => h))
              have HDK := Lib.hid (show ∀ w', Grow wi w' → IdsR (fun _ => True) w' vD (T.drop T.length) from fun w' g => SlR.sub (hvD ▸ (HLI.out.growS g).sliced T.length hk) (fun _ _ => trivial) (fun _ _ _ h => h))
              clear hvD
              have HLT := Lib.hid (show T.length ≤ 4096 ∧ (T.take T.length).length = T.length ∧ (T.drop T.length).length = T.length - T.length ∧ T.length ≤ T.length by simp; omega)
              refine wp_region_noPanic ?_
              refine wp_region_Z (S := fun w' => w'.cell? ⟨B, 10, none⟩ = some (.slice (av) T.length cv) ∧ w'.cell? ⟨bx, ox + i, none⟩ = some (.int .i64 x)) (z := 24) (by kernel_rfl) ?_ (fun hHeld => ?_)
              · exact HSS.out _ (by repeat first | exact Grow.rfl' _ | exact HGb.out | exact HGa.out | apply Grow.drewd | apply Grow.allocd)
              refine' wpAnyZ_take (i := 0) (oi := ?o41) (v := _) (by kernel_rfl) (by simp only [List.getElem?_toArray, List.getElem?_cons_zero]; rfl) (by kernel_rfl) (by kernel_rfl) (by kernel_rfl) (fun _ _ _ h => h) (Or.inl ⟨by rfl, ?y41⟩) (by assumption) ?r41
              case y41 =>
                intro wS hSw
                try dsimp only at hSw
                go_simp
                all_goals with_reducible rfl
              simp only [Act.put, List.setIfInBounds_toArray, List.set_cons_zero, List.set_cons_succ]
              refine' wpAnyZ_take (i := 2) (oi := ?o42) (v := _) (by kernel_rfl) (by simp only [List.getElem?_toArray, List.getElem?_cons_succ, List.getElem?_cons_zero]; rfl) (by kernel_rfl) (by kernel_rfl) (by kernel_rfl) (fun _ _ _ h => h) (Or.inl ⟨by rfl, ?y42⟩) (by assumption) ?r42
              case y42 =>
                intro wS hSw
                try dsimp only at hSw
                go_simp
                all_goals with_reducible rfl
              simp only [Act.put, List.setIfInBounds_toArray, List.set_cons_zero, List.set_cons_succ]
              refine' wpAnyZ_take (i := 3) (oi := ?o43) (v := _) (by kernel_rfl) (by simp only [List.getElem?_toArray, List.getElem?_cons_succ, List.getElem?_cons_zero]; rfl) (by kernel_rfl) (by kernel_rfl) (by kernel_rfl) (fun _ _ _ h => h) (Or.inl ⟨by rfl, ?y43⟩) (by assumption) ?r43
              case y43 =>
                intro wS hSw
                try dsimp only at hSw
                go_simp
                all_goals with_reducible rfl
              simp only [Act.put, List.setIfInBounds_toArray, List.set_cons_zero, List.set_cons_succ]
              refine' wpAnyZ_take (i := 4) (oi := ?o44) (v := _) (by kernel_rfl) (by simp only [List.getElem?_toArray, List.getElem?_cons_succ, List.getElem?_cons_zero]; rfl) (by kernel_rfl) (by kernel_rfl) (by kernel_rfl) (fun _ _ _ h => h) (Or.inl ⟨by rfl, ?y44⟩) (by assumption) ?r44
              case y44 =>
                intro wS hSw
                try dsimp only at hSw
                go_simp
                all_goals with_reducible rfl
              simp only [Act.put, List.setIfInBounds_toArray, List.set_cons_zero, List.set_cons_succ]
              refine' wpAnyZ_take (i := 5) (oi := ?o45) (v := _) (by kernel_rfl) (by simp only [List.getElem?_toArray, List.getElem?_cons_succ, List.getElem?_cons_zero]; rfl) (by kernel_rfl) (by kernel_rfl) (by kernel_rfl) (fun _ _ _ h => h) (Or.inl ⟨by rfl, ?y45⟩) (by assumption) ?r45
              case y45 =>
                intro wS hSw
                try dsimp only at hSw
                go_simp
                all_goals with_reducible rfl
              simp only [Act.put, List.setIfInBounds_toArray, List.set_cons_zero, List.set_cons_succ]
              refine' wpAnyZ_take (i := 6) (oi := ?o46) (v := _) (by kernel_rfl) (by simp only [List.getElem?_toArray, List.getElem?_cons_succ, List.getElem?_cons_zero]; rfl) (by kernel_rfl) (by kernel_rfl) (by kernel_rfl) (fun _ _ _ h => h) (Or.inl ⟨by rfl, ?y46⟩) (by assumption) ?r46
              case y46 =>
                intro wS hSw
                try dsimp only at hSw
                go_simp
                all_goals with_reducible rfl
              simp only [Act.put, List.setIfInBounds_toArray, List.set_cons_zero, List.set_cons_succ]
              refine' wpAnyZ_take (i := 7) (oi := ?o47) (v := .slice (av) T.length cv) (by kernel_rfl) (by simp only [List.getElem?_toArray, List.getElem?_cons_succ, List.getElem?_cons_zero]; rfl) (by kernel_rfl) (by kernel_rfl) (by kernel_rfl) (fun _ _ _ h => h) (Or.inl ⟨by rfl, fun wS hSw => exec_takeS (.tmp 82) (.tmp 83) 25 2 (by rfl) Tryz.underlying25 1 sizeI64 (av) T.length cv T.length (by rfl) (by rfl) (by omega)⟩) (by assumption) ?r47
              simp only [Act.put, List.setIfInBounds_toArray, List.set_cons_zero, List.set_cons_succ]
              refine' wpAnyZ_take (i := 9) (oi := ?o48) (v := _) (by kernel_rfl) (by simp only [List.getElem?_toArray, List.getElem?_cons_succ, List.getElem?_cons_zero]; rfl) (by kernel_rfl) (by kernel_rfl) (by kernel_rfl) (fun _ _ _ h => h) (Or.inl ⟨by rfl, ?y48⟩) (by assumption) ?r48
              case y48 =>
                intro wS hSw
                try dsimp only at hSw
                go_simp
                all_goals with_reducible rfl
              simp only [Act.put, List.setIfInBounds_toArray, List.set_cons_zero, List.set_cons_succ]
              refine' wpAnyZ_take (i := 10) (oi := ?o49) (v := _) (by kernel_rfl) (by simp only [List.getElem?_toArray, List.getElem?_cons_succ, List.getElem?_cons_zero]; rfl) (by kernel_rfl) (by kernel_rfl) (by kernel_rfl) (fun _ _ _ h => h) (Or.inl ⟨by rfl, ?y49⟩) (by assumption) ?r49
              case y49 =>
                intro wS hSw
                try dsimp only at hSw
                go_simp
                all_goals with_reducible rfl
              simp only [Act.put, List.setIfInBounds_toArray, List.set_cons_zero, List.set_cons_succ]
              refine' wpAnyZ_take (i := 11) (oi := ?o50) (v := _) (by kernel_rfl) (by simp only [List.getElem?_toArray, List.getElem?_cons_succ, List.getElem?_cons_zero]; rfl) (by kernel_rfl) (by kernel_rfl) (by kernel_rfl) (fun _ _ _ h => h) (Or.inl ⟨by rfl, ?y50⟩) (by assumption) ?r50
              case y50 =>
                intro wS hSw
                try dsimp only at hSw
                go_simp
                all_goals with_reducible rfl
              simp only [Act.put, List.setIfInBounds_toArray, List.set_cons_zero, List.set_cons_succ]
              refine' wpAnyZ_take (i := 12) (oi := ?o51) (v := _) (by kernel_rfl) (by simp only [List.getElem?_toArray, List.getElem?_cons_succ, List.getElem?_cons_zero]; rfl) (by kernel_rfl) (by kernel_rfl) (by kernel_rfl) (fun _ _ _ h => h) (Or.inl ⟨by rfl, ?y51⟩) (by assumption) ?r51
              case y51 =>
                intro wS hSw
                try dsimp only at hSw
                go_simp
                all_goals with_reducible rfl
              simp only [Act.put, List.setIfInBounds_toArray, List.set_cons_zero, List.set_cons_succ]
              refine' wpAnyZ_take (i := 15) (oi := ?o52) (v := _) (by kernel_rfl) (by simp only [List.getElem?_toArray, List.getElem?_cons_succ, List.getElem?_cons_zero]; rfl) (by kernel_rfl) (by kernel_rfl) (by kernel_rfl) (fun _ _ _ h => h) (Or.inl ⟨by rfl, ?y52⟩) (by assumption) ?r52
              case y52 =>
                intro wS hSw
                try dsimp only at hSw
                go_simp
                all_goals with_reducible rfl
              simp only [Act.put, List.setIfInBounds_toArray, List.set_cons_zero, List.set_cons_succ]
              refine' wpAnyZ_take (i := 16) (oi := ?o53) (v := _) (by kernel_rfl) (by simp only [List.getElem?_toArray, List.getElem?_cons_succ, List.getElem?_cons_zero]; rfl) (by kernel_rfl) (by kernel_rfl) (by kernel_rfl) (fun _ _ _ h => h) (Or.inl ⟨by rfl, ?y53⟩) (by assumption) ?r53
              case y53 =>
                intro wS hSw
                try dsimp only at hSw
                go_simp
                all_goals with_reducible rfl
              simp only [Act.put, List.setIfInBounds_toArray, List.set_cons_zero, List.set_cons_succ]
              refine' wpAnyZ_take (i := 17) (oi := ?o54) (v := _) (by kernel_rfl) (by simp only [List.getElem?_toArray, List.getElem?_cons_succ, List.getElem?_cons_zero]; rfl) (by kernel_rfl) (by kernel_rfl) (by kernel_rfl) (fun _ _ _ h => h) (Or.inl ⟨by rfl, ?y54⟩) (by assumption) ?r54
              case y54 =>
                intro wS hSw
                try dsimp only at hSw
                go_simp
                all_goals with_reducible rfl
              simp only [Act.put, List.setIfInBounds_toArray, List.set_cons_zero, List.set_cons_succ]
              refine' wpAnyZ_take (i := 18) (oi := ?o55) (v := _) (by kernel_rfl) (by simp only [List.getElem?_toArray, List.getElem?_cons_succ, List.getElem?_cons_zero]; rfl) (by kernel_rfl) (by kernel_rfl) (by kernel_rfl) (fun _ _ _ h => h) (Or.inl ⟨by rfl, ?y55⟩) (by assumption) ?r55
              case y55 =>
                intro wS hSw
                try dsimp only at hSw
                go_simp
                all_goals with_reducible rfl
              simp only [Act.put, List.setIfInBounds_toArray, List.set_cons_zero, List.set_cons_succ]
              refine' wpAnyZ_take (i := 19) (oi := ?o56) (v := _) (by kernel_rfl) (by simp only [List.getElem?_toArray, List.getElem?_cons_succ, List.getElem?_cons_zero]; rfl) (by kernel_rfl) (by kernel_rfl) (by kernel_rfl) (fun _ _ _ h => h) (Or.inl ⟨by rfl, ?y56⟩) (by assumption) ?r56
              case y56 =>
                intro wS hSw
                try dsimp only at hSw
                go_simp
                all_goals with_reducible rfl
              simp only [Act.put, List.setIfInBounds_toArray, List.set_cons_zero, List.set_cons_succ]
              refine' wpAnyZ_take (i := 20) (oi := ?o57) (v := vD) (by kernel_rfl) (by simp only [List.getElem?_toArray, List.getElem?_cons_succ, List.getElem?_cons_zero]; rfl) (by kernel_rfl) (by kernel_rfl) (by kernel_rfl) (fun _ _ _ h => h) (Or.inl ⟨by rfl, fun wS hSw => by rw [HVD.out]; exact exec_dropS (.tmp 95) (.tmp 96) 25 2 (by rfl) Tryz.underlying25 1 sizeI64 (av) T.length cv T.length (by rfl) (by rfl) (by omega)⟩) (by assumption) ?r57
              simp only [Act.put, List.setIfInBounds_toArray, List.set_cons_zero, List.set_cons_succ]
              refine wpAnyZ_ready (rs := [1, 13]) (by kernel_rfl) (by simp) ?_
              refine' AllZ.cons (o := ?o79) (by simp only [List.getElem?_toArray, List.getElem?_cons_succ, List.getElem?_cons_zero]; rfl) (fun K hK => ?s79) ?m79
              rotate_left
              · refine' AllZ.cons (o := ?o80) (by simp only [List.getElem?_toArray, List.getElem?_cons_succ, List.getElem?_cons_zero]; rfl) (fun K hK => ?s80) ?m80
                case m80 => exact AllZ.nil
                go_simp
                refine hK.out _ _ ?_ (fun hHeld => ?_)
                · exact HSS.out _ (by repeat first | exact Grow.rfl' _ | exact HGb.out | exact HGa.out | apply Grow.drewd | apply Grow.allocd)
                clear hK K
                try simp only [Act.put, List.setIfInBounds_toArray, List.set_cons_zero, List.set_cons_succ]
                refine wpAnyZ_ready (rs := [1]) (by kernel_rfl) (by simp) ?_
                refine' AllZ.cons (o := ?o72) (by simp only [List.getElem?_toArray, List.getElem?_cons_succ, List.getElem?_cons_zero]; rfl) (fun K hK => ?s72) ?m72
                case m72 => exact AllZ.nil
                go_simp
                refine hK.out _ _ ?_ (fun hHeld => ?_)
                · exact HSS.out _ (by repeat first | exact Grow.rfl' _ | exact HGb.out | exact HGa.out | apply Grow.drewd | apply Grow.allocd)
                clear hK K
                try simp only [Act.put, List.setIfInBounds_toArray, List.set_cons_zero, List.set_cons_succ]
                refine wpAnyZ_ready (rs := [8]) (by kernel_rfl) (by simp) ?_
                refine' AllZ.cons (o := ?o73) (by simp only [List.getElem?_toArray, List.getElem?_cons_succ, List.getElem?_cons_zero]; rfl) (fun K hK => ?s73) ?m73
                case m73 => exact AllZ.nil
                refine step_append_L rfl (.tmp 78) (.tmp 84) 25 rfl rowInt64 Tryz.underlying25 wi.heap.size _ (by first | rfl | simp [Act.eval]) _ (by first | rfl | simp [Act.eval]) (T.take T.length) (HTK.out _ (by repeat first | exact Grow.rfl' _ | exact HGb.out | exact HGa.out | apply Grow.drewd | apply Grow.allocd)) idOk64 (by first | (simp; done) | (simp; omega)) (by have := HLT.out; first | (simp; done) | (simp; unfold maxLen; omega) | (simp [maxLen]; done) | (simp [maxLen]; omega)) (by have := HLT.out; first | (simp; done) | (simp; omega)) ?_
                intro v5 w5 k1 k2
                have H5 := Lib.hid k1; have HK5 := Lib.hid k2; have HGa := Lib.hid (show Grow wi w5 from Grow.step (by repeat first | exact Grow.rfl' _ | exact HGb.out | exact HGa.out | apply Grow.drewd | apply Grow.allocd) k2)
                clear k1 k2
                refine hK.out _ _ ?_ (fun hHeld => ?_)
                · exact HSS.out _ (by repeat first | exact Grow.rfl' _ | exact HGb.out | exact HGa.out | apply Grow.drewd | apply Grow.allocd)
                clear hK K
                try simp only [Act.put, List.setIfInBounds_toArray, List.set_cons_zero, List.set_cons_succ]
                refine wpAnyZ_ready (rs := [14]) (by kernel_rfl) (by simp) ?_
                refine' AllZ.cons (o := ?o74) (by simp only [List.getElem?_toArray, List.getElem?_cons_succ, List.getElem?_cons_zero]; rfl) (fun K hK => ?s74) ?m74
                case m74 => exact AllZ.nil
                refine step_append_R rfl (.tmp 85) (.tmp 90) 25 rfl rowInt64 Tryz.underlying25 wi.heap.size _ (T.take T.length) (by first | rfl | simp [Act.eval]) H5.out (x) [Value.int .i64 x] rfl rfl (one1I64 _) _ (by first | rfl | simp [Act.eval]) (rdB64 ((HK5.out.heapEq (by first | (simp; done) | (simp; omega))).trans (boxAt0b _ _ _))) (by have := HGa.out.size; simp; omega) (by have := HLT.out; first | (simp; done) | (simp; unfold maxLen; omega) | (simp [maxLen]; done) | (simp [maxLen]; omega)) (by have := HLT.out; first | (simp; done) | (simp; omega)) ?_
                intro v6 w6 k1 k2 k3
                have H6 := Lib.hid k1; have HGb := Lib.hid (show Grow wi w6 from Grow.since (by repeat first | exact Grow.rfl' _ | exact HGb.out | exact HGa.out | apply Grow.drewd | apply Grow.allocd) k2 (Nat.le_refl _))
                clear k1 k2 k3
                refine hK.out _ _ ?_ (fun hHeld => ?_)
                · exact HSS.out _ (by repeat first | exact Grow.rfl' _ | exact HGb.out | exact HGa.out | apply Grow.drewd | apply Grow.allocd)
                clear hK K
                try simp only [Act.put, List.setIfInBounds_toArray, List.set_cons_zero, List.set_cons_succ]
                refine wpAnyZ_ready (rs := [21]) (by kernel_rfl) (by simp) ?_
                refine' AllZ.cons (o := ?o75) (by simp only [List.getElem?_toArray, List.getElem?_cons_succ, List.getElem?_cons_zero]; rfl) (fun K hK => ?s75) ?m75
                case m75 => exact AllZ.nil
                refine step_append_M rfl (.tmp 91) (.tmp 97) 25 rfl rowInt64 Tryz.underlying25 wi.heap.size _ (T.take T.length ++ [x]) (by first | rfl | simp [Act.eval]) H6.out _ (by first | rfl | (simp [Act.eval]; done) | (simp [Act.eval]; intros; omega)) (T.drop T.length) (HDK.out _ HGb.out) idOk64 HGb.out.size (by have := HLT.out; first | (simp; done) | (simp; unfold maxLen; omega) | (simp [maxLen]; done) | (simp [maxLen]; omega)) (by have := HLT.out; first | (simp; done) | (simp; omega)) ?_
                intro v7 w7 k1 k2 k3
                have H7 := Lib.hid k1; have HG7 := Lib.hid (show Grow wi w7 from Grow.since HGb.out k2 (Nat.le_refl _))
                clear k1 k2 k3
                refine hK.out _ _ ?_ (fun hHeld => ?_)
                · exact HSS.out _ HG7.out
                clear hK K
                try simp only [Act.put, List.setIfInBounds_toArray, List.set_cons_zero, List.set_cons_succ]
                refine wpAnyZ_ready (rs := [22]) (by kernel_rfl) (by simp) ?_
                refine' AllZ.cons (o := ?o76) (by simp only [List.getElem?_toArray, List.getElem?_cons_succ, List.getElem?_cons_zero]; rfl) (fun K hK => ?s76) ?m76
                case m76 => exact AllZ.nil
                go_simp
                refine hK.out _ _ ?_ (fun hHeld => ?_)
                · exact HSS.out _ HG7.out
                clear hK K
                try simp only [Act.put, List.setIfInBounds_toArray, List.set_cons_zero, List.set_cons_succ]
                refine wpAnyZ_ready (rs := [23]) (by kernel_rfl) (by simp) ?_
                refine' AllZ.cons (o := ?o77) (by simp only [List.getElem?_toArray, List.getElem?_cons_succ, List.getElem?_cons_zero]; rfl) (fun K hK => ?s77) ?m77
                case m77 => exact AllZ.nil
                go_simp
                refine hK.out _ _ ?_ (fun hHeld => ?_)
                · exact HSS.out _ HG7.out
                clear hK K
                try simp only [Act.put, List.setIfInBounds_toArray, List.set_cons_zero, List.set_cons_succ]
                obtain ⟨_, _, _, _, _⟩ : True ∧ True ∧ True ∧ True ∧ True := ⟨trivial, trivial, trivial, trivial, trivial⟩
                obtain ⟨aN, cN, rfl, -, -⟩ := SlR.open H7.out.toR
                have HB7 := Lib.hid ((HG7.out.heapEq hbi).trans HBI.out)
                obtain ⟨-, -, -, e10⟩ := rjobB_of HB7.out
                have f10 := rjobFroz HB7.out 10
                have HMD := Lib.hid (show Mod (fun b => b = B) w w7 from HGR.out.step (Mod.of_grow (HGI.out.step HG7.out)))
                have HSET := Lib.hid ((RJobOk.setTch (S := fun b => S b ∨ w.heap.size ≤ b) (S' := fun b => S b ∨ w.heap.size ≤ b) (HJI.out.grow HG7.out) (.slice aN (T.take T.length ++ [x] ++ T.drop T.length).length cN) (T.take T.length ++ [x] ++ T.drop T.length) (SlR.sub H7.out.toR (fun b hb => ⟨.inr (by have := HWS.out; have := HGI.out.size; omega), by omega⟩) (fun _ _ _ h => h)) (fun _ h => h)))
                rw [← HPUT.out] at *
                refine wpAnyZ_ready (rs := [24]) (by kernel_rfl) (by simp) ?_
                refine' AllZ.last (o := ?o78) (by simp only [List.getElem?_toArray, List.getElem?_cons_succ, List.getElem?_cons_zero]; rfl) (fun K hK => ?s78)
                go_simp
                refine hK.out _ _ ?_
                clear hK K
                try simp only [Act.put, List.setIfInBounds_toArray, List.set_cons_zero, List.set_cons_succ]
                refine wpAnyZ_done (by kernel_rfl) ?_ _
                refine NoPanic.normal ?_
                go_wp2
                go_roundg (l.length - (i + 1))
                case measure => omega
                case rel => exact ⟨i + 1, by omega, rfl, by go_num, by rw [HTL.out, HTJ.out]; exact HSET.out.1, HMD.out.step HSET.out.2⟩
              go_simp
              refine hK.out _ _ ?_ (fun hHeld => ?_)
              · exact HSS.out _ (by repeat first | exact Grow.rfl' _ | exact HGb.out | exact HGa.out | apply Grow.drewd | apply Grow.allocd)
              clear hK K
              try simp only [Act.put, List.setIfInBounds_toArray, List.set_cons_zero, List.set_cons_succ]
              refine wpAnyZ_ready (rs := [8, 13]) (by kernel_rfl) (by simp) ?_
              refine' AllZ.cons (o := ?o70) (by simp only [List.getElem?_toArray, List.getElem?_cons_succ, List.getElem?_cons_zero]; rfl) (fun K hK => ?s70) ?m70
              rotate_left
              · refine' AllZ.cons (o := ?o71) (by simp only [List.getElem?_toArray, List.getElem?_cons_succ, List.getElem?_cons_zero]; rfl) (fun K hK => ?s71) ?m71
                case m71 => exact AllZ.nil
                go_simp
                refine hK.out _ _ ?_ (fun hHeld => ?_)
                · exact HSS.out _ (by repeat first | exact Grow.rfl' _ | exact HGb.out | exact HGa.out | apply Grow.drewd | apply Grow.allocd)
                clear hK K
                try simp only [Act.put, List.setIfInBounds_toArray, List.set_cons_zero, List.set_cons_succ]
                refine wpAnyZ_ready (rs := [8]) (by kernel_rfl) (by simp) ?_
                refine' AllZ.cons (o := ?o64) (by simp only [List.getElem?_toArray, List.getElem?_cons_succ, List.getElem?_cons_zero]; rfl) (fun K hK => ?s64) ?m64
                case m64 => exact AllZ.nil
                refine step_append_L rfl (.tmp 78) (.tmp 84) 25 rfl rowInt64 Tryz.underlying25 wi.heap.size _ (by first | rfl | simp [Act.eval]) _ (by first | rfl | simp [Act.eval]) (T.take T.length) (HTK.out _ (by repeat first | exact Grow.rfl' _ | exact HGb.out | exact HGa.out | apply Grow.drewd | apply Grow.allocd)) idOk64 (by first | (simp; done) | (simp; omega)) (by have := HLT.out; first | (simp; done) | (simp; unfold maxLen; omega) | (simp [maxLen]; done) | (simp [maxLen]; omega)) (by have := HLT.out; first | (simp; done) | (simp; omega)) ?_
                intro v5 w5 k1 k2
                have H5 := Lib.hid k1; have HK5 := Lib.hid k2; have HGa := Lib.hid (show Grow wi w5 from Grow.step (by repeat first | exact Grow.rfl' _ | exact HGb.out | exact HGa.out | apply Grow.drewd | apply Grow.allocd) k2)
                clear k1 k2
                refine hK.out _ _ ?_ (fun hHeld => ?_)
                · exact HSS.out _ (by repeat first | exact Grow.rfl' _ | exact HGb.out | exact HGa.out | apply Grow.drewd | apply Grow.allocd)
                clear hK K
                try simp only [Act.put, List.setIfInBounds_toArray, List.set_cons_zero, List.set_cons_succ]
                refine wpAnyZ_ready (rs := [14]) (by kernel_rfl) (by simp) ?_
                refine' AllZ.cons (o := ?o65) (by simp only [List.getElem?_toArray, List.getElem?_cons_succ, List.getElem?_cons_zero]; rfl) (fun K hK => ?s65) ?m65
                case m65 => exact AllZ.nil
                refine step_append_R rfl (.tmp 85) (.tmp 90) 25 rfl rowInt64 Tryz.underlying25 wi.heap.size _ (T.take T.length) (by first | rfl | simp [Act.eval]) H5.out (x) [Value.int .i64 x] rfl rfl (one1I64 _) _ (by first | rfl | simp [Act.eval]) (rdB64 ((HK5.out.heapEq (by first | (simp; done) | (simp; omega))).trans (boxAt1b _ _ _))) (by have := HGa.out.size; simp; omega) (by have := HLT.out; first | (simp; done) | (simp; unfold maxLen; omega) | (simp [maxLen]; done) | (simp [maxLen]; omega)) (by have := HLT.out; first | (simp; done) | (simp; omega)) ?_
                intro v6 w6 k1 k2 k3
                have H6 := Lib.hid k1; have HGb := Lib.hid (show Grow wi w6 from Grow.since (by repeat first | exact Grow.rfl' _ | exact HGb.out | exact HGa.out | apply Grow.drewd | apply Grow.allocd) k2 (Nat.le_refl _))
                clear k1 k2 k3
                refine hK.out _ _ ?_ (fun hHeld => ?_)
                · exact HSS.out _ (by repeat first | exact Grow.rfl' _ | exact HGb.out | exact HGa.out | apply Grow.drewd | apply Grow.allocd)
                clear hK K
                try simp only [Act.put, List.setIfInBounds_toArray, List.set_cons_zero, List.set_cons_succ]
                refine wpAnyZ_ready (rs := [21]) (by kernel_rfl) (by simp) ?_
                refine' AllZ.cons (o := ?o66) (by simp only [List.getElem?_toArray, List.getElem?_cons_succ, List.getElem?_cons_zero]; rfl) (fun K hK => ?s66) ?m66
                case m66 => exact AllZ.nil
                refine step_append_M rfl (.tmp 91) (.tmp 97) 25 rfl rowInt64 Tryz.underlying25 wi.heap.size _ (T.take T.length ++ [x]) (by first | rfl | simp [Act.eval]) H6.out _ (by first | rfl | (simp [Act.eval]; done) | (simp [Act.eval]; intros; omega)) (T.drop T.length) (HDK.out _ HGb.out) idOk64 HGb.out.size (by have := HLT.out; first | (simp; done) | (simp; unfold maxLen; omega) | (simp [maxLen]; done) | (simp [maxLen]; omega)) (by have := HLT.out; first | (simp; done) | (simp; omega)) ?_
                intro v7 w7 k1 k2 k3
                have H7 := Lib.hid k1; have HG7 := Lib.hid (show Grow wi w7 from Grow.since HGb.out k2 (Nat.le_refl _))
                clear k1 k2 k3
                refine hK.out _ _ ?_ (fun hHeld => ?_)
                · exact HSS.out _ HG7.out
                clear hK K
                try simp only [Act.put, List.setIfInBounds_toArray, List.set_cons_zero, List.set_cons_succ]
                refine wpAnyZ_ready (rs := [22]) (by kernel_rfl) (by simp) ?_
                refine' AllZ.cons (o := ?o67) (by simp only [List.getElem?_toArray, List.getElem?_cons_succ, List.getElem?_cons_zero]; rfl) (fun K hK => ?s67) ?m67
                case m67 => exact AllZ.nil
                go_simp
                refine hK.out _ _ ?_ (fun hHeld => ?_)
                · exact HSS.out _ HG7.out
                clear hK K
                try simp only [Act.put, List.setIfInBounds_toArray, List.set_cons_zero, List.set_cons_succ]
                refine wpAnyZ_ready (rs := [23]) (by kernel_rfl) (by simp) ?_
                refine' AllZ.cons (o := ?o68) (by simp only [List.getElem?_toArray, List.getElem?_cons_succ, List.getElem?_cons_zero]; rfl) (fun K hK => ?s68) ?m68
                case m68 => exact AllZ.nil
                go_simp
                refine hK.out _ _ ?_ (fun hHeld => ?_)
                · exact HSS.out _ HG7.out
                clear hK K
                try simp only [Act.put, List.setIfInBounds_toArray, List.set_cons_zero, List.set_cons_succ]
                obtain ⟨_, _, _, _, _⟩ : True ∧ True ∧ True ∧ True ∧ True := ⟨trivial, trivial, trivial, trivial, trivial⟩
                obtain ⟨aN, cN, rfl, -, -⟩ := SlR.open H7.out.toR
                have HB7 := Lib.hid ((HG7.out.heapEq hbi).trans HBI.out)
                obtain ⟨-, -, -, e10⟩ := rjobB_of HB7.out
                have f10 := rjobFroz HB7.out 10
                have HMD := Lib.hid (show Mod (fun b => b = B) w w7 from HGR.out.step (Mod.of_grow (HGI.out.step HG7.out)))
                have HSET := Lib.hid ((RJobOk.setTch (S := fun b => S b ∨ w.heap.size ≤ b) (S' := fun b => S b ∨ w.heap.size ≤ b) (HJI.out.grow HG7.out) (.slice aN (T.take T.length ++ [x] ++ T.drop T.length).length cN) (T.take T.length ++ [x] ++ T.drop T.length) (SlR.sub H7.out.toR (fun b hb => ⟨.inr (by have := HWS.out; have := HGI.out.size; omega), by omega⟩) (fun _ _ _ h => h)) (fun _ h => h)))
                rw [← HPUT.out] at *
                refine wpAnyZ_ready (rs := [24]) (by kernel_rfl) (by simp) ?_
                refine' AllZ.last (o := ?o69) (by simp only [List.getElem?_toArray, List.getElem?_cons_succ, List.getElem?_cons_zero]; rfl) (fun K hK => ?s69)
                go_simp
                refine hK.out _ _ ?_
                clear hK K
                try simp only [Act.put, List.setIfInBounds_toArray, List.set_cons_zero, List.set_cons_succ]
                refine wpAnyZ_done (by kernel_rfl) ?_ _
                refine NoPanic.normal ?_
                go_wp2
                go_roundg (l.length - (i + 1))
                case measure => omega
                case rel => exact ⟨i + 1, by omega, rfl, by go_num, by rw [HTL.out, HTJ.out]; exact HSET.out.1, HMD.out.step HSET.out.2⟩
              refine step_append_L rfl (.tmp 78) (.tmp 84) 25 rfl rowInt64 Tryz.underlying25 wi.heap.size _ (by first | rfl | simp [Act.eval]) _ (by first | rfl | simp [Act.eval]) (T.take T.length) (HTK.out _ (by repeat first | exact Grow.rfl' _ | exact HGb.out | exact HGa.out | apply Grow.drewd | apply Grow.allocd)) idOk64 (by first | (simp; done) | (simp; omega)) (by have := HLT.out; first | (simp; done) | (simp; unfold maxLen; omega) | (simp [maxLen]; done) | (simp [maxLen]; omega)) (by have := HLT.out; first | (simp; done) | (simp; omega)) ?_
              intro v5 w5 k1 k2
              have H5 := Lib.hid k1; have HK5 := Lib.hid k2; have HGa := Lib.hid (show Grow wi w5 from Grow.step (by repeat first | exact Grow.rfl' _ | exact HGb.out | exact HGa.out | apply Grow.drewd | apply Grow.allocd) k2)
              clear k1 k2
              refine hK.out _ _ ?_ (fun hHeld => ?_)
              · exact HSS.out _ (by repeat first | exact Grow.rfl' _ | exact HGb.out | exact HGa.out | apply Grow.drewd | apply Grow.allocd)
              clear hK K
              try simp only [Act.put, List.setIfInBounds_toArray, List.set_cons_zero, List.set_cons_succ]
              refine wpAnyZ_ready (rs := [13]) (by kernel_rfl) (by simp) ?_
              refine' AllZ.cons (o := ?o58) (by simp only [List.getElem?_toArray, List.getElem?_cons_succ, List.getElem?_cons_zero]; rfl) (fun K hK => ?s58) ?m58
              case m58 => exact AllZ.nil
              go_simp
              refine hK.out _ _ ?_ (fun hHeld => ?_)
              · exact HSS.out _ (by repeat first | exact Grow.rfl' _ | exact HGb.out | exact HGa.out | apply Grow.drewd | apply Grow.allocd)
              clear hK K
              try simp only [Act.put, List.setIfInBounds_toArray, List.set_cons_zero, List.set_cons_succ]
              refine wpAnyZ_ready (rs := [14]) (by kernel_rfl) (by simp) ?_
              refine' AllZ.cons (o := ?o59) (by simp only [List.getElem?_toArray, List.getElem?_cons_succ, List.getElem?_cons_zero]; rfl) (fun K hK => ?s59) ?m59
              case m59 => exact AllZ.nil
              refine step_append_R rfl (.tmp 85) (.tmp 90) 25 rfl rowInt64 Tryz.underlying25 wi.heap.size _ (T.take T.length) (by first | rfl | simp [Act.eval]) (H5.out.grow ((Grow.rfl' _).allocd _)) (x) [Value.int .i64 x] rfl rfl (one1I64 _) _ (by first | rfl | simp [Act.eval]) (rdK _ _ _ 1 rfl rfl) (by have := HGa.out.size; simp; omega) (by have := HLT.out; first | (simp; done) | (simp; unfold maxLen; omega) | (simp [maxLen]; done) | (simp [maxLen]; omega)) (by have := HLT.out; first | (simp; done) | (simp; omega)) ?_
              intro v6 w6 k1 k2 k3
              have H6 := Lib.hid k1; have HGb := Lib.hid (show Grow wi w6 from Grow.since (by repeat first | exact Grow.rfl' _ | exact HGb.out | exact HGa.out | apply Grow.drewd | apply Grow.allocd) k2 (Nat.le_refl _))
              clear k1 k2 k3
              refine hK.out _ _ ?_ (fun hHeld => ?_)
              · exact HSS.out _ (by repeat first | exact Grow.rfl' _ | exact HGb.out | exact HGa.out | apply Grow.drewd | apply Grow.allocd)
              clear hK K
              try simp only [Act.put, List.setIfInBounds_toArray, List.set_cons_zero, List.set_cons_succ]
              refine wpAnyZ_ready (rs := [21]) (by kernel_rfl) (by simp) ?_
              refine' AllZ.cons (o := ?o60) (by simp only [List.getElem?_toArray, List.getElem?_cons_succ, List.getElem?_cons_zero]; rfl) (fun K hK => ?s60) ?m60
              case m60 => exact AllZ.nil
              refine step_append_M rfl (.tmp 91) (.tmp 97) 25 rfl rowInt64 Tryz.underlying25 wi.heap.size _ (T.take T.length ++ [x]) (by first | rfl | simp [Act.eval]) H6.out _ (by first | rfl | (simp [Act.eval]; done) | (simp [Act.eval]; intros; omega)) (T.drop T.length) (HDK.out _ HGb.out) idOk64 HGb.out.size (by have := HLT.out; first | (simp; done) | (simp; unfold maxLen; omega) | (simp [maxLen]; done) | (simp [maxLen]; omega)) (by have := HLT.out; first | (simp; done) | (simp; omega)) ?_
              intro v7 w7 k1 k2 k3
              have H7 := Lib.hid k1; have HG7 := Lib.hid (show Grow wi w7 from Grow.since HGb.out k2 (Nat.le_refl _))
              clear k1 k2 k3
              refine hK.out _ _ ?_ (fun hHeld => ?_)
              · exact HSS.out _ HG7.out
              clear hK K
              try simp only [Act.put, List.setIfInBounds_toArray, List.set_cons_zero, List.set_cons_succ]
              refine wpAnyZ_ready (rs := [22]) (by kernel_rfl) (by simp) ?_
              refine' AllZ.cons (o := ?o61) (by simp only [List.getElem?_toArray, List.getElem?_cons_succ, List.getElem?_cons_zero]; rfl) (fun K hK => ?s61) ?m61
              case m61 => exact AllZ.nil
              go_simp
              refine hK.out _ _ ?_ (fun hHeld => ?_)
              · exact HSS.out _ HG7.out
              clear hK K
              try simp only [Act.put, List.setIfInBounds_toArray, List.set_cons_zero, List.set_cons_succ]
              refine wpAnyZ_ready (rs := [23]) (by kernel_rfl) (by simp) ?_
              refine' AllZ.cons (o := ?o62) (by simp only [List.getElem?_toArray, List.getElem?_cons_succ, List.getElem?_cons_zero]; rfl) (fun K hK => ?s62) ?m62
              case m62 => exact AllZ.nil
              go_simp
              refine hK.out _ _ ?_ (fun hHeld => ?_)
              · exact HSS.out _ HG7.out
              clear hK K
              try simp only [Act.put, List.setIfInBounds_toArray, List.set_cons_zero, List.set_cons_succ]
              obtain ⟨_, _, _, _, _⟩ : True ∧ True ∧ True ∧ True ∧ True := ⟨trivial, trivial, trivial, trivial, trivial⟩
              obtain ⟨aN, cN, rfl, -, -⟩ := SlR.open H7.out.toR
              have HB7 := Lib.hid ((HG7.out.heapEq hbi).trans HBI.out)
              obtain ⟨-, -, -, e10⟩ := rjobB_of HB7.out
              have f10 := rjobFroz HB7.out 10
              have HMD := Lib.hid (show Mod (fun b => b = B) w w7 from HGR.out.step (Mod.of_grow (HGI.out.step HG7.out)))
              have HSET := Lib.hid ((RJobOk.setTch (S := fun b => S b ∨ w.heap.size ≤ b) (S' := fun b => S b ∨ w.heap.size ≤ b) (HJI.out.grow HG7.out) (.slice aN (T.take T.length ++ [x] ++ T.drop T.length).length cN) (T.take T.length ++ [x] ++ T.drop T.length) (SlR.sub H7.out.toR (fun b hb => ⟨.inr (by have := HWS.out; have := HGI.out.size; omega), by omega⟩) (fun _ _ _ h => h)) (fun _ h => h)))
              rw [← HPUT.out] at *
              refine wpAnyZ_ready (rs := [24]) (by kernel_rfl) (by simp) ?_
              refine' AllZ.last (o := ?o63) (by simp only [List.getElem?_toArray, List.getElem?_cons_succ, List.getElem?_cons_zero]; rfl) (fun K hK => ?s63)
              go_simp
              refine hK.out _ _ ?_
              clear hK K
              try simp only [Act.put, List.setIfInBounds_toArray, List.set_cons_zero, List.set_cons_succ]
              refine wpAnyZ_done (by kernel_rfl) ?_ _
              refine NoPanic.normal ?_
              go_wp2
              go_roundg (l.length - (i + 1))
              case measure => omega
              case rel => exact ⟨i + 1, by omega, rfl, by go_num, by rw [HTL.out, HTJ.out]; exact HSET.out.1, HMD.out.step HSET.out.2⟩
    · obtain rfl : i = l.length := by omega
      rw [List.take_length] at hj
      have HJK := Lib.hid hj
      clear hj hgr
      go_wp2
      go_end0
      exact ⟨rfl, HJK.out, HGR.out⟩
end Go.Hg
