/- hedgerowlaw17.GraphFull: true. No condition. Printed by genfull.py. -/
import Derived.Test.YtcokiflkjnekeaaLawB
import Derived.Test.YtcokiflkjnekeaaFullP
namespace Go.Hg
open Go.RowKit Go.Proofs

theorem step_no {c : PCat} {o : POp} {G : PGraph} {m : Int} (h : mayG c o G = m) (hm : m ≠ 0) : stepG c o G = G := by
  unfold stepG
  rw [if_neg (by rw [h]; exact hm)]
theorem full_step1 : stepG typesC manOp (fullN 1024) = fullN 1024 := step_no full_may (by decide)
theorem full_step2 : stepG typesC knowsOp (fullN 1024) = fullN 1024 := step_no full_may2 (by decide)
theorem last_inv : GInv lastG := goodG_inv last_good
theorem last_inv2 : GInv lastG2 := last_step ▸ last_inv.stepG

set_option maxRecDepth 100000 in
set_option maxHeartbeats 8000000 in
theorem lawFull (n : Nat) (hn : n < 256) (w : World) : Calls Try.prog 7 #[.int .u8 n] w fun e w' => e = .returned (.bool true) ∧ Grow w w' := by
  go_enter Try.func7, Try.ntmps7
  go_wp2_with fail
  refine (graphNew _).mono ?_
  rintro e w1 ⟨B, rfl, hgr, hg⟩
  have HGR := Lib.hid hgr; have HG := Lib.hid hg
  clear hgr hg
  go_wp2
  go_loopg [4] 1024 (fun g i wr => ∃ k : Nat, k ≤ 1024 ∧ g = 1024 - k ∧ i = .int .i64 k ∧ GraphOk 81 (fun b => w.heap.size ≤ b) wr B (fullN k) ∧ Grow w wr)
  case atStart => exact ⟨0, by omega, by omega, rfl, HGR.out, HG.out⟩
  case round =>
    obtain ⟨k, hk, rfl, rfl, hgr, hg⟩ := hrel
    have HGR1 := Lib.hid hgr; have HG1 := Lib.hid hg
    clear hgr hg HGR HG
    by_cases hkl : k < 1024
    · have hw1 : IntKind.i64.wrap ((k : Int) + 1) = (k : Int) + 1 := by rw [IntKind.wrap_i64]; omega
      go_wp2_with fail
      refine (lawTypes _).mono ?_
      rintro e wt0 ⟨nv, ev, rfl, hc, hg⟩
      have HC := Lib.hid hc; have HGRT := Lib.hid (HGR1.out.grow hg); have HGT := Lib.hid (HG1.out.step hg)
      obtain ⟨na, nc, ea, ec, ra, rc, ia, ic, rfl, rfl, hr, hi⟩ := hc.slices
      clear hc hg HGR1 HG1 hr hi
      go_wp2_with fail
      refine (doOwn _ B (fullN k) _ _ _ _ typesC manOp w _ HGT.out HGRT.out (fullN_inv k hk) HC.out).mono ?_
      rintro e wd2 ⟨rfl, hgr, hg⟩
      rw [fullN_may hkl]
      rw [if_pos rfl, fullN_id]
      have HGR2 := Lib.hid (show GraphOk 81 (fun b => w.heap.size ≤ b) wd2 B (fullN (k + 1)) from fullN_step hkl ▸ hgr)
      have HG2 := Lib.hid hg
      clear hgr hg HGRT HGT HC
      go_wp2_with fail
      go_roundg (1024 - (k + 1))
      case measure => omega
      case rel => exact ⟨k + 1, by omega, rfl, by go_num, HGR2.out, HG2.out⟩
    · obtain rfl : k = 1024 := by omega
      clear hk hkl
      go_wp2_with fail
      refine (lawTypes _).mono ?_
      rintro e wt1 ⟨nv, ev, rfl, hc, hg⟩
      have HC := Lib.hid hc; have HGRT := Lib.hid (HGR1.out.grow hg); have HGT := Lib.hid (HG1.out.step hg)
      obtain ⟨na, nc, ea, ec, ra, rc, ia, ic, rfl, rfl, hr, hi⟩ := hc.slices
      clear hc hg HGR1 HG1 hr hi
      go_wp2_with fail
      refine (doOwn _ B (fullN 1024) _ _ _ _ typesC manOp w _ HGT.out HGRT.out (fullN_inv 1024 (Nat.le_refl _)) HC.out).mono ?_
      rintro e wd2 ⟨rfl, hgr, hg⟩
      rw [full_may]
      rw [if_neg (by decide)]
      have HGR2 := Lib.hid (show GraphOk 81 (fun b => w.heap.size ≤ b) wd2 B (fullN 1024) from full_step1 ▸ hgr)
      have HG2 := Lib.hid hg
      clear hgr hg HGRT HGT HC
      go_wp2_with fail
      refine (lawTypes _).mono ?_
      rintro e wt2 ⟨nv, ev, rfl, hc, hg⟩
      have HC := Lib.hid hc; have HGRT := Lib.hid (HGR2.out.grow hg); have HGT := Lib.hid (HG2.out.step hg)
      obtain ⟨na, nc, ea, ec, ra, rc, ia, ic, rfl, rfl, hr, hi⟩ := hc.slices
      clear hc hg HGR2 HG2 hr hi
      go_wp2_with fail
      refine (doOwn _ B (fullN 1024) _ _ _ _ typesC knowsOp w _ HGT.out HGRT.out (fullN_inv 1024 (Nat.le_refl _)) HC.out).mono ?_
      rintro e wd3 ⟨rfl, hgr, hg⟩
      rw [full_may2]
      rw [if_neg (by decide)]
      have HGR3 := Lib.hid (show GraphOk 81 (fun b => w.heap.size ≤ b) wd3 B (fullN 1024) from full_step2 ▸ hgr)
      have HG3 := Lib.hid hg
      clear hgr hg HGRT HGT HC
      go_wp2_with fail
      refine (lawTypes _).mono ?_
      rintro e wt3 ⟨nv, ev, rfl, hc, hg⟩
      have HC := Lib.hid hc; have HGRT := Lib.hid (HGR3.out.grow hg); have HGT := Lib.hid (HG3.out.step hg)
      obtain ⟨na, nc, ea, ec, ra, rc, ia, ic, rfl, rfl, hr, hi⟩ := hc.slices
      clear hc hg HGR3 HG3 hr hi
      have hgo : IntKind.i64.wrap (1 + (n : Int)) = (n : Int) + 1 := by rw [IntKind.wrap_i64]; omega
      go_wp2_with fail
      refine (doOwn _ B (fullN 1024) _ _ _ _ typesC (goOp ((n : Int) + 1)) w _ HGT.out HGRT.out (fullN_inv 1024 (Nat.le_refl _)) HC.out).mono ?_
      rintro e wd4 ⟨rfl, hgr, hg⟩
      rw [full_may3 (by omega)]
      rw [if_pos rfl, show idG (goOp ((n : Int) + 1)) (fullN 1024) = 0 from rfl]
      have HGR4 := Lib.hid (show GraphOk 81 (fun b => w.heap.size ≤ b) wd4 B (goneN n) from (show stepG typesC (goOp ((n : Int) + 1)) (fullN 1024) = goneN n from rfl) ▸ hgr)
      have HG4 := Lib.hid hg
      clear hgr hg HGRT HGT HC
      go_wp2_with fail
      refine (lawTypes _).mono ?_
      rintro e wt4 ⟨nv, ev, rfl, hc, hg⟩
      have HC := Lib.hid hc; have HGRT := Lib.hid (HGR4.out.grow hg); have HGT := Lib.hid (HG4.out.step hg)
      obtain ⟨na, nc, ea, ec, ra, rc, ia, ic, rfl, rfl, hr, hi⟩ := hc.slices
      clear hc hg HGR4 HG4 hr hi
      go_wp2_with fail
      refine (doOwn _ B (goneN n) _ _ _ _ typesC zooOp w _ HGT.out HGRT.out (gone_inv n) HC.out).mono ?_
      rintro e wd5 ⟨rfl, hgr, hg⟩
      rw [gone_may (by omega)]
      rw [if_pos rfl, gone_id (by omega)]
      have HGR5 := Lib.hid (show GraphOk 81 (fun b => w.heap.size ≤ b) wd5 B (stepG typesC zooOp (goneN n)) from (show stepG typesC zooOp (goneN n) = stepG typesC zooOp (goneN n) from rfl) ▸ hgr)
      have HG5 := Lib.hid hg
      clear hgr hg HGRT HGT HC
      go_wp2_with fail
      refine (graphNew _).mono ?_
      rintro e w6 ⟨K, rfl, hgr, hg⟩
      have HK := Lib.hid (hgr.sub (S' := fun b => w.heap.size ≤ b) (fun b hb => Nat.le_trans HG5.out.size hb)); have HGK := Lib.hid (HG5.out.step hg)
      clear hgr hg HGR5 HG5
      obtain ⟨nv0, ev0, R0, on0, oe0, hKb, hK2, -⟩ := HK.out
      have HKB := Lib.hid hKb; have HK2 := Lib.hid hK2
      clear hKb hK2
      go_wp2_with fail
      refine (graphLoad (fun _ => False) K _ _ _ [] [] 4611686018427387903 _ rfl HKB.out ((OwnL.nil _ 52 3 _).toSl (by simp)) ((OwnL.nil _ 56 5 _).toSl (by simp)) (by simp) (by simp)).mono ?_
      rintro e w7 h7
      obtain ⟨-, rfl, hgr, hg⟩ | ⟨h7, -⟩ := h7
      rotate_left
      · exact absurd last_good (by unfold lastG; rw [h7]; decide)
      have HGR6 := Lib.hid (show GraphOk 81 (fun b => w.heap.size ≤ b) w7 K lastG from hgr.sub (fun b hb => hb.elim (fun e => e ▸ HK2.out) (fun h => Nat.le_trans HGK.out.size h)))
      have HG6 := Lib.hid (HGK.out.modd hg (fun b hb => hb ▸ HK2.out))
      clear hgr hg HKB HK2 HK HGK
      go_wp2_with fail
      refine (lawTypes _).mono ?_
      rintro e wt6 ⟨nv, ev, rfl, hc, hg⟩
      have HC := Lib.hid hc; have HGRT := Lib.hid (HGR6.out.grow hg); have HGT := Lib.hid (HG6.out.step hg)
      obtain ⟨na, nc, ea, ec, ra, rc, ia, ic, rfl, rfl, hr, hi⟩ := hc.slices
      clear hc hg HGR6 HG6 hr hi
      go_wp2_with fail
      refine (doOwn _ K lastG _ _ _ _ typesC manOp w _ HGT.out HGRT.out last_inv HC.out).mono ?_
      rintro e wd7 ⟨rfl, hgr, hg⟩
      rw [last_may]
      rw [if_pos rfl, last_id]
      have HGR7 := Lib.hid (show GraphOk 81 (fun b => w.heap.size ≤ b) wd7 K lastG2 from last_step ▸ hgr)
      have HG7 := Lib.hid hg
      clear hgr hg HGRT HGT HC
      go_wp2_with fail
      refine (lawTypes _).mono ?_
      rintro e wt7 ⟨nv, ev, rfl, hc, hg⟩
      have HC := Lib.hid hc; have HGRT := Lib.hid (HGR7.out.grow hg); have HGT := Lib.hid (HG7.out.step hg)
      obtain ⟨na, nc, ea, ec, ra, rc, ia, ic, rfl, rfl, hr, hi⟩ := hc.slices
      clear hc hg HGR7 HG7 hr hi
      go_wp2_with fail
      refine (doOwn _ K lastG2 _ _ _ _ typesC manOp w _ HGT.out HGRT.out last_inv2 HC.out).mono ?_
      rintro e wd8 ⟨rfl, hgr, hg⟩
      rw [last_may2]
      rw [if_neg (by decide)]
      have HGR8 := Lib.hid (show GraphOk 81 (fun b => w.heap.size ≤ b) wd8 K lastG2 from (step_no last_may2 (by decide)) ▸ hgr)
      have HG8 := Lib.hid hg
      clear hgr hg HGRT HGT HC
      go_wp2_with fail
      refine (lawWakes _).mono ?_
      rintro e w9 ⟨rfl, hg9⟩
      have HG9 := Lib.hid (HG8.out.step hg9); clear hg9
      go_wp2
      go_ret
      exact ⟨rfl, HG9.out⟩
end Go.Hg
