/- hedgerowkeep.LargeValue, LargeOp; hedgerowlaw17.Fair, Types, wakes. No condition. -/
import Derived.Test.YtcokiflkjnekeaaGreatScan
import Derived.Test.YtcokiflkjnekeaaGreatMay
namespace Go.Hg
open Go.RowKit Go.Proofs

abbrev OpsR (S : Nat → Prop) (w : World) (v : Value) (l : List POp) : Prop := SlR S w 10 (fun o r => r = POp.cells o) v l
def largeV (v : PVal) : Bool := decide (5000 < v.s.size)
def largeO (o : POp) : Bool := decide (1000 < o.typ.size) || (decide (1000 < o.name.size) || largeV o.v)
def fairOps (l : List POp) : Bool := (l.all fun o => !largeO o) && decide (l.length ≤ 200)

set_option maxHeartbeats 400000 in
theorem keepLargeValue (v : PVal) (w : World) : Calls Tryz.prog 44 #[.agg #[.int .i64 v.kind, .int .i64 v.n, .string v.s]] w fun e w' => e = .returned (.bool (largeV v)) ∧ Grow w w' := by
  have HW := Lib.hid (show ∀ o1, Grow w (w.alloc o1) from fun o1 => (Grow.rfl' w).allocd o1)
  have hd : decide ((5000 : Int) < (v.s.size : Int)) = largeV v := by unfold largeV; by_cases h : 5000 < v.s.size <;> simp [h] <;> omega
  go_enter Tryz.func44, Tryz.ntmps44
  go_wp2
  go_ret
  exact ⟨by first | (rw [← hd]; rfl) | rfl, HW.out _⟩

set_option maxRecDepth 100000 in
set_option maxHeartbeats 1000000 in
theorem keepLargeOp (o : POp) (w : World) : Calls Tryz.prog 17 #[o.args] w fun e w' => e = .returned (.bool (largeO o)) ∧ Grow w w' := by
  have HW := Lib.hid (show ∀ o1, Grow w (w.alloc o1) from fun o1 => (Grow.rfl' w).allocd o1)
  have HX := Lib.hid (show largeO o = (decide (1000 < o.typ.size) || (decide (1000 < o.name.size) || largeV o.v)) from rfl)
  have hd1 : decide ((1000 : Int) < (o.typ.size : Int)) = decide (1000 < o.typ.size) := by by_cases h : 1000 < o.typ.size <;> simp [h] <;> omega
  have hd2 : decide ((1000 : Int) < (o.name.size : Int)) = decide (1000 < o.name.size) := by by_cases h : 1000 < o.name.size <;> simp [h] <;> omega
  cases q1 : decide (1000 < o.typ.size)
  · rw [q1] at hd1
    cases q2 : decide (1000 < o.name.size)
    · rw [q2] at hd2
      have HY := Lib.hid (show largeO o = largeV o.v by rw [HX.out, q1, q2]; rfl)
      clear q1 q2
      go_enter Tryz.func17, Tryz.ntmps17
      go_wp2_with fail
      refine (keepLargeValue o.v _).mono ?_
      rintro e w2 ⟨rfl, hg⟩
      have HG := Lib.hid ((HW.out _).step hg); clear hg
      go_wp2
      go_ret
      exact ⟨by rw [HY.out]; rfl, HG.out⟩
    · rw [q2] at hd2
      have HY := Lib.hid (show largeO o = true by rw [HX.out, q1, q2]; rfl)
      clear q1 q2
      go_enter Tryz.func17, Tryz.ntmps17
      go_wp2
      go_ret
      exact ⟨by rw [HY.out]; rfl, HW.out _⟩
  · rw [q1] at hd1
    have HY := Lib.hid (show largeO o = true by rw [HX.out, q1]; rfl)
    clear q1
    go_enter Tryz.func17, Tryz.ntmps17
    go_wp2
    go_ret
    exact ⟨by rw [HY.out]; rfl, HW.out _⟩

/-- an operation's cells, read -/
theorem opCells {w wr : World} {o : POp} {r : List Value} {b off : Nat} (h : r = o.cells) (hb : b < w.heap.size) (g : Grow w wr) (hc : ∀ (j : Nat) c, r[j]? = some c → w.cell? ⟨b, off + j, none⟩ = some c) :
    b < wr.heap.size ∧ wr.cell? ⟨b, off, none⟩ = some (.int .i64 o.kind) ∧ wr.cell? ⟨b, off + 1, none⟩ = some (.int .i64 o.id) ∧ wr.cell? ⟨b, off + 2, none⟩ = some (.string o.typ) ∧
    wr.cell? ⟨b, off + 3, none⟩ = some (.int .i64 o.from_) ∧ wr.cell? ⟨b, off + 4, none⟩ = some (.int .i64 o.to_) ∧ wr.cell? ⟨b, off + 5, none⟩ = some (.string o.name) ∧ wr.cell? ⟨b, off + 6, none⟩ = some (.int .i64 o.v.kind) ∧
    wr.cell? ⟨b, off + 7, none⟩ = some (.int .i64 o.v.n) ∧ wr.cell? ⟨b, off + 8, none⟩ = some (.string o.v.s) ∧ wr.cell? ⟨b, off + 9, none⟩ = some (.bool o.cascade) := by
  subst h
  have e : ∀ o', wr.cell? ⟨b, o', none⟩ = w.cell? ⟨b, o', none⟩ := fun o' => World.cell?_of_block (w := w) (g.heapEq hb)
  have hs := g.size
  refine ⟨by omega, ?_, ?_, ?_, ?_, ?_, ?_, ?_, ?_, ?_, ?_⟩ <;> rw [e]
  · exact hc 0 _ rfl
  · exact hc 1 _ rfl
  · exact hc 2 _ rfl
  · exact hc 3 _ rfl
  · exact hc 4 _ rfl
  · exact hc 5 _ rfl
  · exact hc 6 _ rfl
  · exact hc 7 _ rfl
  · exact hc 8 _ rfl
  · exact hc 9 _ rfl

set_option maxRecDepth 100000 in
set_option maxHeartbeats 1000000 in
theorem lawFair (S : Nat → Prop) (v : Value) (l : List POp) (w : World) (hl : OpsR S w v l) :
    Calls Tryz.prog 5 #[v] w fun e w' => e = .returned (.bool (fairOps l)) ∧ Grow w w' := by
  obtain ⟨aa, ca, rfl, hal, hac, hA⟩ := SlR.open hl
  clear hl
  unfold maxLen at hac
  have HA := Lib.hid hA; clear hA
  have hd : decide ((l.length : Int) ≤ 200) = decide (l.length ≤ 200) := by by_cases h : l.length ≤ 200 <;> simp [h] <;> omega
  have HDD := Lib.hid hd; clear hd
  go_enter Tryz.func5, Tryz.ntmps5
  go_wp2
  go_loopg [3] l.length (fun g i wr => ∃ k : Nat, k ≤ l.length ∧ g = l.length - k ∧ i = .int .i64 k ∧ (∀ y ∈ l.take k, largeO y = false) ∧ Grow w wr)
  case atStart => exact ⟨0, by omega, by omega, rfl, by simp, Grow.rfl' w⟩
  case round =>
    obtain ⟨k, hk, rfl, rfl, hall, hgr⟩ := hrel
    have HALL := Lib.hid hall; have HGR := Lib.hid hgr; clear hall
    by_cases hkl : k < l.length
    · obtain ⟨ba, oa, ra, rfl, hSa, hba, hRa, hca⟩ := HA.out k l[k] (List.getElem?_eq_getElem hkl)
      obtain ⟨hba', a0, a1, a2, a3, a4, a5, a6, a7, a8, a9⟩ := opCells hRa hba hgr hca
      clear hca hRa hSa hba hgr
      have HM := Lib.hid (show l[k] ∈ l from List.getElem_mem hkl)
      have HT := Lib.hid (show l.take (k + 1) = l.take k ++ [l[k]] from List.take_succ_eq_append_getElem hkl)
      generalize l[k] = x at *
      go_wp2_with fail
      refine (keepLargeOp x _).mono ?_
      rintro e w2 ⟨rfl, hg⟩
      have HG := Lib.hid (HGR.out.step hg); clear hg
      cases hx : largeO x
      · go_wp2_with fail
        go_roundg (l.length - (k + 1))
        case measure => omega
        case rel => exact ⟨k + 1, by omega, rfl, by go_num, by rw [HT.out]; intro y hy; rcases List.mem_append.1 hy with h | h; exact HALL.out y h; simp at h; subst h; exact hx, HG.out⟩
      · have HF := Lib.hid (show fairOps l = false by unfold fairOps; rw [List.all_eq_false.2 ⟨x, HM.out, by rw [hx]; simp⟩]; rfl)
        go_wp2
        go_ret
        exact ⟨by rw [HF.out]; rfl, HG.out⟩
    · have HF := Lib.hid (show fairOps l = decide (l.length ≤ 200) by
        have h1 : l.take k = l := List.take_of_length_le (by omega)
        have h2 := HALL.out
        rw [h1] at h2
        unfold fairOps
        rw [List.all_eq_true.2 (fun y hy => by rw [h2 y hy]; rfl)]
        rfl)
      have hd := HDD.out
      clear hgr
      go_wp2
      go_ret
      exact ⟨by rw [HF.out]; first | rfl | (rw [← hd]; rfl), HGR.out⟩

theorem results_cell1 {fn : Func} {p : Tmp} {ty : TypeId} (h : fn.results = #[.cell p ty]) (tmps : Array Value) (P : Program) (w : World) :
    (results fn tmps).run P w = ((asAddr (tmps.getD p undef)).run P w).andThen fun a w₁ => (loadVar ty a).run P w₁ := by
  simp only [results, h]
  simp [Sem.run_bind, Result.andThen]

def sCity : ByteArray := ⟨#[99, 105, 116, 121]⟩
def sMan : ByteArray := ⟨#[109, 97, 110]⟩
def sZoo : ByteArray := ⟨#[122, 111, 111]⟩
def sKnows : ByteArray := ⟨#[107, 110, 111, 119, 115]⟩
def sRoad : ByteArray := ⟨#[114, 111, 97, 100]⟩
def typesC : PCat := ⟨[sCity, sMan, sZoo], [sKnows, sRoad], [], [], 1⟩

theorem strsLit (w : World) (l : List ByteArray) (E : TypeId) (hm : l.length ≤ maxLen) : StrsR (fun b => w.heap.size ≤ b) (w.alloc (.cells (l.map Value.string).toArray E)) (.slice (some ⟨w.heap.size, 0, none⟩) l.length l.length) l := by
  have h := OwnS.lit w (l.map Value.string).toArray E 1 l.length hm (by simp)
  have h2 : OwnL (w.alloc (.cells (l.map Value.string).toArray E)) E 1 RStr (.slice (some ⟨w.heap.size, 0, none⟩) l.length l.length) l (some w.heap.size) := ⟨l.map (fun s => [.string s]), by simp, fun k x r hx hr => by
    rw [List.getElem?_map, hx] at hr
    simp only [Option.map_some, Option.some.injEq] at hr
    subst hr
    exact ⟨rfl, rfl⟩, by
    have e : (l.map fun s => [Value.string s]).flatten = (l.map Value.string).toArray.toList := by
      rw [List.toList_toArray]
      clear h hm
      induction l with
      | nil => rfl
      | cons a t ih => simp [ih]
    rw [e]; exact h⟩
  exact h2.toSl (fun g hg => by cases hg; exact Nat.le_refl _)

set_option maxRecDepth 100000 in
set_option maxHeartbeats 1000000 in
theorem lawTypes (w : World) : Calls Tryz.prog 18 #[] w fun e w' => ∃ nv ev, e = .returned (typesC.arg nv ev (.slice none 0 0) (.slice none 0 0)) ∧ CatR (fun b => w.heap.size ≤ b) w' nv ev (.slice none 0 0) (.slice none 0 0) typesC ∧ Grow w w' := by
  have H0 := Lib.hid (show ∀ o1, Grow w (w.alloc o1) from fun o1 => (Grow.rfl' w).allocd o1)
  go_enter Tryz.func18, Tryz.ntmps18
  go_wp2
  refine bodyPost_ret (v := typesC.arg (.slice (some ⟨w.heap.size + 1, 0, none⟩) 3 3) (.slice (some ⟨w.heap.size + 1 + 1, 0, none⟩) 2 2) (.slice none 0 0) (.slice none 0 0)) ?_ rfl ⟨_, _, rfl, ?_, ?_⟩
  · rw [results_cell1 rfl]
    go_simp
    rfl
  · have q1 := strsLit (w.alloc (.cells #[.slice (some ⟨w.heap.size + 1, 0, none⟩) 3 3, .slice (some ⟨w.heap.size + 1 + 1, 0, none⟩) 2 2, .slice none 0 0, .slice none 0 0, .int .i64 1] 26)) [sCity, sMan, sZoo] 9 (by simp [maxLen])
    have q2 := strsLit ((w.alloc (.cells #[.slice (some ⟨w.heap.size + 1, 0, none⟩) 3 3, .slice (some ⟨w.heap.size + 1 + 1, 0, none⟩) 2 2, .slice none 0 0, .slice none 0 0, .int .i64 1] 26)).alloc (.cells #[.string sCity, .string sMan, .string sZoo] 9)) [sKnows, sRoad] 9 (by simp [maxLen])
    simp only [World.size_alloc] at q1 q2
    refine ⟨SlR.sub (q1.growS ((Grow.rfl' _).allocd _)) (fun b hb => by omega) (fun _ _ _ h => h), SlR.sub q2 (fun b hb => by omega) (fun _ _ _ h => h), ?_, ?_⟩
    · exact (OwnL.nil _ 0 _ _).toSl (by simp)
    · exact (OwnL.nil _ 0 _ _).toSl (by simp)
  · exact (((Grow.rfl' w).allocd _).allocd _).allocd _
end Go.Hg
