/- slices.IndexFunc at []api.Prop by val.Set's closure; the plain words for a property set. No condition. -/
import Derived.Test.YtcokiflkjnekeaaGreatValC
namespace Go.Hg
open Go.RowKit Go.Proofs

def fil (l : List PProp) (name : ByteArray) : List PProp := l.filter fun p => decide (¬ p.name = name)
def ins (o : List PProp) (x : PProp) : List PProp := (o.takeWhile fun p => ltS p.name x.name) ++ x :: (o.dropWhile fun p => ltS p.name x.name)
/-- properties with one of them set -/
def setP (l : List PProp) (name : ByteArray) (v : PVal) : List PProp := if v.kind = 0 then fil l name else ins (fil l name) ⟨name, v⟩
def allLt (o : List PProp) (name : ByteArray) : Bool := o.all fun p => ltS p.name name
def mid (o : List PProp) (x : PProp) : List PProp := if allLt o x.name = true then o else ins o x

theorem ins_allLt {o : List PProp} {x : PProp} (h : allLt o x.name = true) : ins o x = o ++ [x] := by
  unfold allLt at h
  unfold ins
  have h1 : ∀ p ∈ o, ltS p.name x.name = true := by simpa using h
  have e1 : (o.takeWhile fun p => ltS p.name x.name) = o := by
    have h2 := List.takeWhile_append_of_pos (l₂ := []) h1
    simpa using h2
  have e2 : (o.dropWhile fun p => ltS p.name x.name) = [] := by
    have h2 := List.dropWhile_append_of_pos (l₂ := []) h1
    simpa using h2
  rw [e1, e2]
theorem ins_snoc {o : List PProp} {x p : PProp} (h : allLt o x.name = false) : ins (o ++ [p]) x = ins o x ++ [p] := by
  unfold allLt at h
  unfold ins
  have h1 : ∃ q ∈ o, ltS q.name x.name = false := by
    have := List.all_eq_false.1 h
    obtain ⟨q, hq, hn⟩ := this
    exact ⟨q, hq, by simpa using hn⟩
  obtain ⟨q, hq, hn⟩ := h1
  induction o with
  | nil => cases hq
  | cons a o ih =>
    by_cases ha : ltS a.name x.name = true
    · have hq' : q ∈ o := by
        rcases List.mem_cons.1 hq with e | e
        · subst e; rw [hn] at ha; cases ha
        · exact e
      have ih' := ih (List.all_eq_false.2 ⟨q, hq', by rw [hn]; simp⟩) hq'
      simp only [List.cons_append, List.takeWhile_cons, List.dropWhile_cons, ha, if_true]
      rw [ih']
    · simp [ha]
theorem ins_snoc_ge {o : List PProp} {x p : PProp} (h : allLt o x.name = true) (hp : ltS p.name x.name = false) : ins (o ++ [p]) x = o ++ [x] ++ [p] := by
  have h1 : ∀ p ∈ o, ltS p.name x.name = true := by simpa [allLt] using h
  unfold ins
  rw [List.takeWhile_append_of_pos h1, List.dropWhile_append_of_pos h1]
  simp [hp]
theorem allLt_snoc (o : List PProp) (p : PProp) (name : ByteArray) : allLt (o ++ [p]) name = (allLt o name && ltS p.name name) := by simp [allLt]
theorem fil_snoc_eq {l : List PProp} {p : PProp} {name : ByteArray} (h : p.name = name) : fil (l ++ [p]) name = fil l name := by simp [fil, h]
theorem fil_snoc_ne {l : List PProp} {p : PProp} {name : ByteArray} (h : ¬ p.name = name) : fil (l ++ [p]) name = fil l name ++ [p] := by simp [fil, h]
theorem fil_length (l : List PProp) (name : ByteArray) : (fil l name).length ≤ l.length := List.length_filter_le _ _
theorem setP_length (l : List PProp) (name : ByteArray) (v : PVal) : (setP l name v).length ≤ l.length + 1 := by
  have h := fil_length l name
  unfold setP
  split
  · omega
  · unfold ins
    have h2 := congrArg List.length (List.takeWhile_append_dropWhile (p := fun p : PProp => ltS p.name name) (l := fil l name))
    rw [List.length_append] at h2 ⊢
    simp only [List.length_cons]
    omega

/-- what IndexFunc tells: the first that is not below a name, or -1 -/
def IdxOk (l : List PProp) (name : ByteArray) (r : Int) : Prop :=
  (r = -1 ∧ allLt l name = true) ∨ ∃ k : Nat, r = k ∧ k < l.length ∧ l.take k = (l.takeWhile fun p => ltS p.name name) ∧ l.drop k = (l.dropWhile fun p => ltS p.name name)
theorem idx_hit {l : List PProp} {name : ByteArray} {k : Nat} {p : PProp} (hall : allLt (l.take k) name = true) (hp : l[k]? = some p) (hn : ltS p.name name = false) :
    k < l.length ∧ l.take k = (l.takeWhile fun p => ltS p.name name) ∧ l.drop k = (l.dropWhile fun p => ltS p.name name) := by
  have hk : k < l.length := (List.getElem?_eq_some_iff.1 hp).1
  have h1 : ∀ p ∈ l.take k, ltS p.name name = true := by simpa [allLt] using hall
  have e : l = l.take k ++ p :: l.drop (k + 1) := by
    have h3 := List.getElem?_eq_some_iff.1 hp
    obtain ⟨h4, h5⟩ := h3
    have : l.drop k = p :: l.drop (k + 1) := by rw [List.drop_eq_getElem_cons h4, h5]
    rw [← this, List.take_append_drop]
  have ed : l.drop k = p :: l.drop (k + 1) := by
    obtain ⟨h4, h5⟩ := List.getElem?_eq_some_iff.1 hp
    rw [List.drop_eq_getElem_cons h4, h5]
  refine ⟨hk, ?_, ?_⟩
  · conv => rhs; rw [e]
    rw [List.takeWhile_append_of_pos h1]
    simp [hn]
  · conv => rhs; rw [e]
    rw [List.dropWhile_append_of_pos h1]
    simp [hn, ed]

set_option maxHeartbeats 400000 in
theorem set1 (p : PProp) (nb : Nat) (name : ByteArray) (w : World) (hb : w.cell? ⟨nb, 0, none⟩ = some (.string name)) :
    Calls Tryz.prog 97 #[.agg #[.string p.name, .int .i64 p.v.kind, .int .i64 p.v.n, .string p.v.s], .pointer (some ⟨nb, 0, none⟩)] w fun e w' => e = .returned (.bool (!(ltS p.name name))) ∧ Grow w w' := by
  have hlt := cell_lt hb
  have hb2 : ∀ o, (w.alloc o).cell? ⟨nb, 0, none⟩ = some (.string name) := fun o => by exact ((Grow.rfl' w).allocd o).cell (p := ⟨nb, 0, none⟩) hlt |>.trans hb
  have hg : ∀ o1, Grow w (w.alloc o1) := fun o1 => (Grow.rfl' w).allocd o1
  go_enter Tryz.func97, Tryz.ntmps97
  go_wp2
  go_ret
  exact ⟨rfl, hg _⟩

set_option maxRecDepth 100000 in
set_option maxHeartbeats 1000000 in
theorem indexProp (S : Nat → Prop) (v : Value) (l : List PProp) (nb : Nat) (name : ByteArray) (w : World) (hl : PropsR S w v l) (hb : w.cell? ⟨nb, 0, none⟩ = some (.string name)) :
    Calls Tryz.prog 96 #[v, .func (.func 97) #[] #[.pointer (some ⟨nb, 0, none⟩)]] w fun e w' => ∃ r : Int, e = .returned (.int .i64 r) ∧ IdxOk l name r ∧ Grow w w' := by
  obtain ⟨aa, ca, rfl, hal, hac, hA⟩ := SlR.open hl
  clear hl
  unfold maxLen at hac
  have HA := Lib.hid hA; clear hA
  have HB := Lib.hid hb; have hlt := cell_lt hb; clear hb
  go_enter Tryz.func96, Tryz.ntmps96
  go_wp2
  go_loopg [8] l.length (fun g i wr => ∃ k : Nat, k ≤ l.length ∧ g = l.length - k ∧ i = .int .i64 k ∧ allLt (l.take k) name = true ∧ Grow w wr)
  case atStart => exact ⟨0, by omega, by omega, rfl, by simp [allLt], Grow.rfl' w⟩
  case round =>
    obtain ⟨k, hk, rfl, rfl, hall, hgr⟩ := hrel
    have HALL := Lib.hid hall; clear hall
    by_cases hkl : k < l.length
    · obtain ⟨ba, oa, ra, rfl, hSa, hba, hRa, hca⟩ := HA.out k l[k] (List.getElem?_eq_getElem hkl)
      obtain ⟨hba', a0, a1, a2, a3⟩ := hRa.at hba hgr hca
      clear hca hRa hSa hba
      have HE := Lib.hid (show l[k]? = some l[k] from List.getElem?_eq_getElem hkl)
      have HT := Lib.hid (show l.take (k + 1) = l.take k ++ [l[k]] from List.take_succ_eq_append_getElem hkl)
      generalize l[k] = p at *
      have HBW := Lib.hid (show wr.cell? ⟨nb, 0, none⟩ = some (.string name) from (hgr.cell (p := ⟨nb, 0, none⟩) hlt).trans HB.out)
      cases hn : ltS p.name name
      all_goals
        go_wp2_with (go_at_call 97; (with_reducible refine (set1 p nb name _ HBW.out).mono ?_); rintro e w2 ⟨rfl, hw2⟩)
      · go_ret
        obtain ⟨h1, h2, h3⟩ := idx_hit HALL.out HE.out hn
        exact ⟨_, rfl, .inr ⟨k, rfl, h1, h2, h3⟩, hgr.step ‹_›⟩
      · go_roundg (l.length - (k + 1))
        case measure => omega
        case rel => exact ⟨k + 1, by omega, rfl, by go_num, by rw [HT.out, allLt_snoc, HALL.out, hn]; rfl, hgr.step ‹_›⟩
    · have HX := Lib.hid (show l.take k = l from List.take_of_length_le (by omega))
      go_wp2
      go_ret
      exact ⟨_, rfl, .inl ⟨rfl, by rw [← HX.out]; exact HALL.out⟩, hgr⟩
end Go.Hg
