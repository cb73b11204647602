/- val.Name, Good; hedgerowref02.Name, Good, Blank. No condition. -/
import Derived.Test.YtcokiflkjnekeaaGreatData
namespace Go.Hg
open Go.RowKit Go.Proofs

def LowC (c : Nat) : Prop := 97 ≤ c ∧ c ≤ 122
def RestC (c : Nat) : Prop := (97 ≤ c ∧ c ≤ 122) ∨ (48 ≤ c ∧ c ≤ 57) ∨ c = 95
instance (c : Nat) : Decidable (LowC c) := by unfold LowC; infer_instance
instance (c : Nat) : Decidable (RestC c) := by unfold RestC; infer_instance
/-- a name: a text of 1 to 16 bytes, a small letter, then small letters, digits and low lines -/
def NameOk (s : ByteArray) : Prop := ∃ h : 0 < s.size, s.size ≤ 16 ∧ LowC s[0].toNat ∧ ∀ i, (h : i < s.size) → RestC s[i].toNat
instance (s : ByteArray) : Decidable (NameOk s) := by unfold NameOk; infer_instance
def GoodV (v : PVal) : Prop := (v.kind = 1 ∧ (v.n = 0 ∨ v.n = 1) ∧ v.s = ByteArray.empty) ∨ (v.kind = 2 ∧ v.s = ByteArray.empty) ∨ (v.kind = 3 ∧ v.n = 0 ∧ v.s.size ≤ 1024)
instance (v : PVal) : Decidable (GoodV v) := by unfold GoodV; infer_instance
def BlankV (v : PVal) : Prop := v.kind = 0 ∧ v.n = 0 ∧ v.s = ByteArray.empty
instance (v : PVal) : Decidable (BlankV v) := by unfold BlankV; infer_instance

theorem u8_lt (c : UInt8) : c.toNat < 256 := c.toNat_lt

set_option maxRecDepth 100000 in
set_option maxHeartbeats 1000000 in
theorem valName (s : ByteArray) (w : World) : Calls Tryz.prog 83 #[.string s] w fun e w' => e = .returned (.bool (decide (NameOk s))) ∧ w' = w := by
  by_cases h0 : s.size = 0
  · have HN := Lib.hid (show ¬ NameOk s from fun ⟨h, _⟩ => by omega)
    go_enter Tryz.func83, Tryz.ntmps83
    go_wp2
    go_ret
    exact ⟨by rw [decide_eq_false HN.out]; rfl, rfl⟩
  · have h0' : 0 < s.size := by omega
    have hs0 : s.toList.isEmpty = false := by
      rw [ByteArray.toList_eq]
      cases h : s.data.toList with
      | nil => have : s.size = 0 := by show s.data.size = 0; rw [← Array.length_toList, h]; rfl
               omega
      | cons => rfl
    clear h0
    by_cases h16 : s.size ≤ 16
    · have hb := u8_lt s[0]
      by_cases hl : LowC s[0].toNat
      · have hl' := hl
        unfold LowC at hl'
        have hx : NameOk s ↔ ∀ i, (h : i < s.size) → RestC s[i].toNat := ⟨fun ⟨_, _, _, h⟩ => h, fun h => ⟨h0', h16, hl, h⟩⟩
        have HX := Lib.hid hx; clear hx hl
        go_enter Tryz.func83, Tryz.ntmps83
        go_wp2
        go_loopg [25] s.size (fun g i wr => ∃ k : Nat, k ≤ s.size ∧ g = s.size - k ∧ i = .int .i64 k ∧ (∀ i, (h : i < s.size) → i < k → RestC s[i].toNat) ∧ w = wr)
        case atStart => exact ⟨0, by omega, by omega, rfl, fun i _ h => by omega, rfl⟩
        case round =>
          obtain ⟨k, hk, rfl, rfl, hall, rfl⟩ := hrel
          have HA := Lib.hid hall; clear hall
          by_cases hlt : k < s.size
          · have HK := Lib.hid (show ¬ RestC s[k].toNat → ¬ NameOk s from fun h hn => h ((HX.out.1 hn) k hlt))
            have HK2 := Lib.hid (show RestC s[k].toNat → ∀ i, (h : i < s.size) → i < k + 1 → RestC s[i].toNat from fun h i hi hik => by
              by_cases e : i = k
              · subst e; exact h
              · exact HA.out i hi (by omega))
            have hbk := u8_lt s[k]
            clear hl' hb
            by_cases hr : RestC s[k].toNat
            · have HR := Lib.hid (HK2.out hr)
              unfold RestC at hr
              clear HK HK2
              go_wp2
              all_goals
                (try simp only [bne_iff_ne, bne_eq_false_iff_eq, ne_eq] at *)
                first
                  | (exfalso; omega)
                  | (go_roundg (s.size - (k + 1))
                     case measure => omega
                     case rel => exact ⟨k + 1, by omega, rfl, by go_num, HR.out, rfl⟩)
            · have HR := Lib.hid (HK.out hr)
              unfold RestC at hr
              clear HK HK2
              go_wp2
              all_goals
                (try simp only [bne_iff_ne, bne_eq_false_iff_eq, ne_eq] at *)
                first
                  | (exfalso; omega)
                  | (go_ret
                     exact ⟨by rw [decide_eq_false HR.out]; rfl, rfl⟩)
          · go_wp2
            go_ret
            exact ⟨by rw [decide_eq_true (HX.out.2 fun i h => HA.out i h (by omega))]; rfl, rfl⟩
      · have HN := Lib.hid (show ¬ NameOk s from fun ⟨_, _, h, _⟩ => hl h)
        unfold LowC at hl
        go_enter Tryz.func83, Tryz.ntmps83
        go_wp2
        all_goals first
          | (go_ret
             exact ⟨by rw [decide_eq_false HN.out]; rfl, rfl⟩)
          | (exfalso; omega)
    · have HN := Lib.hid (show ¬ NameOk s from fun ⟨_, h, _⟩ => h16 h)
      go_enter Tryz.func83, Tryz.ntmps83
      go_wp2
      go_ret
      exact ⟨by rw [decide_eq_false HN.out]; rfl, rfl⟩

set_option maxRecDepth 100000 in
set_option maxHeartbeats 1000000 in
theorem refName (s : ByteArray) (w : World) : Calls Tryz.prog 60 #[.string s] w fun e w' => e = .returned (.bool (decide (NameOk s))) ∧ w' = w := by
  by_cases hs : 1 ≤ s.size ∧ s.size ≤ 16
  · obtain ⟨h0', h16⟩ := hs
    have hx : NameOk s ↔ ∀ i, (h : i < s.size) → RestC s[i].toNat ∧ (i = 0 → LowC s[i].toNat) :=
      ⟨fun ⟨_, _, hl, h⟩ i hi => ⟨h i hi, fun e => by subst e; exact hl⟩, fun h => ⟨h0', h16, (h 0 h0').2 rfl, fun i hi => (h i hi).1⟩⟩
    have HX := Lib.hid hx; clear hx
    go_enter Tryz.func60, Tryz.ntmps60
    go_wp2
    go_loopg [3] s.size (fun g i wr => ∃ k : Nat, k ≤ s.size ∧ g = s.size - k ∧ i = .int .i64 k ∧ (∀ i, (h : i < s.size) → i < k → RestC s[i].toNat ∧ (i = 0 → LowC s[i].toNat)) ∧ w = wr)
    case atStart => exact ⟨0, by omega, by omega, rfl, fun i _ h => by omega, rfl⟩
    case round =>
      obtain ⟨k, hk, rfl, rfl, hall, rfl⟩ := hrel
      have HA := Lib.hid hall; clear hall
      by_cases hlt : k < s.size
      · have HK := Lib.hid (show ¬ (RestC s[k].toNat ∧ (k = 0 → LowC s[k].toNat)) → ¬ NameOk s from fun h hn => h ((HX.out.1 hn) k hlt))
        have HK2 := Lib.hid (show RestC s[k].toNat ∧ (k = 0 → LowC s[k].toNat) → ∀ i, (h : i < s.size) → i < k + 1 → RestC s[i].toNat ∧ (i = 0 → LowC s[i].toNat) from fun h i hi hik => by
          by_cases e : i = k
          · subst e; exact h
          · exact HA.out i hi (by omega))
        have hbk := u8_lt s[k]
        by_cases hr : RestC s[k].toNat ∧ (k = 0 → LowC s[k].toNat)
        · have HR := Lib.hid (HK2.out hr)
          have HQ := Lib.hid hr
          clear HK HK2 hr
          go_wp2
          all_goals
            (try simp only [Bool.not_eq_true', Bool.not_eq_false', decide_eq_true_eq, decide_eq_false_iff_not, beq_iff_eq, beq_eq_false_iff_ne, ne_eq] at *)
            have hq := HQ.out
            unfold RestC LowC at hq
            first
              | (exfalso; omega)
              | (clear hq
                 go_roundg (s.size - (k + 1))
                 case measure => omega
                 case rel => exact ⟨k + 1, by omega, rfl, by go_num, HR.out, rfl⟩)
        · have HR := Lib.hid (HK.out hr)
          have HQ := Lib.hid hr
          clear HK HK2 hr
          go_wp2
          all_goals
            (try simp only [Bool.not_eq_true', Bool.not_eq_false', decide_eq_true_eq, decide_eq_false_iff_not, beq_iff_eq, beq_eq_false_iff_ne, ne_eq] at *)
            have hq := HQ.out
            unfold RestC LowC at hq
            first
              | (exfalso; omega)
              | (clear hq
                 go_ret
                 exact ⟨by rw [decide_eq_false HR.out]; rfl, rfl⟩)
      · go_wp2
        go_ret
        exact ⟨by rw [decide_eq_true (HX.out.2 fun i h => HA.out i h (by omega))]; rfl, rfl⟩
  · have HN := Lib.hid (show ¬ NameOk s from fun ⟨h1, h2, _⟩ => hs ⟨h1, h2⟩)
    go_enter Tryz.func60, Tryz.ntmps60
    go_wp2
    all_goals first
      | (exfalso; omega)
      | (go_ret
         exact ⟨by rw [decide_eq_false HN.out]; rfl, rfl⟩)
end Go.Hg
