/- The checks of words and paths. -/
import Derived.Test.YtnidamdfdlkoiaaDoorA1
namespace Go.Proofs.YtnidamdfdlkoiaaDoor.A
open Go.RowKit

/-- a byte of a word; of a path -/
def wdB (c : UInt8) : Bool := 32 ≤ c && c != 127
def ptB (c : UInt8) : Bool := 33 ≤ c && c ≤ 126
def wordB (s : ByteArray) : Bool := s.data.toList.all wdB && !s.data.toList.isEmpty
def pathB (s : ByteArray) : Bool := s.data.toList.all ptB && !s.data.toList.isEmpty && decide (s.size ≤ 200)
theorem wdB_iff (c : UInt8) : wdB c = true ↔ 32 ≤ (c.toNat : Int) ∧ (c.toNat : Int) ≠ 127 := by
  unfold wdB
  simp [UInt8.le_iff_toNat_le, ← UInt8.toNat_inj]
  omega
theorem ptB_iff (c : UInt8) : ptB c = true ↔ 33 ≤ (c.toNat : Int) ∧ (c.toNat : Int) ≤ 126 := by
  unfold ptB
  simp [UInt8.le_iff_toNat_le]
  omega


set_option maxHeartbeats 1000000 in
theorem isPath_any (s : ByteArray) (w : World) (hs : s.size ≤ maxLen) :
    Calls Tryd.prog 53 #[.string s] w fun e w' => e = .returned (.bool (pathB s)) ∧ w = w' := by
  unfold maxLen at hs
  go_enter Tryd.func53, Tryd.ntmps53
  go_wp2
  go_loop [6] (fun i => ∃ k : Nat, k ≤ s.size ∧ i = .int .i64 k ∧ (s.data.toList.take k).all ptB = true) (fun i => s.size - (intOf i).toNat)
  case atStart => exact ⟨0, Nat.zero_le _, rfl, rfl⟩
  case round =>
    obtain ⟨k, hk, rfl, hall⟩ := hrel
    have HA := Lib.hid hall
    clear hall
    by_cases hlt : k < s.size
    · go_wp2
      all_goals first
        | (go_ret; exact ⟨ret_bool (by
            have hn : ptB s[k] = false := by rw [← Bool.not_eq_true, ptB_iff]; simp at *; omega
            unfold pathB; rw [all_of_no s ptB k hlt hn]; rfl), rfl⟩)
        | (go_round
           case rel => exact ⟨k + 1, by omega, by go_num, by
            have hn : ptB s[k] = true := by rw [ptB_iff]; simp at *; omega
            rw [all_take_succ s ptB k hlt, HA.out, hn]; rfl⟩
           case measure => simp [intOf]; omega)
    · have HZ := Lib.hid (all_take_all s ptB k (by omega) HA.out)
      go_wp2
      all_goals
        go_ret
        exact ⟨ret_bool (by unfold pathB; rw [HZ.out, emp_toList, ← dec_nat s.size 200]; simp [*]), rfl⟩

/-- a slice of strings that reads as a list -/
def RdS (w : World) (A : Option Addr) (l : List ByteArray) : Prop := ∀ k s, l[k]? = some s → ∃ ad, A = some ad ∧ w.cell? (ad.add k) = some (.string s)

def wordsE (l : List ByteArray) : Int := if l.all wordB then 0 else 2
theorem wordsE_no {l : List ByteArray} (h : l.all wordB = true → False) : 2 = wordsE l := by unfold wordsE; rw [if_neg h]
theorem wordsE_yes {l : List ByteArray} (h : l.all wordB = true) : 0 = wordsE l := by unfold wordsE; rw [if_pos h]
theorem no_of_get {p : ByteArray → Bool} {l : List ByteArray} {k : Nat} {s : ByteArray} (h : l[k]? = some s) (hs : p s = false) (ha : l.all p = true) : False := by
  rw [List.all_eq_true] at ha
  rw [ha s (List.mem_of_getElem? h)] at hs
  cases hs
theorem take_all_succ {α : Type} {p : α → Bool} {l : List α} {k : Nat} {s : α} (h : l[k]? = some s) : (l.take (k + 1)).all p = ((l.take k).all p && p s) := by
  rw [List.take_add_one, h]; simp
theorem take_all_all {α : Type} {p : α → Bool} {l : List α} {k : Nat} (h : l.length ≤ k) (ha : (l.take k).all p = true) : l.all p = true := by rwa [List.take_of_length_le h] at ha
theorem emp_of {s : ByteArray} {b : Bool} (h : (s.toList == ([] : List UInt8)) = b) : s.data.toList.isEmpty = b := by
  rw [← h, ByteArray.toList_eq]; cases s.data.toList <;> rfl
theorem wordB_emp {s : ByteArray} (h : (s.toList == ([] : List UInt8)) = true) : wordB s = false := by
  unfold wordB; rw [emp_of h]; simp

set_option maxHeartbeats 1000000 in
theorem checkWords_any (A : Option Addr) (c : Nat) (l : List ByteArray) (w : World) (hl : l.length ≤ maxLen) (hr : RdS w A l) (hs : ∀ x ∈ l, x.size ≤ maxLen) :
    Calls Tryd.prog 27 #[.slice A l.length c] w fun e w' => e = .returned (.int .i64 (wordsE l)) ∧ w = w' := by
  unfold maxLen at hl
  have HR := Lib.hid hr
  have HS := Lib.hid hs
  clear hr hs
  go_enter Tryd.func27, Tryd.ntmps27
  go_wp2
  go_loop [8] (fun i => ∃ k : Nat, k ≤ l.length ∧ i = .int .i64 k ∧ (l.take k).all wordB = true) (fun i => l.length - (intOf i).toNat)
  case atStart => exact ⟨0, Nat.zero_le _, rfl, rfl⟩
  case round =>
    obtain ⟨k, hk, rfl, hall⟩ := hrel
    have HA := Lib.hid hall
    clear hall
    by_cases hlt : k < l.length
    · obtain ⟨s, hs⟩ : ∃ s, l[k]? = some s := ⟨_, List.getElem?_eq_getElem hlt⟩
      obtain ⟨ad, hA, hcell⟩ := HR.out k s hs
      have hsz := HS.out s (List.mem_of_getElem? hs)
      have HK := Lib.hid hs
      clear hs
      unfold maxLen at hsz
      subst hA
      cases hb : (s.toList == ([] : List UInt8)) with
      | true =>
        go_wp2
        go_ret
        exact ⟨ret_int (wordsE_no fun h => no_of_get HK.out (wordB_emp hb) h), rfl⟩
      | false =>
        have HB := Lib.hid (emp_of hb)
        go_wp2
        go_loop [16] (fun i => ∃ j : Nat, j ≤ s.size ∧ i = .int .i64 j ∧ (s.data.toList.take j).all wdB = true) (fun i => s.size - (intOf i).toNat)
        case atStart => exact ⟨0, Nat.zero_le _, rfl, rfl⟩
        case round =>
          obtain ⟨j, hj, rfl, hall⟩ := hrel
          have HJ := Lib.hid hall
          clear hall
          by_cases hjl : j < s.size
          · go_wp2
            all_goals first
              | (go_ret; exact ⟨ret_int (by
                  have hn : wdB s[j] = false := by rw [← Bool.not_eq_true, wdB_iff]; simp at *; omega
                  exact wordsE_no fun h => no_of_get HK.out (by unfold wordB; rw [all_of_no s wdB j hjl hn]; rfl) h), rfl⟩)
              | (go_round
                 case rel => exact ⟨j + 1, by omega, by go_num, by
                  have hn : wdB s[j] = true := by rw [wdB_iff]; simp at *; omega
                  rw [all_take_succ s wdB j hjl, HJ.out, hn]; rfl⟩
                 case measure => simp [intOf]; omega)
          · have HZ := Lib.hid (all_take_all s wdB j (by omega) HJ.out)
            go_wp2
            go_round
            case rel => exact ⟨k + 1, by omega, by go_num, by rw [take_all_succ HK.out, HA.out]; unfold wordB; rw [HZ.out, HB.out]; rfl⟩
            case measure => simp [intOf]; omega
    · have HZ := Lib.hid (take_all_all (p := wordB) (l := l) (k := k) (by omega) HA.out)
      go_wp2
      go_ret
      exact ⟨ret_int (wordsE_yes HZ.out), rfl⟩

theorem emp_size (s : ByteArray) : s.data.toList.isEmpty = decide ((s.size : Int) < 1) := by
  rw [show s.size = s.data.toList.length from by simp]
  cases s.data.toList <;> simp <;> omega

set_option maxHeartbeats 1000000 in
theorem visible_path (s : ByteArray) (w : World) (hs : s.size ≤ maxLen) :
    Calls Tryd.prog 55 #[.string s, .int .u8 33, .int .i64 200] w fun e w' => e = .returned (.bool (pathB s)) ∧ w = w' := by
  unfold maxLen at hs
  go_enter Tryd.func55, Tryd.ntmps55
  go_wp2
  go_loop [7] (fun i => ∃ k : Nat, k ≤ s.size ∧ i = .int .i64 k ∧ (s.data.toList.take k).all ptB = true) (fun i => s.size - (intOf i).toNat)
  case atStart => exact ⟨0, Nat.zero_le _, rfl, rfl⟩
  case round =>
    obtain ⟨k, hk, rfl, hall⟩ := hrel
    have HA := Lib.hid hall
    clear hall
    by_cases hlt : k < s.size
    · go_wp2
      all_goals first
        | (go_ret; exact ⟨ret_bool (by
            have hn : ptB s[k] = false := by rw [← Bool.not_eq_true, ptB_iff]; simp at *; omega
            unfold pathB; rw [all_of_no s ptB k hlt hn]; rfl), rfl⟩)
        | (go_round
           case rel => exact ⟨k + 1, by omega, by go_num, by
            have hn : ptB s[k] = true := by rw [ptB_iff]; simp at *; omega
            rw [all_take_succ s ptB k hlt, HA.out, hn]; rfl⟩
           case measure => simp [intOf]; omega)
    · have HZ := Lib.hid (all_take_all s ptB k (by omega) HA.out)
      have HE := Lib.hid (emp_size s)
      go_wp2
      all_goals
        go_ret
        exact ⟨ret_bool (by unfold pathB; rw [HZ.out, HE.out, ← dec_nat s.size 200]; simp at *; first | done | omega | grind), rfl⟩

set_option maxHeartbeats 1000000 in
theorem visible_word (s : ByteArray) (w : World) (hs : s.size ≤ 2147483647) :
    Calls Tryd.prog 55 #[.string s, .int .u8 32, .int .i64 2147483647] w fun e w' => e = .returned (.bool (wordB s)) ∧ w = w' := by
  skip
  go_enter Tryd.func55, Tryd.ntmps55
  go_wp2
  go_loop [7] (fun i => ∃ k : Nat, k ≤ s.size ∧ i = .int .i64 k ∧ (s.data.toList.take k).all wdB = true) (fun i => s.size - (intOf i).toNat)
  case atStart => exact ⟨0, Nat.zero_le _, rfl, rfl⟩
  case round =>
    obtain ⟨k, hk, rfl, hall⟩ := hrel
    have HA := Lib.hid hall
    clear hall
    by_cases hlt : k < s.size
    · go_wp2
      all_goals first
        | (go_ret; exact ⟨ret_bool (by
            have hn : wdB s[k] = false := by rw [← Bool.not_eq_true, wdB_iff]; simp at *; omega
            unfold wordB; rw [all_of_no s wdB k hlt hn]; rfl), rfl⟩)
        | (go_round
           case rel => exact ⟨k + 1, by omega, by go_num, by
            have hn : wdB s[k] = true := by rw [wdB_iff]; simp at *; omega
            rw [all_take_succ s wdB k hlt, HA.out, hn]; rfl⟩
           case measure => simp [intOf]; omega)
    · have HZ := Lib.hid (all_take_all s wdB k (by omega) HA.out)
      have HE := Lib.hid (emp_size s)
      go_wp2
      all_goals
        go_ret
        exact ⟨ret_bool (by unfold wordB; rw [HZ.out, HE.out]; simp at *; first | done | omega | grind), rfl⟩

set_option maxHeartbeats 1000000 in
theorem wordsFault_any (A : Option Addr) (c : Nat) (l : List ByteArray) (w : World) (hl : l.length ≤ maxLen) (hr : RdS w A l) (hs : ∀ x ∈ l, x.size ≤ 2147483647) :
    Calls Tryd.prog 33 #[.slice A l.length c] w fun e w' => e = .returned (.int .i64 (wordsE l)) ∧ w = w' := by
  unfold maxLen at hl
  have HR := Lib.hid hr
  have HS := Lib.hid hs
  clear hr hs
  go_enter Tryd.func33, Tryd.ntmps33
  go_wp2
  go_loop [7] (fun i => ∃ k : Nat, k ≤ l.length ∧ i = .int .i64 k ∧ (l.take k).all wordB = true) (fun i => l.length - (intOf i).toNat)
  case atStart => exact ⟨0, Nat.zero_le _, rfl, rfl⟩
  case round =>
    obtain ⟨k, hk, rfl, hall⟩ := hrel
    have HA := Lib.hid hall
    clear hall
    by_cases hlt : k < l.length
    · obtain ⟨s, hs⟩ : ∃ s, l[k]? = some s := ⟨_, List.getElem?_eq_getElem hlt⟩
      obtain ⟨ad, hA, hcell⟩ := HR.out k s hs
      have hsz := HS.out s (List.mem_of_getElem? hs)
      have HK := Lib.hid hs
      clear hs
      subst hA
      have hc := visible_word s w hsz
      cases hb : wordB s with
      | true =>
        rw [hb] at hc
        have HC := Lib.hid hc
        have HB := Lib.hid hb
        clear hc hb
        go_wp2_with (go_at_call 55; refine HC.out.mono ?_; rintro e w' ⟨rfl, rfl⟩)
        go_round
        case rel => exact ⟨k + 1, by omega, by go_num, by rw [take_all_succ HK.out, HA.out, HB.out]; rfl⟩
        case measure => simp [intOf]; omega
      | false =>
        rw [hb] at hc
        have HC := Lib.hid hc
        have HB := Lib.hid hb
        clear hc hb
        go_wp2_with (go_at_call 55; refine HC.out.mono ?_; rintro e w' ⟨rfl, rfl⟩)
        go_ret
        exact ⟨ret_int (wordsE_no fun h => no_of_get HK.out HB.out h), rfl⟩
    · have HZ := Lib.hid (take_all_all (p := wordB) (l := l) (k := k) (by omega) HA.out)
      go_wp2
      go_ret
      exact ⟨ret_int (wordsE_yes HZ.out), rfl⟩
end Go.Proofs.YtnidamdfdlkoiaaDoor.A
