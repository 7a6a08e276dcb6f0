/- The checks of names, sums, words and paths: what the program's and the reference's functions answer. -/
import Derived.Test.YtnidamdfdlkoiaaDoorProg
import Derived.Below
import Derived.WalkKit
import Derived.WalkLawsBesides
import Derived.WalkSpells
import Derived.KernelRfl
import Derived.RowKit
import Derived.RowKit3
import Derived.LoopTactic
import Derived.Outline
import Derived.IntWalk
import Derived.Lib.Hide
import Derived.Deep.QuietTactic
import Derived.BigQuiet
namespace Go.Proofs.YtnidamdfdlkoiaaDoor.A
open Go.RowKit

theorem ret_bool {a b : Bool} (h : a = b) : Ending.returned (.bool a) = .returned (.bool b) := by rw [h]
theorem ret_int {k : IntKind} {a b : Int} (h : a = b) : Ending.returned (.int k a) = .returned (.int k b) := by rw [h]

/-- a byte of a name -/
def nmB (c : UInt8) : Bool := (97 ≤ c && c ≤ 122) || (65 ≤ c && c ≤ 90) || (48 ≤ c && c ≤ 57) || c == 45 || c == 95 || c == 46
def nameB (s : ByteArray) : Bool := s.data.toList.all nmB && !s.data.toList.isEmpty && decide (s.size ≤ 60)

theorem nmB_iff (c : UInt8) : nmB c = true ↔ (97 ≤ (c.toNat : Int) ∧ (c.toNat : Int) ≤ 122) ∨ (65 ≤ (c.toNat : Int) ∧ (c.toNat : Int) ≤ 90) ∨ (48 ≤ (c.toNat : Int) ∧ (c.toNat : Int) ≤ 57) ∨ (c.toNat : Int) = 45 ∨ (c.toNat : Int) = 95 ∨ (c.toNat : Int) = 46 := by
  unfold nmB
  simp [UInt8.le_iff_toNat_le, ← UInt8.toNat_inj]
  omega
theorem all_take_succ (s : ByteArray) (p : UInt8 → Bool) (k : Nat) (h : k < s.size) : (s.data.toList.take (k + 1)).all p = ((s.data.toList.take k).all p && p s[k]) := by
  have e : s.data.toList.take (k + 1) = s.data.toList.take k ++ [s[k]] := by
    rw [List.take_succ_eq_append_getElem (by simpa using h)]; rfl
  rw [e, List.all_append]; simp
theorem all_of_no (s : ByteArray) (p : UInt8 → Bool) (k : Nat) (h : k < s.size) (hp : p s[k] = false) : s.data.toList.all p = false := by
  rw [List.all_eq_false]
  exact ⟨s[k], Array.mem_toList_iff.2 (Array.getElem_mem (xs := s.data) h), by simp [hp]⟩
theorem all_take_all (s : ByteArray) (p : UInt8 → Bool) (k : Nat) (h : s.size ≤ k) (ha : (s.data.toList.take k).all p = true) : s.data.toList.all p = true := by
  rwa [List.take_of_length_le (by simpa using h)] at ha
theorem emp_toList (s : ByteArray) : s.data.toList.isEmpty = s.toList.isEmpty := by
  rw [ByteArray.toList_eq]
theorem dec_nat (a b : Nat) : decide ((a : Int) ≤ (b : Int)) = decide (a ≤ b) := by rw [decide_eq_decide]; omega

set_option maxHeartbeats 1000000 in
theorem isName_any (s : ByteArray) (w : World) (hs : s.size ≤ maxLen) :
    Calls Tryd.prog 26 #[.string s] w fun e w' => e = .returned (.bool (nameB s)) ∧ w = w' := by
  unfold maxLen at hs
  go_enter Tryd.func26, Tryd.ntmps26
  go_wp2
  go_loop [7] (fun i => ∃ k : Nat, k ≤ s.size ∧ i = .int .i64 k ∧ (s.data.toList.take k).all nmB = true) (fun i => s.size - (intOf i).toNat)
  case atStart => exact ⟨0, Nat.zero_le _, rfl, rfl⟩
  case round =>
    obtain ⟨k, hk, rfl, hall⟩ := hrel
    have HA := Lib.hid hall
    clear hall
    by_cases hlt : k < s.size
    · go_wp2
      all_goals first
        | (go_ret; exact ⟨ret_bool (by
            have hn : nmB s[k] = false := by rw [← Bool.not_eq_true, nmB_iff]; simp at *; omega
            unfold nameB; rw [all_of_no s nmB k hlt hn]; rfl), rfl⟩)
        | (go_round
           case rel => exact ⟨k + 1, by omega, by go_num, by
            have hn : nmB s[k] = true := by rw [nmB_iff]; simp at *; omega
            rw [all_take_succ s nmB k hlt, HA.out, hn]; rfl⟩
           case measure => simp [intOf]; omega)
    · have HZ := Lib.hid (all_take_all s nmB k (by omega) HA.out)
      go_wp2
      all_goals
        go_ret
        exact ⟨ret_bool (by unfold nameB; rw [HZ.out, emp_toList, ← dec_nat s.size 60]; simp [*]), rfl⟩

set_option maxHeartbeats 1000000 in
theorem isName8_any (s : ByteArray) (w : World) (hs : s.size ≤ maxLen) :
    Calls Tryd.prog 32 #[.string s] w fun e w' => e = .returned (.bool (nameB s)) ∧ w = w' := by
  unfold maxLen at hs
  go_enter Tryd.func32, Tryd.ntmps32
  go_wp2
  go_loop [3] (fun i => ∃ k : Nat, k ≤ s.size ∧ i = .int .i64 k ∧ (s.data.toList.take k).all nmB = true) (fun i => s.size - (intOf i).toNat)
  case atStart => exact ⟨0, Nat.zero_le _, rfl, rfl⟩
  case round =>
    obtain ⟨k, hk, rfl, hall⟩ := hrel
    have HA := Lib.hid hall
    clear hall
    by_cases hlt : k < s.size
    · go_wp2
      all_goals first
        | (go_ret; exact ⟨ret_bool (by
            have hn : nmB s[k] = false := by rw [← Bool.not_eq_true, nmB_iff]; simp at *; omega
            unfold nameB; rw [all_of_no s nmB k hlt hn]; rfl), rfl⟩)
        | (go_round
           case rel => exact ⟨k + 1, by omega, by go_num, by
            have hn : nmB s[k] = true := by rw [nmB_iff]; simp at *; omega
            rw [all_take_succ s nmB k hlt, HA.out, hn]; rfl⟩
           case measure => simp [intOf]; omega)
    · have HZ := Lib.hid (all_take_all s nmB k (by omega) HA.out)
      have hemp : s.data.toList.isEmpty = decide ((s.size : Int) < 1) := by
        rw [show s.size = s.data.toList.length from by simp]
        cases s.data.toList <;> simp <;> omega
      have HE := Lib.hid hemp
      clear hemp
      go_wp2
      all_goals
        go_ret
        exact ⟨ret_bool (by unfold nameB; rw [HZ.out, HE.out, ← dec_nat s.size 60]; simp at *; first | omega | grind), rfl⟩
end Go.Proofs.YtnidamdfdlkoiaaDoor.A
