/- The reference's rulesFault. -/
import Derived.Test.YtnidamdfdlkoiaaDoorG4
namespace Go.Proofs.YtnidamdfdlkoiaaDoor.A
open Go.RowKit

theorem BSet.later {w W : World} {b n : Nat} {f : List UInt8 → Bool} (h : BSet w b n f) (hb : Below w.heap.size w W) : BSet W b n f := h.kept (row := none) ⟨hb.os, hb.tape, hb.output, hb.size, fun i hi _ => hb.block i hi⟩ (by simp)

set_option maxHeartbeats 8000000 in
set_option maxRecDepth 100000 in
theorem rulesFault_any (A : Option Addr) (c : Nat) (l : List RuleD) (product : Bool) (M m : Nat) (f : List UInt8 → Bool) (earlier : List StepD) (hf : ∀ s : ByteArray, f s.data.toList = earlier.any (stepIs s)) (w : World) (hr : RdR w A l) (hm : BSet w M m f) (hl : l.length ≤ 1048576) (hs : ∀ r ∈ l, r.Small) :
    Calls Tryd.prog 68 #[.slice A l.length c, .bool product, .map (some M)] w fun e w' => e = .returned (.int .i64 (rulesE product earlier l)) ∧ Below w.heap.size w w' := by
  have HM := Lib.hid hm
  have HMF := Lib.hid hf
  clear hm hf
  unfold rulesE
  have HR := Lib.hid hr
  have HS := Lib.hid hs
  clear hr hs
  generalize hn : l.length = n at *
  have HN := Lib.hid hn
  clear hn
  go_enter Tryd.func68, Tryd.ntmps68
  go_wp2
  go_loopw [11] (fun i wr => ∃ k : Nat, k ≤ n ∧ i = .int .i64 k ∧ Hid (FaultAt (fun _ r => ruleE product earlier r) l k) ∧ Hid (Below w.heap.size w wr)) (fun i _ => n - (intOf i).toNat)
  case atStart => exact ⟨0, by omega, rfl, fault_start, Below.refl _ _⟩
  case round =>
    obtain ⟨k, hk, rfl, HA, HB⟩ := hrel
    by_cases hlt : k < n
    · obtain ⟨a, ha⟩ : ∃ a, l[k]? = some a := ⟨_, List.getElem?_eq_getElem (by rw [HN.out]; exact hlt)⟩
      obtain ⟨ad, hA, q0, q1, q2, q3⟩ := (HR.out.below HB.out) k a ha
      have hsm := (HS.out a (List.mem_of_getElem? ha)).max
      obtain ⟨kd, pat, step, of⟩ := a
      dsimp only at q0 q1 q2 q3 hsm
      have HP := Lib.hid (fun W => visible_path pat W hsm.1)
      have HK := Lib.hid ha
      have HBA := Lib.hid (HB.out.alloc HB.out.size (.cells #[.int .i64 kd, .string pat, .string step, .bool of] 83))
      have HZ := Lib.hid hsm
      clear ha hsm
      subst hA
      by_cases h1 : kd < 1
      · have HE := Lib.hid (fault_hit HA.out HK.out (ruleE_kind (.inl h1)) (by decide))
        go_wp2
        go_ret
        exact ⟨ret_int HE.out.symm, HBA.out⟩
      by_cases h7 : 7 < kd
      · have HE := Lib.hid (fault_hit HA.out HK.out (ruleE_kind (.inr (.inl h7))) (by decide))
        go_wp2
        go_ret
        exact ⟨ret_int HE.out.symm, HBA.out⟩
      rcases (show kd = 1 ∨ kd = 2 ∨ kd = 3 ∨ kd = 4 ∨ kd = 5 ∨ kd = 6 ∨ kd = 7 from by omega) with rfl | rfl | rfl | rfl | rfl | rfl | rfl
      · clear h1 h7
        cases hp : pathB pat with
        | false =>
          rw [hp] at HP
          have HE := Lib.hid (fault_hit HA.out HK.out (ruleE_form (kind_ok_1) (.inl hp)) (by decide))
          clear hp
          go_wp2_with (go_at_call 55; refine (HP.out _).mono ?_; rintro e w' ⟨rfl, rfl⟩)
          go_ret
          exact ⟨ret_int HE.out.symm, HBA.out⟩
        | true =>
          rw [hp] at HP
          cases he : emptyB step with
          | false =>
            have HE := Lib.hid (fault_hit HA.out HK.out (ruleE_form (kind_ok_1) (.inr ⟨show (1 : Int) ≠ 4 by decide, .inl he⟩)) (by decide))
            unfold emptyB at he
            clear hp
            go_wp2_with (go_at_call 55; refine (HP.out _).mono ?_; rintro e w' ⟨rfl, rfl⟩)
            go_ret
            exact ⟨ret_int HE.out.symm, HBA.out⟩
          | true =>
            cases of with
            | true =>
              have HE := Lib.hid (fault_hit HA.out HK.out (ruleE_form (kind_ok_1) (.inr ⟨show (1 : Int) ≠ 4 by decide, .inr rfl⟩)) (by decide))
              unfold emptyB at he
              clear hp
              go_wp2_with (go_at_call 55; refine (HP.out _).mono ?_; rintro e w' ⟨rfl, rfl⟩)
              go_ret
              exact ⟨ret_int HE.out.symm, HBA.out⟩
            | false =>
              have HX := Lib.hid (fault_next HA.out HK.out (ruleE_ok (kind_ok_1) (form_ok hp he rfl) (.inl (show (1 : Int) ≠ 4 by decide))))
              unfold emptyB at he
              clear hp
              go_wp2_with (go_at_call 55; refine (HP.out _).mono ?_; rintro e w' ⟨rfl, rfl⟩)
              go_roundw
              case rel => exact ⟨k + 1, by omega, by go_num, HX, HBA⟩
              case measure => simp [intOf]; omega
      · clear h1 h7
        cases hp : pathB pat with
        | false =>
          rw [hp] at HP
          have HE := Lib.hid (fault_hit HA.out HK.out (ruleE_form (kind_ok_2) (.inl hp)) (by decide))
          clear hp
          go_wp2_with (go_at_call 55; refine (HP.out _).mono ?_; rintro e w' ⟨rfl, rfl⟩)
          go_ret
          exact ⟨ret_int HE.out.symm, HBA.out⟩
        | true =>
          rw [hp] at HP
          cases he : emptyB step with
          | false =>
            have HE := Lib.hid (fault_hit HA.out HK.out (ruleE_form (kind_ok_2) (.inr ⟨show (2 : Int) ≠ 4 by decide, .inl he⟩)) (by decide))
            unfold emptyB at he
            clear hp
            go_wp2_with (go_at_call 55; refine (HP.out _).mono ?_; rintro e w' ⟨rfl, rfl⟩)
            go_ret
            exact ⟨ret_int HE.out.symm, HBA.out⟩
          | true =>
            cases of with
            | true =>
              have HE := Lib.hid (fault_hit HA.out HK.out (ruleE_form (kind_ok_2) (.inr ⟨show (2 : Int) ≠ 4 by decide, .inr rfl⟩)) (by decide))
              unfold emptyB at he
              clear hp
              go_wp2_with (go_at_call 55; refine (HP.out _).mono ?_; rintro e w' ⟨rfl, rfl⟩)
              go_ret
              exact ⟨ret_int HE.out.symm, HBA.out⟩
            | false =>
              have HX := Lib.hid (fault_next HA.out HK.out (ruleE_ok (kind_ok_2) (form_ok hp he rfl) (.inl (show (2 : Int) ≠ 4 by decide))))
              unfold emptyB at he
              clear hp
              go_wp2_with (go_at_call 55; refine (HP.out _).mono ?_; rintro e w' ⟨rfl, rfl⟩)
              go_roundw
              case rel => exact ⟨k + 1, by omega, by go_num, HX, HBA⟩
              case measure => simp [intOf]; omega
      · clear h1 h7
        cases hp : pathB pat with
        | false =>
          rw [hp] at HP
          have HE := Lib.hid (fault_hit HA.out HK.out (ruleE_form (kind_ok_3) (.inl hp)) (by decide))
          clear hp
          go_wp2_with (go_at_call 55; refine (HP.out _).mono ?_; rintro e w' ⟨rfl, rfl⟩)
          go_ret
          exact ⟨ret_int HE.out.symm, HBA.out⟩
        | true =>
          rw [hp] at HP
          cases he : emptyB step with
          | false =>
            have HE := Lib.hid (fault_hit HA.out HK.out (ruleE_form (kind_ok_3) (.inr ⟨show (3 : Int) ≠ 4 by decide, .inl he⟩)) (by decide))
            unfold emptyB at he
            clear hp
            go_wp2_with (go_at_call 55; refine (HP.out _).mono ?_; rintro e w' ⟨rfl, rfl⟩)
            go_ret
            exact ⟨ret_int HE.out.symm, HBA.out⟩
          | true =>
            cases of with
            | true =>
              have HE := Lib.hid (fault_hit HA.out HK.out (ruleE_form (kind_ok_3) (.inr ⟨show (3 : Int) ≠ 4 by decide, .inr rfl⟩)) (by decide))
              unfold emptyB at he
              clear hp
              go_wp2_with (go_at_call 55; refine (HP.out _).mono ?_; rintro e w' ⟨rfl, rfl⟩)
              go_ret
              exact ⟨ret_int HE.out.symm, HBA.out⟩
            | false =>
              have HX := Lib.hid (fault_next HA.out HK.out (ruleE_ok (kind_ok_3) (form_ok hp he rfl) (.inl (show (3 : Int) ≠ 4 by decide))))
              unfold emptyB at he
              clear hp
              go_wp2_with (go_at_call 55; refine (HP.out _).mono ?_; rintro e w' ⟨rfl, rfl⟩)
              go_roundw
              case rel => exact ⟨k + 1, by omega, by go_num, HX, HBA⟩
              case measure => simp [intOf]; omega
      · clear h1 h7
        cases hp : pathB pat with
        | false =>
          rw [hp] at HP
          have HE := Lib.hid (fault_hit HA.out HK.out (ruleE_form (kind_ok_4) (.inl hp)) (by decide))
          clear hp
          go_wp2_with (go_at_call 55; refine (HP.out _).mono ?_; rintro e w' ⟨rfl, rfl⟩)
          go_ret
          exact ⟨ret_int HE.out.symm, HBA.out⟩
        | true =>
          rw [hp] at HP
          have hlook := (HM.out.later HBA.out).look step HZ.out.2
          rw [HMF.out step] at hlook
          cases ht : earlier.any (stepIs step) with
          | true =>
            rw [ht] at hlook
            have HX := Lib.hid (fault_next HA.out HK.out (ruleE_ok kind_ok_4 (form_ok4 hp) (.inr ht)))
            clear hp ht
            go_wp2_with (go_at_call 55; refine (HP.out _).mono ?_; rintro e w' ⟨rfl, rfl⟩)
            go_roundw
            case rel => exact ⟨k + 1, by omega, by go_num, HX, HBA⟩
            case measure => simp [intOf]; omega
          | false =>
            rw [ht] at hlook
            have HE := Lib.hid (fault_hit HA.out HK.out (ruleE_none kind_ok_4 (form_ok4 hp) rfl ht) (by decide))
            clear hp ht
            go_wp2_with (go_at_call 55; refine (HP.out _).mono ?_; rintro e w' ⟨rfl, rfl⟩)
            go_ret
            exact ⟨ret_int HE.out.symm, HBA.out⟩
      · clear h1 h7
        cases product with
        | false =>
          have HE := Lib.hid (fault_hit HA.out HK.out (ruleE_kind (.inr (.inr ⟨show (5 : Int) ≤ 5 by decide, rfl⟩))) (by decide))
          go_wp2
          go_ret
          exact ⟨ret_int HE.out.symm, HBA.out⟩
        | true =>
          cases hp : pathB pat with
          | false =>
            rw [hp] at HP
            have HE := Lib.hid (fault_hit HA.out HK.out (ruleE_form (kind_ok_5 rfl) (.inl hp)) (by decide))
            clear hp
            go_wp2_with (go_at_call 55; refine (HP.out _).mono ?_; rintro e w' ⟨rfl, rfl⟩)
            go_ret
            exact ⟨ret_int HE.out.symm, HBA.out⟩
          | true =>
            rw [hp] at HP
            cases he : emptyB step with
            | false =>
              have HE := Lib.hid (fault_hit HA.out HK.out (ruleE_form (kind_ok_5 rfl) (.inr ⟨show (5 : Int) ≠ 4 by decide, .inl he⟩)) (by decide))
              unfold emptyB at he
              clear hp
              go_wp2_with (go_at_call 55; refine (HP.out _).mono ?_; rintro e w' ⟨rfl, rfl⟩)
              go_ret
              exact ⟨ret_int HE.out.symm, HBA.out⟩
            | true =>
              cases of with
              | true =>
                have HE := Lib.hid (fault_hit HA.out HK.out (ruleE_form (kind_ok_5 rfl) (.inr ⟨show (5 : Int) ≠ 4 by decide, .inr rfl⟩)) (by decide))
                unfold emptyB at he
                clear hp
                go_wp2_with (go_at_call 55; refine (HP.out _).mono ?_; rintro e w' ⟨rfl, rfl⟩)
                go_ret
                exact ⟨ret_int HE.out.symm, HBA.out⟩
              | false =>
                have HX := Lib.hid (fault_next HA.out HK.out (ruleE_ok (kind_ok_5 rfl) (form_ok hp he rfl) (.inl (show (5 : Int) ≠ 4 by decide))))
                unfold emptyB at he
                clear hp
                go_wp2_with (go_at_call 55; refine (HP.out _).mono ?_; rintro e w' ⟨rfl, rfl⟩)
                go_roundw
                case rel => exact ⟨k + 1, by omega, by go_num, HX, HBA⟩
                case measure => simp [intOf]; omega
      · clear h1 h7
        cases product with
        | false =>
          have HE := Lib.hid (fault_hit HA.out HK.out (ruleE_kind (.inr (.inr ⟨show (5 : Int) ≤ 6 by decide, rfl⟩))) (by decide))
          go_wp2
          go_ret
          exact ⟨ret_int HE.out.symm, HBA.out⟩
        | true =>
          cases hp : pathB pat with
          | false =>
            rw [hp] at HP
            have HE := Lib.hid (fault_hit HA.out HK.out (ruleE_form (kind_ok_6 rfl) (.inl hp)) (by decide))
            clear hp
            go_wp2_with (go_at_call 55; refine (HP.out _).mono ?_; rintro e w' ⟨rfl, rfl⟩)
            go_ret
            exact ⟨ret_int HE.out.symm, HBA.out⟩
          | true =>
            rw [hp] at HP
            cases he : emptyB step with
            | false =>
              have HE := Lib.hid (fault_hit HA.out HK.out (ruleE_form (kind_ok_6 rfl) (.inr ⟨show (6 : Int) ≠ 4 by decide, .inl he⟩)) (by decide))
              unfold emptyB at he
              clear hp
              go_wp2_with (go_at_call 55; refine (HP.out _).mono ?_; rintro e w' ⟨rfl, rfl⟩)
              go_ret
              exact ⟨ret_int HE.out.symm, HBA.out⟩
            | true =>
              cases of with
              | true =>
                have HE := Lib.hid (fault_hit HA.out HK.out (ruleE_form (kind_ok_6 rfl) (.inr ⟨show (6 : Int) ≠ 4 by decide, .inr rfl⟩)) (by decide))
                unfold emptyB at he
                clear hp
                go_wp2_with (go_at_call 55; refine (HP.out _).mono ?_; rintro e w' ⟨rfl, rfl⟩)
                go_ret
                exact ⟨ret_int HE.out.symm, HBA.out⟩
              | false =>
                have HX := Lib.hid (fault_next HA.out HK.out (ruleE_ok (kind_ok_6 rfl) (form_ok hp he rfl) (.inl (show (6 : Int) ≠ 4 by decide))))
                unfold emptyB at he
                clear hp
                go_wp2_with (go_at_call 55; refine (HP.out _).mono ?_; rintro e w' ⟨rfl, rfl⟩)
                go_roundw
                case rel => exact ⟨k + 1, by omega, by go_num, HX, HBA⟩
                case measure => simp [intOf]; omega
      · clear h1 h7
        cases product with
        | false =>
          have HE := Lib.hid (fault_hit HA.out HK.out (ruleE_kind (.inr (.inr ⟨show (5 : Int) ≤ 7 by decide, rfl⟩))) (by decide))
          go_wp2
          go_ret
          exact ⟨ret_int HE.out.symm, HBA.out⟩
        | true =>
          cases hp : pathB pat with
          | false =>
            rw [hp] at HP
            have HE := Lib.hid (fault_hit HA.out HK.out (ruleE_form (kind_ok_7 rfl) (.inl hp)) (by decide))
            clear hp
            go_wp2_with (go_at_call 55; refine (HP.out _).mono ?_; rintro e w' ⟨rfl, rfl⟩)
            go_ret
            exact ⟨ret_int HE.out.symm, HBA.out⟩
          | true =>
            rw [hp] at HP
            cases he : emptyB step with
            | false =>
              have HE := Lib.hid (fault_hit HA.out HK.out (ruleE_form (kind_ok_7 rfl) (.inr ⟨show (7 : Int) ≠ 4 by decide, .inl he⟩)) (by decide))
              unfold emptyB at he
              clear hp
              go_wp2_with (go_at_call 55; refine (HP.out _).mono ?_; rintro e w' ⟨rfl, rfl⟩)
              go_ret
              exact ⟨ret_int HE.out.symm, HBA.out⟩
            | true =>
              cases of with
              | true =>
                have HE := Lib.hid (fault_hit HA.out HK.out (ruleE_form (kind_ok_7 rfl) (.inr ⟨show (7 : Int) ≠ 4 by decide, .inr rfl⟩)) (by decide))
                unfold emptyB at he
                clear hp
                go_wp2_with (go_at_call 55; refine (HP.out _).mono ?_; rintro e w' ⟨rfl, rfl⟩)
                go_ret
                exact ⟨ret_int HE.out.symm, HBA.out⟩
              | false =>
                have HX := Lib.hid (fault_next HA.out HK.out (ruleE_ok (kind_ok_7 rfl) (form_ok hp he rfl) (.inl (show (7 : Int) ≠ 4 by decide))))
                unfold emptyB at he
                clear hp
                go_wp2_with (go_at_call 55; refine (HP.out _).mono ?_; rintro e w' ⟨rfl, rfl⟩)
                go_roundw
                case rel => exact ⟨k + 1, by omega, by go_num, HX, HBA⟩
                case measure => simp [intOf]; omega
    · have HE := Lib.hid (fault_end HA.out (by rw [HN.out]; omega))
      go_wp2
      go_ret
      exact ⟨ret_int HE.out.symm, HB.out⟩
end Go.Proofs.YtnidamdfdlkoiaaDoor.A
