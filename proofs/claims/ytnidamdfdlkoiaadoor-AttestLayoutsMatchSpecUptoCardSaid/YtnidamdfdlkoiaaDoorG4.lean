/- checkRules. -/
import Derived.Test.YtnidamdfdlkoiaaDoorG3
namespace Go.Proofs.YtnidamdfdlkoiaaDoor.A
open Go.RowKit

theorem RuleD.Small.max {r : RuleD} (h : r.Small) : r.pat.size ≤ maxLen ∧ r.step.size ≤ maxLen := by
  have h1 := h.pat; have h2 := h.step
  unfold maxLen
  omega
section
variable {product : Bool} {earlier : List StepD} {r : RuleD} {pat step : ByteArray} {of : Bool} {kd : Int}
theorem ruleE_kind (h : kindBad r product) : ruleE product earlier r = 7 := by unfold ruleE; rw [if_pos h]
theorem ruleE_form (h : ¬ kindBad r product) (h2 : formBad r) : ruleE product earlier r = 2 := by unfold ruleE; rw [if_neg h, if_pos h2]
theorem ruleE_none (h : ¬ kindBad r product) (h2 : ¬ formBad r) (h3 : r.kind = 4) (h4 : earlier.any (stepIs r.step) = false) : ruleE product earlier r = 4 := by unfold ruleE; rw [if_neg h, if_neg h2, if_pos ⟨h3, h4⟩]
theorem ruleE_ok (h : ¬ kindBad r product) (h2 : ¬ formBad r) (h3 : r.kind ≠ 4 ∨ earlier.any (stepIs r.step) = true) : ruleE product earlier r = 0 := by
  unfold ruleE; rw [if_neg h, if_neg h2, if_neg (by rcases h3 with h3 | h3 <;> simp [h3])]
theorem kind_ok_1 : ¬ kindBad ⟨1, pat, step, of⟩ product := by unfold kindBad; simp
theorem kind_ok_2 : ¬ kindBad ⟨2, pat, step, of⟩ product := by unfold kindBad; simp
theorem kind_ok_3 : ¬ kindBad ⟨3, pat, step, of⟩ product := by unfold kindBad; simp
theorem kind_ok_4 : ¬ kindBad ⟨4, pat, step, of⟩ product := by unfold kindBad; simp
theorem kind_ok_5 (h : product = true) : ¬ kindBad ⟨5, pat, step, of⟩ product := by unfold kindBad; simp [h]
theorem kind_ok_6 (h : product = true) : ¬ kindBad ⟨6, pat, step, of⟩ product := by unfold kindBad; simp [h]
theorem kind_ok_7 (h : product = true) : ¬ kindBad ⟨7, pat, step, of⟩ product := by unfold kindBad; simp [h]
theorem form_ok (hp : pathB pat = true) (he : emptyB step = true) (ho : of = false) : ¬ formBad ⟨kd, pat, step, of⟩ := by unfold formBad; simp [hp, he, ho]
theorem form_ok4 (hp : pathB pat = true) : ¬ formBad ⟨4, pat, step, of⟩ := by unfold formBad; simp [hp]
end

set_option maxHeartbeats 8000000 in
set_option maxRecDepth 100000 in
theorem checkRules_any (A A2 : Option Addr) (c c2 m : Nat) (l : List RuleD) (product : Bool) (earlier : List StepD) (hm : earlier.length = m) (w : World) (hr : RdR w A l) (hr2 : RdSt w A2 earlier) (hl : l.length ≤ 1048576) (hl2 : m ≤ 1048576) (hs : ∀ r ∈ l, r.Small) :
    Calls Tryd.prog 67 #[.slice A l.length c, .bool product, .slice A2 m c2] w fun e w' => e = .returned (.int .i64 (rulesE product earlier l)) ∧ Below w.heap.size w w' := by
  have HR2 := Lib.hid hr2
  have HM := Lib.hid hm
  clear hr2 hm
  unfold rulesE
  have HR := Lib.hid hr
  have HS := Lib.hid hs
  clear hr hs
  generalize hn : l.length = n at *
  have HN := Lib.hid hn
  clear hn
  go_enter Tryd.func67, Tryd.ntmps67
  go_wp2
  go_loopw [12] (fun i wr => ∃ k : Nat, k ≤ n ∧ i = .int .i64 k ∧ Hid (FaultAt (fun _ r => ruleE product earlier r) l k) ∧ Hid (Below w.heap.size w wr)) (fun i _ => n - (intOf i).toNat)
  case atStart => exact ⟨0, by omega, rfl, fault_start, Below.refl _ _⟩
  case round =>
    obtain ⟨k, hk, rfl, HA, HB⟩ := hrel
    by_cases hlt : k < n
    · obtain ⟨a, ha⟩ : ∃ a, l[k]? = some a := ⟨_, List.getElem?_eq_getElem (by rw [HN.out]; exact hlt)⟩
      obtain ⟨ad, hA, q0, q1, q2, q3⟩ := (HR.out.below HB.out) k a ha
      have hsm := (HS.out a (List.mem_of_getElem? ha)).max
      obtain ⟨kd, pat, step, of⟩ := a
      dsimp only at q0 q1 q2 q3 hsm
      have HP := Lib.hid (fun W => isPath_any pat W hsm.1)
      have HK := Lib.hid ha
      have HBA := Lib.hid (HB.out.alloc HB.out.size (.cells #[.int .i64 kd, .string pat, .string step, .bool of] 83))
      have HZ := Lib.hid hsm
      clear ha hsm
      subst hA
      by_cases h1 : kd < 1
      · have HE := Lib.hid (fault_hit HA.out HK.out (ruleE_kind (.inl h1)) (by decide))
        go_wp2
        go_ret
        exact ⟨ret_int HE.out.symm, HBA.out⟩
      by_cases h7 : 7 < kd
      · have HE := Lib.hid (fault_hit HA.out HK.out (ruleE_kind (.inr (.inl h7))) (by decide))
        go_wp2
        go_ret
        exact ⟨ret_int HE.out.symm, HBA.out⟩
      rcases (show kd = 1 ∨ kd = 2 ∨ kd = 3 ∨ kd = 4 ∨ kd = 5 ∨ kd = 6 ∨ kd = 7 from by omega) with rfl | rfl | rfl | rfl | rfl | rfl | rfl
      · clear h1 h7
        cases hp : pathB pat with
        | false =>
          rw [hp] at HP
          have HE := Lib.hid (fault_hit HA.out HK.out (ruleE_form (kind_ok_1) (.inl hp)) (by decide))
          clear hp
          go_wp2_with (go_at_call 53; refine (HP.out _).mono ?_; rintro e w' ⟨rfl, rfl⟩)
          go_ret
          exact ⟨ret_int HE.out.symm, HBA.out⟩
        | true =>
          rw [hp] at HP
          cases he : emptyB step with
          | false =>
            have HE := Lib.hid (fault_hit HA.out HK.out (ruleE_form (kind_ok_1) (.inr ⟨show (1 : Int) ≠ 4 by decide, .inl he⟩)) (by decide))
            unfold emptyB at he
            clear hp
            go_wp2_with (go_at_call 53; refine (HP.out _).mono ?_; rintro e w' ⟨rfl, rfl⟩)
            go_ret
            exact ⟨ret_int HE.out.symm, HBA.out⟩
          | true =>
            cases of with
            | true =>
              have HE := Lib.hid (fault_hit HA.out HK.out (ruleE_form (kind_ok_1) (.inr ⟨show (1 : Int) ≠ 4 by decide, .inr rfl⟩)) (by decide))
              unfold emptyB at he
              clear hp
              go_wp2_with (go_at_call 53; refine (HP.out _).mono ?_; rintro e w' ⟨rfl, rfl⟩)
              go_ret
              exact ⟨ret_int HE.out.symm, HBA.out⟩
            | false =>
              have HX := Lib.hid (fault_next HA.out HK.out (ruleE_ok (kind_ok_1) (form_ok hp he rfl) (.inl (show (1 : Int) ≠ 4 by decide))))
              unfold emptyB at he
              clear hp
              go_wp2_with (go_at_call 53; refine (HP.out _).mono ?_; rintro e w' ⟨rfl, rfl⟩)
              go_roundw
              case rel => exact ⟨k + 1, by omega, by go_num, HX, HBA⟩
              case measure => simp [intOf]; omega
      · clear h1 h7
        cases hp : pathB pat with
        | false =>
          rw [hp] at HP
          have HE := Lib.hid (fault_hit HA.out HK.out (ruleE_form (kind_ok_2) (.inl hp)) (by decide))
          clear hp
          go_wp2_with (go_at_call 53; refine (HP.out _).mono ?_; rintro e w' ⟨rfl, rfl⟩)
          go_ret
          exact ⟨ret_int HE.out.symm, HBA.out⟩
        | true =>
          rw [hp] at HP
          cases he : emptyB step with
          | false =>
            have HE := Lib.hid (fault_hit HA.out HK.out (ruleE_form (kind_ok_2) (.inr ⟨show (2 : Int) ≠ 4 by decide, .inl he⟩)) (by decide))
            unfold emptyB at he
            clear hp
            go_wp2_with (go_at_call 53; refine (HP.out _).mono ?_; rintro e w' ⟨rfl, rfl⟩)
            go_ret
            exact ⟨ret_int HE.out.symm, HBA.out⟩
          | true =>
            cases of with
            | true =>
              have HE := Lib.hid (fault_hit HA.out HK.out (ruleE_form (kind_ok_2) (.inr ⟨show (2 : Int) ≠ 4 by decide, .inr rfl⟩)) (by decide))
              unfold emptyB at he
              clear hp
              go_wp2_with (go_at_call 53; refine (HP.out _).mono ?_; rintro e w' ⟨rfl, rfl⟩)
              go_ret
              exact ⟨ret_int HE.out.symm, HBA.out⟩
            | false =>
              have HX := Lib.hid (fault_next HA.out HK.out (ruleE_ok (kind_ok_2) (form_ok hp he rfl) (.inl (show (2 : Int) ≠ 4 by decide))))
              unfold emptyB at he
              clear hp
              go_wp2_with (go_at_call 53; refine (HP.out _).mono ?_; rintro e w' ⟨rfl, rfl⟩)
              go_roundw
              case rel => exact ⟨k + 1, by omega, by go_num, HX, HBA⟩
              case measure => simp [intOf]; omega
      · clear h1 h7
        cases hp : pathB pat with
        | false =>
          rw [hp] at HP
          have HE := Lib.hid (fault_hit HA.out HK.out (ruleE_form (kind_ok_3) (.inl hp)) (by decide))
          clear hp
          go_wp2_with (go_at_call 53; refine (HP.out _).mono ?_; rintro e w' ⟨rfl, rfl⟩)
          go_ret
          exact ⟨ret_int HE.out.symm, HBA.out⟩
        | true =>
          rw [hp] at HP
          cases he : emptyB step with
          | false =>
            have HE := Lib.hid (fault_hit HA.out HK.out (ruleE_form (kind_ok_3) (.inr ⟨show (3 : Int) ≠ 4 by decide, .inl he⟩)) (by decide))
            unfold emptyB at he
            clear hp
            go_wp2_with (go_at_call 53; refine (HP.out _).mono ?_; rintro e w' ⟨rfl, rfl⟩)
            go_ret
            exact ⟨ret_int HE.out.symm, HBA.out⟩
          | true =>
            cases of with
            | true =>
              have HE := Lib.hid (fault_hit HA.out HK.out (ruleE_form (kind_ok_3) (.inr ⟨show (3 : Int) ≠ 4 by decide, .inr rfl⟩)) (by decide))
              unfold emptyB at he
              clear hp
              go_wp2_with (go_at_call 53; refine (HP.out _).mono ?_; rintro e w' ⟨rfl, rfl⟩)
              go_ret
              exact ⟨ret_int HE.out.symm, HBA.out⟩
            | false =>
              have HX := Lib.hid (fault_next HA.out HK.out (ruleE_ok (kind_ok_3) (form_ok hp he rfl) (.inl (show (3 : Int) ≠ 4 by decide))))
              unfold emptyB at he
              clear hp
              go_wp2_with (go_at_call 53; refine (HP.out _).mono ?_; rintro e w' ⟨rfl, rfl⟩)
              go_roundw
              case rel => exact ⟨k + 1, by omega, by go_num, HX, HBA⟩
              case measure => simp [intOf]; omega
      · clear h1 h7
        cases hp : pathB pat with
        | false =>
          rw [hp] at HP
          have HE := Lib.hid (fault_hit HA.out HK.out (ruleE_form (kind_ok_4) (.inl hp)) (by decide))
          clear hp
          go_wp2_with (go_at_call 53; refine (HP.out _).mono ?_; rintro e w' ⟨rfl, rfl⟩)
          go_ret
          exact ⟨ret_int HE.out.symm, HBA.out⟩
        | true =>
          rw [hp] at HP
          have HF := Lib.hid (FiveAt.new wr (.cells #[.int .i64 4, .string pat, .string step, .bool of] 83))
          have HCF := Lib.hid (containsStep 76 #[.pointer (some ⟨wr.heap.size, 0, none⟩)] (stepIs step) A2 c2 m earlier HM.out _ (HR2.out.below HBA.out) hl2 (enters_of Tryd.func76 (by kernel_rfl) rfl)
            (fun W x A1 A2 A3 A4 c1 c2 c3 c4 hb _ _ => closRuleStep x A1 A2 A3 A4 c1 c2 c3 c4 step wr.heap.size W ((HF.out.keep hb).four).2.2.1))
          cases ht : earlier.any (stepIs step) with
          | true =>
            rw [ht] at HCF
            have HX := Lib.hid (fault_next HA.out HK.out (ruleE_ok kind_ok_4 (form_ok4 hp) (.inr ht)))
            clear hp ht
            go_wp2_with (go_at_call 53; refine (HP.out _).mono ?_; rintro e w' ⟨rfl, rfl⟩)
            refine HCF.out.mono ?_
            rintro e w2 ⟨rfl, hb⟩
            have HB2 := Lib.hid (HBA.out.trans (hb.mono HBA.out.size))
            clear hb
            go_wp2
            go_roundw
            case rel => exact ⟨k + 1, by omega, by go_num, HX, HB2⟩
            case measure => simp [intOf]; omega
          | false =>
            rw [ht] at HCF
            have HE := Lib.hid (fault_hit HA.out HK.out (ruleE_none kind_ok_4 (form_ok4 hp) rfl ht) (by decide))
            clear hp ht
            go_wp2_with (go_at_call 53; refine (HP.out _).mono ?_; rintro e w' ⟨rfl, rfl⟩)
            refine HCF.out.mono ?_
            rintro e w2 ⟨rfl, hb⟩
            have HB2 := Lib.hid (HBA.out.trans (hb.mono HBA.out.size))
            clear hb
            go_wp2
            go_ret
            exact ⟨ret_int HE.out.symm, HB2.out⟩
      · clear h1 h7
        cases product with
        | false =>
          have HE := Lib.hid (fault_hit HA.out HK.out (ruleE_kind (.inr (.inr ⟨show (5 : Int) ≤ 5 by decide, rfl⟩))) (by decide))
          go_wp2
          go_ret
          exact ⟨ret_int HE.out.symm, HBA.out⟩
        | true =>
          cases hp : pathB pat with
          | false =>
            rw [hp] at HP
            have HE := Lib.hid (fault_hit HA.out HK.out (ruleE_form (kind_ok_5 rfl) (.inl hp)) (by decide))
            clear hp
            go_wp2_with (go_at_call 53; refine (HP.out _).mono ?_; rintro e w' ⟨rfl, rfl⟩)
            go_ret
            exact ⟨ret_int HE.out.symm, HBA.out⟩
          | true =>
            rw [hp] at HP
            cases he : emptyB step with
            | false =>
              have HE := Lib.hid (fault_hit HA.out HK.out (ruleE_form (kind_ok_5 rfl) (.inr ⟨show (5 : Int) ≠ 4 by decide, .inl he⟩)) (by decide))
              unfold emptyB at he
              clear hp
              go_wp2_with (go_at_call 53; refine (HP.out _).mono ?_; rintro e w' ⟨rfl, rfl⟩)
              go_ret
              exact ⟨ret_int HE.out.symm, HBA.out⟩
            | true =>
              cases of with
              | true =>
                have HE := Lib.hid (fault_hit HA.out HK.out (ruleE_form (kind_ok_5 rfl) (.inr ⟨show (5 : Int) ≠ 4 by decide, .inr rfl⟩)) (by decide))
                unfold emptyB at he
                clear hp
                go_wp2_with (go_at_call 53; refine (HP.out _).mono ?_; rintro e w' ⟨rfl, rfl⟩)
                go_ret
                exact ⟨ret_int HE.out.symm, HBA.out⟩
              | false =>
                have HX := Lib.hid (fault_next HA.out HK.out (ruleE_ok (kind_ok_5 rfl) (form_ok hp he rfl) (.inl (show (5 : Int) ≠ 4 by decide))))
                unfold emptyB at he
                clear hp
                go_wp2_with (go_at_call 53; refine (HP.out _).mono ?_; rintro e w' ⟨rfl, rfl⟩)
                go_roundw
                case rel => exact ⟨k + 1, by omega, by go_num, HX, HBA⟩
                case measure => simp [intOf]; omega
      · clear h1 h7
        cases product with
        | false =>
          have HE := Lib.hid (fault_hit HA.out HK.out (ruleE_kind (.inr (.inr ⟨show (5 : Int) ≤ 6 by decide, rfl⟩))) (by decide))
          go_wp2
          go_ret
          exact ⟨ret_int HE.out.symm, HBA.out⟩
        | true =>
          cases hp : pathB pat with
          | false =>
            rw [hp] at HP
            have HE := Lib.hid (fault_hit HA.out HK.out (ruleE_form (kind_ok_6 rfl) (.inl hp)) (by decide))
            clear hp
            go_wp2_with (go_at_call 53; refine (HP.out _).mono ?_; rintro e w' ⟨rfl, rfl⟩)
            go_ret
            exact ⟨ret_int HE.out.symm, HBA.out⟩
          | true =>
            rw [hp] at HP
            cases he : emptyB step with
            | false =>
              have HE := Lib.hid (fault_hit HA.out HK.out (ruleE_form (kind_ok_6 rfl) (.inr ⟨show (6 : Int) ≠ 4 by decide, .inl he⟩)) (by decide))
              unfold emptyB at he
              clear hp
              go_wp2_with (go_at_call 53; refine (HP.out _).mono ?_; rintro e w' ⟨rfl, rfl⟩)
              go_ret
              exact ⟨ret_int HE.out.symm, HBA.out⟩
            | true =>
              cases of with
              | true =>
                have HE := Lib.hid (fault_hit HA.out HK.out (ruleE_form (kind_ok_6 rfl) (.inr ⟨show (6 : Int) ≠ 4 by decide, .inr rfl⟩)) (by decide))
                unfold emptyB at he
                clear hp
                go_wp2_with (go_at_call 53; refine (HP.out _).mono ?_; rintro e w' ⟨rfl, rfl⟩)
                go_ret
                exact ⟨ret_int HE.out.symm, HBA.out⟩
              | false =>
                have HX := Lib.hid (fault_next HA.out HK.out (ruleE_ok (kind_ok_6 rfl) (form_ok hp he rfl) (.inl (show (6 : Int) ≠ 4 by decide))))
                unfold emptyB at he
                clear hp
                go_wp2_with (go_at_call 53; refine (HP.out _).mono ?_; rintro e w' ⟨rfl, rfl⟩)
                go_roundw
                case rel => exact ⟨k + 1, by omega, by go_num, HX, HBA⟩
                case measure => simp [intOf]; omega
      · clear h1 h7
        cases product with
        | false =>
          have HE := Lib.hid (fault_hit HA.out HK.out (ruleE_kind (.inr (.inr ⟨show (5 : Int) ≤ 7 by decide, rfl⟩))) (by decide))
          go_wp2
          go_ret
          exact ⟨ret_int HE.out.symm, HBA.out⟩
        | true =>
          cases hp : pathB pat with
          | false =>
            rw [hp] at HP
            have HE := Lib.hid (fault_hit HA.out HK.out (ruleE_form (kind_ok_7 rfl) (.inl hp)) (by decide))
            clear hp
            go_wp2_with (go_at_call 53; refine (HP.out _).mono ?_; rintro e w' ⟨rfl, rfl⟩)
            go_ret
            exact ⟨ret_int HE.out.symm, HBA.out⟩
          | true =>
            rw [hp] at HP
            cases he : emptyB step with
            | false =>
              have HE := Lib.hid (fault_hit HA.out HK.out (ruleE_form (kind_ok_7 rfl) (.inr ⟨show (7 : Int) ≠ 4 by decide, .inl he⟩)) (by decide))
              unfold emptyB at he
              clear hp
              go_wp2_with (go_at_call 53; refine (HP.out _).mono ?_; rintro e w' ⟨rfl, rfl⟩)
              go_ret
              exact ⟨ret_int HE.out.symm, HBA.out⟩
            | true =>
              cases of with
              | true =>
                have HE := Lib.hid (fault_hit HA.out HK.out (ruleE_form (kind_ok_7 rfl) (.inr ⟨show (7 : Int) ≠ 4 by decide, .inr rfl⟩)) (by decide))
                unfold emptyB at he
                clear hp
                go_wp2_with (go_at_call 53; refine (HP.out _).mono ?_; rintro e w' ⟨rfl, rfl⟩)
                go_ret
                exact ⟨ret_int HE.out.symm, HBA.out⟩
              | false =>
                have HX := Lib.hid (fault_next HA.out HK.out (ruleE_ok (kind_ok_7 rfl) (form_ok hp he rfl) (.inl (show (7 : Int) ≠ 4 by decide))))
                unfold emptyB at he
                clear hp
                go_wp2_with (go_at_call 53; refine (HP.out _).mono ?_; rintro e w' ⟨rfl, rfl⟩)
                go_roundw
                case rel => exact ⟨k + 1, by omega, by go_num, HX, HBA⟩
                case measure => simp [intOf]; omega
    · have HE := Lib.hid (fault_end HA.out (by rw [HN.out]; omega))
      go_wp2
      go_ret
      exact ⟨ret_int HE.out.symm, HB.out⟩
end Go.Proofs.YtnidamdfdlkoiaaDoor.A
