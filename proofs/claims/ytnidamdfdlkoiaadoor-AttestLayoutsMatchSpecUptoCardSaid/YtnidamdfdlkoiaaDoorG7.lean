/- The reference's stepFault. -/
import Derived.Test.YtnidamdfdlkoiaaDoorG5
import Derived.Test.YtnidamdfdlkoiaaDoorG6
namespace Go.Proofs.YtnidamdfdlkoiaaDoor.A
open Go.RowKit

theorem BoxAt.six {w wr : World} {x0 x1 x2 x3 x4 x5 : Value} {t : TypeId} (h : BoxAt w (.cells #[x0, x1, x2, x3, x4, x5] t) wr) : FiveAt w.heap.size (.cells #[x0, x1, x2, x3, x4, x5] t) wr :=
  (Below.block h w.heap.size (by simp)).trans (heap_alloc_new w _)

set_option maxHeartbeats 8000000 in
set_option maxRecDepth 100000 in
theorem stepFault_any (keys : List KeyD) (S : StepD) (earlier : List StepD) (B1 B2 B3 B4 : Option Addr) (d1 d2 d3 d4 M1 m1 M2 m2 : Nat) (f1 f2 : List UInt8 → Bool) (w : World)
    (hf1 : ∀ s : ByteArray, f1 s.data.toList = keys.any (keyNm s)) (hf2 : ∀ s : ByteArray, f2 s.data.toList = earlier.any (stepIs s)) (h1 : BSet w M1 m1 f1) (h2 : BSet w M2 m2 f2) (hS : StepR w S B1 B2 B3 B4 d1 d2 d3 d4) (hs : S.Small) :
    Calls Tryd.prog 48 #[stepV S B1 B2 B3 B4 d1 d2 d3 d4, .map (some M1), .map (some M2)] w fun e w' => e = .returned (.int .i64 (stepE keys earlier S)) ∧ Below w.heap.size w w' := by
  have hnm := hs.name
  obtain ⟨l1, l2, l3, l4⟩ := hs.lens
  have HN := Lib.hid (fun W => isName8_any S.name W (by unfold maxLen; omega))
  have HW := Lib.hid (fun W (hb : Below w.heap.size w W) => wordsFault_any B2 d2 S.cmd W (by unfold maxLen; omega) (hS.rcmd.below hb) (fun x hx => by have := hs.cmd x hx; omega))
  have HM := Lib.hid (fun W (hb : Below w.heap.size w W) => rulesFault_any B3 d3 S.mats false M2 m2 f2 earlier hf2 W (hS.rmats.below hb) (h2.later hb) (by omega) hs.mats)
  have HP := Lib.hid (fun W (hb : Below w.heap.size w W) => rulesFault_any B4 d4 S.prods true M2 m2 f2 earlier hf2 W (hS.rprods.below hb) (h2.later hb) (by omega) hs.prods)
  have HX := Lib.hid (BoxAt.new w (.cells #[.string S.name, .slice B1 S.keys.length d1, .int .i64 S.need, .slice B2 S.cmd.length d2, .slice B3 S.mats.length d3, .slice B4 S.prods.length d4] 81))
  have HRK := Lib.hid hS.rkeys
  have HL1 := Lib.hid (fun W (hb : Below w.heap.size w W) (s : ByteArray) (hz : s.size ≤ maxLen) => (h1.later hb).look s hz)
  have hlookN := (h2.later HX.out.below).look S.name (by unfold maxLen; omega)
  rw [hf2] at hlookN
  have HF1 := Lib.hid hf1
  have HE1 := Lib.hid (fun h => stepE_name (keys := keys) (earlier := earlier) (s := S) h)
  have HE2 := Lib.hid (fun h h2 => stepE_twice (keys := keys) (earlier := earlier) (s := S) h h2)
  have HE3 := Lib.hid (fun h h2 h3 => stepE_empty (keys := keys) (earlier := earlier) (s := S) h h2 h3)
  have HE4 := Lib.hid (fun h h2 h3 h4 => stepE_keys (keys := keys) (earlier := earlier) (s := S) h h2 h3 h4)
  have HE5 := Lib.hid (fun h h2 h3 h4 => stepE_rest (keys := keys) (earlier := earlier) (s := S) h h2 h3 h4)
  have HKS := Lib.hid hs.keys
  clear hs hS h1 h2 hf1 hf2
  generalize hz : stepE keys earlier S = z at *
  clear hz
  unfold stepV
  generalize hn : S.keys.length = n at *
  have HNK := Lib.hid hn
  clear hn
  cases hn : nameB S.name with
  | false =>
    have HE := Lib.hid (HE1.out hn)
    rw [hn] at HN
    clear hn HE1 HE2 HE3 HE4 HE5
    go_enter Tryd.func48, Tryd.ntmps48
    go_wp2_with (go_at_call 32; refine (HN.out _).mono ?_; rintro e w' ⟨rfl, rfl⟩)
    go_ret
    exact ⟨ret_int HE.out.symm, HX.out.below⟩
  | true =>
    rw [hn] at HN
    cases ht : earlier.any (stepIs S.name) with
    | true =>
      have HE := Lib.hid (HE2.out hn ht)
      rw [ht] at hlookN
      clear hn ht HE1 HE2 HE3 HE4 HE5
      go_enter Tryd.func48, Tryd.ntmps48
      go_wp2_with (go_at_call 32; refine (HN.out _).mono ?_; rintro e w' ⟨rfl, rfl⟩)
      go_ret
      exact ⟨ret_int HE.out.symm, HX.out.below⟩
    | false =>
      rw [ht] at hlookN
      have HG3 := Lib.hid (fun h3 => HE3.out hn ht h3)
      have HG4 := Lib.hid (fun h3 h4 => HE4.out hn ht h3 h4)
      have HG5 := Lib.hid (fun h3 h4 => HE5.out hn ht h3 h4)
      clear hn ht HE1 HE2 HE3 HE4 HE5
      rcases Nat.eq_zero_or_pos n with h0 | h0
      · have HE := Lib.hid (HG3.out h0)
        subst h0
        go_enter Tryd.func48, Tryd.ntmps48
        go_wp2_with (go_at_call 32; refine (HN.out _).mono ?_; rintro e w' ⟨rfl, rfl⟩)
        go_ret
        exact ⟨ret_int HE.out.symm, HX.out.below⟩
      · have HE4 := Lib.hid (fun h4 => HG4.out (by omega) h4)
        have HE5 := Lib.hid (fun h4 => HG5.out (by omega) h4)
        have hne0 : ((n : Int) == 0) = false := by simp; omega
        clear HG3 HG4 HG5
        go_enter Tryd.func48, Tryd.ntmps48
        go_wp2_with (go_at_call 32; refine (HN.out _).mono ?_; rintro e w' ⟨rfl, rfl⟩)
        clear HN hlookN
        generalize hWn : w.alloc (.cells #[.string S.name, .slice B1 n d1, .int .i64 S.need, .slice B2 S.cmd.length d2, .slice B3 S.mats.length d3, .slice B4 S.prods.length d4] 81) = W at *
        have HWE := Lib.hid hWn
        clear hWn
        go_loopw [29] (fun i wr => wr = W ∧ ∃ k : Nat, k ≤ n ∧ i = .int .i64 k ∧ Hid (FaultAt (skE keys) S.keys k)) (fun i _ => n - (intOf i).toNat)
        case atStart => exact ⟨rfl, 0, by omega, rfl, fault_start⟩
        case round =>
          obtain ⟨rfl, k, hk, rfl, HA⟩ := hrel
          obtain ⟨s0, s1, s2, s3, s4, s5⟩ := HX.out.six.six
          by_cases hlt : k < n
          · obtain ⟨a, ha⟩ : ∃ a, S.keys[k]? = some a := ⟨_, List.getElem?_eq_getElem (by rw [HNK.out]; exact hlt)⟩
            obtain ⟨ad, hA, hcell⟩ := (HRK.out.below HX.out.below) k a ha
            have hsz := HKS.out a (List.mem_of_getElem? ha)
            have hlook := HL1.out wr HX.out.below a (by unfold maxLen; omega)
            rw [HF1.out a] at hlook
            have HK := Lib.hid ha
            have hprev : 0 < k → ∃ p, S.keys[k - 1]? = some p := fun h => ⟨_, List.getElem?_eq_getElem (by rw [HNK.out]; omega)⟩
            clear ha
            subst hA
            cases hq : keys.any (keyNm a) with
            | false =>
              have HE := Lib.hid ((fault_hit HA.out HK.out (skE_none hq) (by decide)).symm.trans (HE4.out (by rw [fault_hit HA.out HK.out (skE_none hq) (by decide)]; decide)).symm)
              rw [hq] at hlook
              clear hq hprev
              go_wp2
              go_ret
              exact ⟨ret_int HE.out, HX.out.below⟩
            | true =>
              rw [hq] at hlook
              rcases Nat.eq_zero_or_pos k with h0 | h0
              · obtain rfl := h0
                have hcell0 : wr.cell? ad = some (.string a) := by simpa [Addr.add] using hcell
                have HXX := Lib.hid (fault_next HA.out HK.out (skE_ok hq rfl))
                clear hprev hq
                go_wp2
                go_round
                case rel => exact ⟨trivial, 1, by omega, by go_num, HXX⟩
                case measure => simp [intOf]; omega
              · obtain ⟨p, hp⟩ := hprev h0
                obtain ⟨ad', hA', pc⟩ := (HRK.out.below HX.out.below) (k - 1) p hp
                obtain rfl : ad = ad' := by injection hA'
                have hk1 : (k : Int) - 1 = ((k - 1 : Nat) : Int) := by omega
                have hkn : k - 1 < n := by omega
                have HKL : Hid (k ≤ S.keys.length) := Lib.hid (by rw [HNK.out]; exact hk)
                cases ht : (Op.bytesLess a.toList p.toList || a.toList == p.toList) with
                | true =>
                  have HE := Lib.hid ((fault_hit HA.out HK.out (skE_low hq (low_take h0 HKL.out hp ht)) (by decide)).symm.trans (HE4.out (by rw [fault_hit HA.out HK.out (skE_low hq (low_take h0 HKL.out hp ht)) (by decide)]; decide)).symm)
                  clear hprev hp hA' hq
                  go_wp2
                  go_ret
                  exact ⟨ret_int HE.out, HX.out.below⟩
                | false =>
                  have HXX := Lib.hid (fault_next HA.out HK.out (skE_ok hq (low_take h0 HKL.out hp ht)))
                  clear hprev hp hA' hq
                  go_wp2
                  go_round
                  case rel => exact ⟨trivial, k + 1, by omega, by go_num, HXX⟩
                  case measure => simp [intOf]; omega
          · have HZ := Lib.hid (HE5.out (fault_end HA.out (by rw [HNK.out]; omega)))
            clear HA HE4 HE5
            by_cases g1 : S.need < 1 ∨ (n : Int) < S.need
            · have HE := Lib.hid (HZ.out.trans (stepE2_need (by rw [HNK.out]; exact g1)))
              rcases g1 with g1 | g1
              · go_wp2
                go_ret
                exact ⟨ret_int HE.out.symm, HX.out.below⟩
              · by_cases g2 : S.need < 1
                · exfalso; omega
                · go_wp2
                  go_ret
                  exact ⟨ret_int HE.out.symm, HX.out.below⟩
            have hg1 : ¬ (S.need < 1 ∨ (S.keys.length : Int) < S.need) := by rw [HNK.out]; exact g1
            have HG1 := Lib.hid hg1
            obtain ⟨g2, g3⟩ := not_or.1 g1
            clear hg1 g1
            by_cases g4 : 20 < S.cmd.length
            · have HE := Lib.hid (HZ.out.trans (stepE2_big HG1.out g4))
              go_wp2
              go_ret
              exact ⟨ret_int HE.out.symm, HX.out.below⟩
            have HY1 := Lib.hid (fun h3 => stepE2_words (earlier := earlier) HG1.out g4 h3)
            have HY2 := Lib.hid (fun h3 h4 => stepE2_rules (earlier := earlier) HG1.out g4 h3 h4)
            have HY3 := Lib.hid (fun h3 h4 h5 => stepE2_mats (earlier := earlier) HG1.out g4 h3 h4 h5)
            have HY4 := Lib.hid (fun h3 h4 h5 => stepE2_prods (earlier := earlier) HG1.out g4 h3 h4 h5)
            have HZ2 := Lib.hid HZ.out
            clear HZ
            obtain ⟨z1, hz1⟩ : ∃ z, wordsE S.cmd = z := ⟨_, rfl⟩
            obtain ⟨z2, hz2⟩ : ∃ z, rulesE false earlier S.mats = z := ⟨_, rfl⟩
            obtain ⟨z3, hz3⟩ : ∃ z, rulesE true earlier S.prods = z := ⟨_, rfl⟩
            rw [hz1] at HW HY1 HY2 HY3 HY4
            rw [hz2] at HM HY3 HY4
            rw [hz3] at HP HY4
            clear hz1 hz2 hz3
            go_wp2_with fail
            refine (HW.out _ HX.out.below).mono ?_
            rintro e w5 ⟨rfl, rfl⟩
            by_cases hw0 : z1 = 0
            · subst hw0
              have HV2 := Lib.hid (fun h4 => HZ2.out.trans (HY2.out rfl h4))
              have HV3 := Lib.hid (fun h4 h5 => HZ2.out.trans (HY3.out rfl h4 h5))
              have HV4 := Lib.hid (fun h4 h5 => HZ2.out.trans (HY4.out rfl h4 h5))
              clear HY1 HY2 HY3 HY4
              by_cases g5 : 50 < S.mats.length
              · have HE := Lib.hid (HV2.out (.inl g5))
                go_wp2
                go_ret
                exact ⟨ret_int HE.out.symm, HX.out.below⟩
              by_cases g6 : 50 < S.prods.length
              · have HE := Lib.hid (HV2.out (.inr g6))
                go_wp2
                go_ret
                exact ⟨ret_int HE.out.symm, HX.out.below⟩
              have HU3 := Lib.hid (fun h5 => HV3.out (by omega) h5)
              have HU4 := Lib.hid (fun h5 => HV4.out (by omega) h5)
              clear HV2 HV3 HV4
              go_wp2_with fail
              refine (HM.out _ HX.out.below).mono ?_
              rintro e w6 ⟨rfl, hb⟩
              have HB2 := Lib.hid (HX.out.trans hb)
              clear hb s0 s1 s2 s3 s4 s5
              obtain ⟨s0, s1, s2, s3, s4, s5⟩ := HB2.out.six.six
              by_cases hw0 : z2 = 0
              · subst hw0
                have HE := Lib.hid (HU4.out rfl)
                go_wp2_with fail
                refine (HP.out _ HB2.out.below).mono ?_
                rintro e w7 ⟨rfl, hb⟩
                have HB3 := Lib.hid (HB2.out.trans hb)
                clear hb
                go_wp2
                go_ret
                exact ⟨ret_int HE.out.symm, HB3.out.below⟩
              · have hne : (z2 != 0) = true := by simpa using hw0
                have HE := Lib.hid (HU3.out hw0)
                go_wp2
                go_ret
                exact ⟨ret_int HE.out.symm, HB2.out.below⟩
            · have hne : (z1 != 0) = true := by simpa using hw0
              have HE := Lib.hid (HZ2.out.trans (HY1.out hw0))
              go_wp2
              go_ret
              exact ⟨ret_int HE.out.symm, HX.out.below⟩
end Go.Proofs.YtnidamdfdlkoiaaDoor.A
