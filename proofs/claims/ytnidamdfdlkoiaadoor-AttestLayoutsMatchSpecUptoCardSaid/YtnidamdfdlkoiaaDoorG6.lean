/- checkStep. -/
import Derived.Test.YtnidamdfdlkoiaaDoorG4
namespace Go.Proofs.YtnidamdfdlkoiaaDoor.A
open Go.RowKit

/-- two boxes, one behind the other -/
structure TwoB (w : World) (o1 o2 : Obj) (W : World) : Prop where
  b1 : FiveAt w.heap.size o1 W
  b2 : FiveAt (w.heap.size + 1) o2 W
  below : Below w.heap.size w W
section
variable {w W w1 : World} {o1 o2 : Obj}
theorem TwoB.new (w : World) (o1 o2 : Obj) : TwoB w o1 o2 ((w.alloc o1).alloc o2) := ⟨(two_five w o1 o2).1, (two_five w o1 o2).2.1, (two_five w o1 o2).2.2⟩
theorem TwoB.keep (h : TwoB w o1 o2 W) (hb : Below W.heap.size W w1) : TwoB w o1 o2 w1 := ⟨h.b1.keep hb, h.b2.keep hb, h.below.trans (hb.mono h.below.size)⟩
theorem TwoB.alloc (h : TwoB w o1 o2 W) (o : Obj) : TwoB w o1 o2 (W.alloc o) := ⟨h.b1.alloc o, h.b2.alloc o, h.below.alloc h.below.size o⟩
theorem TwoB.drew (h : TwoB w o1 o2 W) : TwoB w o1 o2 W.drew := ⟨h.b1, h.b2, h.below.drew⟩
theorem TwoB.drewN (h : TwoB w o1 o2 W) (n : Nat) : TwoB w o1 o2 (W.drewN n) := h.keep (below_drewN (Below.refl _ _) n)
end
section
variable {keys : List KeyD} {seen : List ByteArray} {k : ByteArray}
theorem skE_none (h : keys.any (keyNm k) = false) : skE keys seen k = 4 := by unfold skE; rw [if_pos h]
theorem skE_low (h : keys.any (keyNm k) = true) (h2 : tooLow seen.getLast? k = true) : skE keys seen k = 10 := by unfold skE; rw [if_neg (by simp [h]), if_pos h2]
theorem skE_ok (h : keys.any (keyNm k) = true) (h2 : tooLow seen.getLast? k = false) : skE keys seen k = 0 := by unfold skE; rw [if_neg (by simp [h]), if_neg (by simp [h2])]
end

set_option maxHeartbeats 8000000 in
set_option maxRecDepth 100000 in
theorem checkStep_any (Y : LayoutD) (S : StepD) (earlier : List StepD) (A1 A2 B1 B2 B3 B4 Ae : Option Addr) (c1 c2 d1 d2 d3 d4 ce m : Nat) (hm : earlier.length = m) (w : World)
    (hY : RdK w A1 Y.keys) (hyl : Y.keys.length ≤ 1048576) (hS : StepR w S B1 B2 B3 B4 d1 d2 d3 d4) (hs : S.Small) (he : RdSt w Ae earlier) (hml : m ≤ 1048576) :
    Calls Tryd.prog 47 #[layV Y A1 A2 c1 c2, stepV S B1 B2 B3 B4 d1 d2 d3 d4, .slice Ae m ce] w fun e w' => e = .returned (.int .i64 (stepE Y.keys earlier S)) ∧ Below w.heap.size w w' := by
  have hnm := hs.name
  obtain ⟨l1, l2, l3, l4⟩ := hs.lens
  have HN := Lib.hid (fun W => isName_any S.name W (by unfold maxLen; omega))
  have HW := Lib.hid (fun W (hb : Below w.heap.size w W) => checkWords_any B2 d2 S.cmd W (by unfold maxLen; omega) (hS.rcmd.below hb) (fun x hx => by have := hs.cmd x hx; unfold maxLen; omega))
  have HM := Lib.hid (fun W (hb : Below w.heap.size w W) => checkRules_any B3 Ae d3 ce m S.mats false earlier hm W (hS.rmats.below hb) (he.below hb) (by omega) hml hs.mats)
  have HP := Lib.hid (fun W (hb : Below w.heap.size w W) => checkRules_any B4 Ae d4 ce m S.prods true earlier hm W (hS.rprods.below hb) (he.below hb) (by omega) hml hs.prods)
  have HX := Lib.hid (TwoB.new w (.cells #[.string Y.name, .int .i64 Y.exp, .slice A1 Y.keys.length c1, .slice A2 Y.steps.length c2] 41) (.cells #[.string S.name, .slice B1 S.keys.length d1, .int .i64 S.need, .slice B2 S.cmd.length d2, .slice B3 S.mats.length d3, .slice B4 S.prods.length d4] 81))
  have HRK := Lib.hid hS.rkeys
  have HYK := Lib.hid hY
  have HE1 := Lib.hid (fun h => stepE_name (keys := Y.keys) (earlier := earlier) (s := S) h)
  have HE2 := Lib.hid (fun h h2 => stepE_twice (keys := Y.keys) (earlier := earlier) (s := S) h h2)
  have HE3 := Lib.hid (fun h h2 h3 => stepE_empty (keys := Y.keys) (earlier := earlier) (s := S) h h2 h3)
  have HE4 := Lib.hid (fun h h2 h3 h4 => stepE_keys (keys := Y.keys) (earlier := earlier) (s := S) h h2 h3 h4)
  have HE5 := Lib.hid (fun h h2 h3 h4 => stepE_rest (keys := Y.keys) (earlier := earlier) (s := S) h h2 h3 h4)
  have HCE := Lib.hid (fun W (hb : Below w.heap.size w W) (hF : FiveAt (w.heap.size + 1) (.cells #[.string S.name, .slice B1 S.keys.length d1, .int .i64 S.need, .slice B2 S.cmd.length d2, .slice B3 S.mats.length d3, .slice B4 S.prods.length d4] 81) W) => containsStep 65 #[.pointer (some ⟨w.heap.size + 1, 0, none⟩)] (stepIs S.name) Ae ce m earlier hm W (he.below hb) hml (enters_of Tryd.func65 (by kernel_rfl) rfl)
    (fun W2 x A1 A2 A3 A4 c1 c2 c3 c4 hb2 _ _ => closStepName x A1 A2 A3 A4 c1 c2 c3 c4 S.name (w.heap.size + 1) W2 ((hF.keep hb2).six).1))
  have HKS := Lib.hid hs.keys
  clear hs hS hY he hm
  generalize hz : stepE Y.keys earlier S = z at *
  clear hz
  unfold layV stepV
  generalize hn : S.keys.length = n at *
  have HNK := Lib.hid hn
  clear hn
  cases hn : nameB S.name with
  | false =>
    have HE := Lib.hid (HE1.out hn)
    rw [hn] at HN
    clear hn HE1 HE2 HE3 HE4 HE5
    go_enter Tryd.func47, Tryd.ntmps47
    go_wp2_with (go_at_call 26; refine (HN.out _).mono ?_; rintro e w' ⟨rfl, rfl⟩)
    go_ret
    exact ⟨ret_int HE.out.symm, HX.out.below⟩
  | true =>
    rw [hn] at HN
    cases ht : earlier.any (stepIs S.name) with
    | true =>
      have HE := Lib.hid (HE2.out hn ht)
      rw [ht] at HCE
      clear hn ht HE1 HE2 HE3 HE4 HE5
      go_enter Tryd.func47, Tryd.ntmps47
      go_wp2_with (go_at_call 26; refine (HN.out _).mono ?_; rintro e w' ⟨rfl, rfl⟩)
      refine (HCE.out _ HX.out.below HX.out.b2).mono ?_
      rintro e w1 ⟨rfl, hb⟩
      have HX1 := Lib.hid (HX.out.keep hb)
      clear hb
      go_wp2
      go_ret
      exact ⟨ret_int HE.out.symm, HX1.out.below⟩
    | false =>
      rw [ht] at HCE
      have HE3 := Lib.hid (fun h3 => HE3.out hn ht h3)
      have HE4 := Lib.hid (fun h3 h4 => HE4.out hn ht h3 h4)
      have HE5 := Lib.hid (fun h3 h4 => HE5.out hn ht h3 h4)
      clear hn ht HE1 HE2
      rcases Nat.eq_zero_or_pos n with h0 | h0
      · have HE := Lib.hid (HE3.out h0)
        subst h0
        go_enter Tryd.func47, Tryd.ntmps47
        go_wp2_with (go_at_call 26; refine (HN.out _).mono ?_; rintro e w' ⟨rfl, rfl⟩)
        refine (HCE.out _ HX.out.below HX.out.b2).mono ?_
        rintro e w1 ⟨rfl, hb⟩
        have HX1 := Lib.hid (HX.out.keep hb)
        obtain ⟨s0, s1, s2, s3, s4, s5⟩ := HX1.out.b2.six
        clear hb
        go_wp2
        go_ret
        exact ⟨ret_int HE.out.symm, HX1.out.below⟩
      · have HE4 := Lib.hid (fun h4 => HE4.out (by omega) h4)
        have HE5 := Lib.hid (fun h4 => HE5.out (by omega) h4)
        have hne0 : ((n : Int) == 0) = false := by simp; omega
        clear HE3
        go_enter Tryd.func47, Tryd.ntmps47
        go_wp2_with (go_at_call 26; refine (HN.out _).mono ?_; rintro e w' ⟨rfl, rfl⟩)
        refine (HCE.out _ HX.out.below HX.out.b2).mono ?_
        rintro e w1 ⟨rfl, hb⟩
        have HX1 := Lib.hid (HX.out.keep hb)
        obtain ⟨s0, s1, s2, s3, s4, s5⟩ := HX1.out.b2.six
        clear hb HX HCE HN
        go_wp2_with fail
        go_loopw [28] (fun i wr => ∃ k : Nat, k ≤ n ∧ i = .int .i64 k ∧ Hid (FaultAt (skE Y.keys) S.keys k) ∧ Hid (TwoB w (.cells #[.string Y.name, .int .i64 Y.exp, .slice A1 Y.keys.length c1, .slice A2 Y.steps.length c2] 41) (.cells #[.string S.name, .slice B1 n d1, .int .i64 S.need, .slice B2 S.cmd.length d2, .slice B3 S.mats.length d3, .slice B4 S.prods.length d4] 81) wr)) (fun i _ => n - (intOf i).toNat)
        case atStart => exact ⟨0, by omega, rfl, fault_start, HX1⟩
        case round =>
          clear s0 s1 s2 s3 s4 s5 HX1
          obtain ⟨k, hk, rfl, HA, HB⟩ := hrel
          by_cases hlt : k < n
          · obtain ⟨a, ha⟩ : ∃ a, S.keys[k]? = some a := ⟨_, List.getElem?_eq_getElem (by rw [HNK.out]; exact hlt)⟩
            obtain ⟨ad, hA, hcell⟩ := (HRK.out.below HB.out.below) k a ha
            have hsz := HKS.out a (List.mem_of_getElem? ha)
            have HK := Lib.hid ha
            have hlt1 := HB.out.b1.lt
            have hlt2 := HB.out.b2.lt
            obtain ⟨y0, y1, y2, y3⟩ := HB.out.b1.four
            have HBA := Lib.hid (HB.out.alloc (.cells #[.string a] 9))
            have HFB := Lib.hid (FiveAt.new wr (.cells #[.string a] 9))
            have HCF := Lib.hid (containsKey 66 #[.pointer (some ⟨wr.heap.size, 0, none⟩)] (keyNm a) A1 c1 Y.keys.length Y.keys rfl _ (HYK.out.below HBA.out.below) hyl (enters_of Tryd.func66 (by kernel_rfl) rfl)
              (fun W x hb _ => closStepKey x a wr.heap.size W (by have h := HFB.out.keep hb; unfold FiveAt at h; simp [World.cell?, h])))
            have hprev : 0 < k → ∃ p, S.keys[k - 1]? = some p := fun h => ⟨_, List.getElem?_eq_getElem (by rw [HNK.out]; omega)⟩
            clear ha
            subst hA
            cases hq : Y.keys.any (keyNm a) with
            | false =>
              have HE := Lib.hid ((fault_hit HA.out HK.out (skE_none hq) (by decide)).symm.trans (HE4.out (by rw [fault_hit HA.out HK.out (skE_none hq) (by decide)]; decide)).symm)
              rw [hq] at HCF
              clear hq hprev
              go_wp2_with fail
              refine HCF.out.mono ?_
              rintro e w2 ⟨rfl, hb⟩
              have HB2 := Lib.hid (HBA.out.keep hb)
              clear hb
              go_wp2
              go_ret
              exact ⟨ret_int HE.out, HB2.out.below⟩
            | true =>
              rw [hq] at HCF
              rcases Nat.eq_zero_or_pos k with h0 | h0
              · obtain rfl := h0
                have hcell0 : wr.cell? ad = some (.string a) := by simpa [Addr.add] using hcell
                have HX := Lib.hid (fault_next HA.out HK.out (skE_ok hq rfl))
                clear hprev hq
                go_wp2_with fail
                refine HCF.out.mono ?_
                rintro e w2 ⟨rfl, hb⟩
                have HB2 := Lib.hid (HBA.out.keep hb)
                clear hb
                go_wp2_with fail
                go_quiet (fail)
                go_wp2
                go_roundw
                case rel => exact ⟨1, by omega, by go_num, HX, Lib.hid (by first | exact HB2.out.drewN _ | exact HB2.out.drew | exact HB2.out)⟩
                case measure => simp [intOf]; omega
              · obtain ⟨p, hp⟩ := hprev h0
                obtain ⟨ad', hA', pc⟩ := (HRK.out.below HBA.out.below) (k - 1) p hp
                obtain rfl : ad = ad' := by injection hA'
                have PC := Lib.hid pc
                have hk1 : (k : Int) - 1 = ((k - 1 : Nat) : Int) := by omega
                have hkn : k - 1 < n := by omega
                have HKL : Hid (k ≤ S.keys.length) := Lib.hid (by rw [HNK.out]; exact hk)
                cases ht : (Op.bytesLess a.toList p.toList || a.toList == p.toList) with
                | true =>
                  have HE := Lib.hid ((fault_hit HA.out HK.out (skE_low hq (low_take h0 HKL.out hp ht)) (by decide)).symm.trans (HE4.out (by rw [fault_hit HA.out HK.out (skE_low hq (low_take h0 HKL.out hp ht)) (by decide)]; decide)).symm)
                  clear hprev hp hA' pc hq
                  go_wp2_with fail
                  refine HCF.out.mono ?_
                  rintro e w2 ⟨rfl, hb⟩
                  have HB2 := Lib.hid (HBA.out.keep hb)
                  have hc0 : w2.cell? ⟨wr.heap.size, 0, none⟩ = some (.string a) := by have h := HFB.out.keep hb; unfold FiveAt at h; simp [World.cell?, h]
                  have hc2 := (hb.cell (block_lt_of_cell PC.out)).trans PC.out
                  obtain ⟨s0, s1, s2, s3, s4, s5⟩ := HB2.out.b2.six
                  clear hb
                  go_wp2_with fail
                  go_quiet (fail)
                  go_wp2
                  go_ret
                  exact ⟨ret_int HE.out, by first | exact (HB2.out.drewN _).below | exact HB2.out.drew.below | exact HB2.out.below⟩
                | false =>
                  have HX := Lib.hid (fault_next HA.out HK.out (skE_ok hq (low_take h0 HKL.out hp ht)))
                  clear hprev hp hA' pc hq
                  go_wp2_with fail
                  refine HCF.out.mono ?_
                  rintro e w2 ⟨rfl, hb⟩
                  have HB2 := Lib.hid (HBA.out.keep hb)
                  have hc0 : w2.cell? ⟨wr.heap.size, 0, none⟩ = some (.string a) := by have h := HFB.out.keep hb; unfold FiveAt at h; simp [World.cell?, h]
                  have hc2 := (hb.cell (block_lt_of_cell PC.out)).trans PC.out
                  obtain ⟨s0, s1, s2, s3, s4, s5⟩ := HB2.out.b2.six
                  clear hb
                  go_wp2_with fail
                  go_quiet (fail)
                  go_wp2
                  go_roundw
                  case rel => exact ⟨k + 1, by omega, by go_num, HX, Lib.hid (by first | exact HB2.out.drewN _ | exact HB2.out.drew | exact HB2.out)⟩
                  case measure => simp [intOf]; omega
          · have HZ := Lib.hid (HE5.out (fault_end HA.out (by rw [HNK.out]; omega)))
            rw [← HNK.out] at HB
            obtain ⟨s0, s1, s2, s3, s4, s5⟩ := HB.out.b2.six
            clear HA HE4 HE5
            rw [HNK.out] at s1
            by_cases g1 : S.need < 1 ∨ (n : Int) < S.need
            · have HE := Lib.hid (HZ.out.trans (stepE2_need (by rw [HNK.out]; exact g1)))
              rcases g1 with g1 | g1
              · go_wp2
                go_ret
                exact ⟨ret_int HE.out.symm, HB.out.below⟩
              · by_cases g2 : S.need < 1
                · exfalso; omega
                · go_wp2
                  go_ret
                  exact ⟨ret_int HE.out.symm, HB.out.below⟩
            have hg1 : ¬ (S.need < 1 ∨ (S.keys.length : Int) < S.need) := by rw [HNK.out]; exact g1
            have HG1 := Lib.hid hg1
            obtain ⟨g2, g3⟩ := not_or.1 g1
            clear hg1 g1
            by_cases g4 : 20 < S.cmd.length
            · have HE := Lib.hid (HZ.out.trans (stepE2_big HG1.out g4))
              go_wp2
              go_ret
              exact ⟨ret_int HE.out.symm, HB.out.below⟩
            have HY1 := Lib.hid (fun h3 => stepE2_words (earlier := earlier) HG1.out g4 h3)
            have HY2 := Lib.hid (fun h3 h4 => stepE2_rules (earlier := earlier) HG1.out g4 h3 h4)
            have HY3 := Lib.hid (fun h3 h4 h5 => stepE2_mats (earlier := earlier) HG1.out g4 h3 h4 h5)
            have HY4 := Lib.hid (fun h3 h4 h5 => stepE2_prods (earlier := earlier) HG1.out g4 h3 h4 h5)
            have HZ2 := Lib.hid HZ.out
            clear HZ
            obtain ⟨z1, hz1⟩ : ∃ z, wordsE S.cmd = z := ⟨_, rfl⟩
            obtain ⟨z2, hz2⟩ : ∃ z, rulesE false earlier S.mats = z := ⟨_, rfl⟩
            obtain ⟨z3, hz3⟩ : ∃ z, rulesE true earlier S.prods = z := ⟨_, rfl⟩
            rw [hz1] at HW HY1 HY2 HY3 HY4
            rw [hz2] at HM HY3 HY4
            rw [hz3] at HP HY4
            clear hz1 hz2 hz3
            go_wp2_with fail
            refine (HW.out _ HB.out.below).mono ?_
            rintro e w5 ⟨rfl, rfl⟩
            by_cases hw0 : z1 = 0
            · subst hw0
              have HV2 := Lib.hid (fun h4 => HZ2.out.trans (HY2.out rfl h4))
              have HV3 := Lib.hid (fun h4 h5 => HZ2.out.trans (HY3.out rfl h4 h5))
              have HV4 := Lib.hid (fun h4 h5 => HZ2.out.trans (HY4.out rfl h4 h5))
              clear HY1 HY2 HY3 HY4
              by_cases g5 : 50 < S.mats.length
              · have HE := Lib.hid (HV2.out (.inl g5))
                go_wp2
                go_ret
                exact ⟨ret_int HE.out.symm, HB.out.below⟩
              by_cases g6 : 50 < S.prods.length
              · have HE := Lib.hid (HV2.out (.inr g6))
                go_wp2
                go_ret
                exact ⟨ret_int HE.out.symm, HB.out.below⟩
              have HU3 := Lib.hid (fun h5 => HV3.out (by omega) h5)
              have HU4 := Lib.hid (fun h5 => HV4.out (by omega) h5)
              clear HV2 HV3 HV4
              go_wp2_with fail
              refine (HM.out _ HB.out.below).mono ?_
              rintro e w6 ⟨rfl, hb⟩
              have HB2 := Lib.hid (HB.out.keep hb)
              clear hb s0 s1 s2 s3 s4 s5
              obtain ⟨s0, s1, s2, s3, s4, s5⟩ := HB2.out.b2.six
              by_cases hw0 : z2 = 0
              · subst hw0
                have HE := Lib.hid (HU4.out rfl)
                go_wp2_with fail
                refine (HP.out _ HB2.out.below).mono ?_
                rintro e w7 ⟨rfl, hb⟩
                have HB3 := Lib.hid (HB2.out.keep hb)
                clear hb
                go_wp2
                go_ret
                exact ⟨ret_int HE.out.symm, HB3.out.below⟩
              · have hne : (z2 != 0) = true := by simpa using hw0
                have HE := Lib.hid (HU3.out hw0)
                go_wp2
                go_ret
                exact ⟨ret_int HE.out.symm, HB2.out.below⟩
            · have hne : (z1 != 0) = true := by simpa using hw0
              have HE := Lib.hid (HZ2.out.trans (HY1.out hw0))
              go_wp2
              go_ret
              exact ⟨ret_int HE.out.symm, HB.out.below⟩
end Go.Proofs.YtnidamdfdlkoiaaDoor.A
