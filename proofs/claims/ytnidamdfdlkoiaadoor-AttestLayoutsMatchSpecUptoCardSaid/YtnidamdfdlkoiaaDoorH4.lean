/- LayoutText. -/
import Derived.Test.YtnidamdfdlkoiaaDoorH3
namespace Go.Proofs.YtnidamdfdlkoiaaDoor.A
open Go.RowKit

/-- the post of LayoutText -/
theorem layTV_ok (Y : LayoutD) : layTV 0 Y = layS' Y := if_pos rfl
theorem layTV_no {z : Int} (Y : LayoutD) (h : z ≠ 0) : layTV z Y = ⟨#[]⟩ := if_neg h
attribute [local go_sem ↓] Go.wp_at_zero Go.wp_at_succ

set_option maxHeartbeats 8000000 in
set_option maxRecDepth 100000 in
theorem layoutTextE_no (Y : LayoutD) (v : Value) (w : World) (hv : RdLay w v Y) (hs : Y.Small) (hz0 : layE Y ≠ 0) :
    Calls Tryd.prog 13 #[v] w fun e w' => e = .returned (.tuple #[.string (layTV (layE Y) Y), .int .i64 (layE Y)]) ∧ Below w.heap.size w w' := by
  have HR := Lib.hid (fun W (hb : Below w.heap.size w W) => checkLayout_any Y v W (hv.below hb) hs)
  obtain ⟨A1, A2, c1, c2, rfl, hY⟩ := hv
  rw [layTV_no Y hz0]
  generalize layE Y = z at *
  have hne : (z != 0) = true := by simpa using hz0
  unfold layV at *
  have HB0 := Lib.hid (BoxAt.new w (.cells #[.string Y.name, .int .i64 Y.exp, .slice A1 Y.keys.length c1, .slice A2 Y.steps.length c2] 41))
  go_enter Tryd.func13, Tryd.ntmps13
  go_wp2_with fail
  refine (HR.out _ HB0.out.below).mono ?_
  rintro e w1 ⟨rfl, hb⟩
  have HB1 := Lib.hid (HB0.out.trans hb)
  clear hb
  go_wp2
  go_ret2
  exact ⟨rfl, HB1.out.below⟩

set_option maxHeartbeats 16000000 in
set_option maxRecDepth 100000 in
theorem layoutTextE_ok (Y : LayoutD) (v : Value) (w : World) (hv : RdLay w v Y) (hs : Y.Small) (hP : Pow w) (hz0 : layE Y = 0) :
    Calls Tryd.prog 13 #[v] w fun e w' => e = .returned (.tuple #[.string (layTV (layE Y) Y), .int .i64 (layE Y)]) ∧ Below w.heap.size w w' := by
  have HR := Lib.hid (fun W (hb : Below w.heap.size w W) => checkLayout_any Y v W (hv.below hb) hs)
  have hright := layE_right hz0
  have HRI := Lib.hid hright
  have HLEN := Lib.hid (layL_len hright hs)
  rw [hz0, layTV_ok]
  rw [hz0] at HR
  obtain ⟨A1, A2, c1, c2, rfl, hY⟩ := hv
  have HI := Lib.hid (fun W (hb : Below w.heap.size w W) => itoa_any Y.exp (by have := hright.exp; omega) (by have := hright.exp; omega) W (hP.below hb))
  have HPW := Lib.hid (fun W (hb : Below w.heap.size w W) => hP.below hb)
  have hnm := hs.name
  have hit := itoa_small Y.exp (by have := hright.exp; omega) (by have := hright.exp; omega)
  have hl1 := hright.lens.1
  have hl2 := hright.lens.2
  have HRK := Lib.hid hY.rkeys
  have HRS := Lib.hid hY.rsteps
  have HS := Lib.hid hs
  clear hz0 hright hs hY hP
  unfold layV at *
  have HB0 := Lib.hid (BoxAt.new w (.cells #[.string Y.name, .int .i64 Y.exp, .slice A1 Y.keys.length c1, .slice A2 Y.steps.length c2] 41))
  have z1 := size_add (show (⟨#[108, 97, 121, 111, 117, 116, 32]⟩ : ByteArray).size ≤ 7 from by decide) hnm
  have z2 := size_add z1 (show (⟨#[32]⟩ : ByteArray).size ≤ 1 from by decide)
  have z3 := size_add z2 hit
  have a1 := addf (⟨#[108, 97, 121, 111, 117, 116, 32]⟩ : ByteArray) Y.name 7 1048576 (by decide) hnm (by decide)
  have a2 := addf ((⟨#[108, 97, 121, 111, 117, 116, 32]⟩ : ByteArray) ++ Y.name) (⟨#[32]⟩ : ByteArray) (7 + 1048576) 1 z1 (by decide) (by decide)
  have a3 := addf ((⟨#[108, 97, 121, 111, 117, 116, 32]⟩ : ByteArray) ++ Y.name ++ (⟨#[32]⟩ : ByteArray)) (itoaB Y.exp) (7 + 1048576 + 1) 21 z2 hit (by decide)
  have a4 := addf ((⟨#[108, 97, 121, 111, 117, 116, 32]⟩ : ByteArray) ++ Y.name ++ (⟨#[32]⟩ : ByteArray) ++ itoaB Y.exp) (⟨#[10]⟩ : ByteArray) (7 + 1048576 + 1 + 21) 1 z3 (by decide) (by decide)
  clear z1 z2 z3
  go_enter Tryd.func13, Tryd.ntmps13
  go_wp2_with fail
  refine (HR.out _ HB0.out.below).mono ?_
  rintro e w1 ⟨rfl, hb⟩
  have HB1 := Lib.hid (HB0.out.trans hb)
  have HF := Lib.hid HB1.out.four
  have HT0 := Lib.hid (TxtG.new w1).drew
  have HBW := Lib.hid (HB1.out.below)
  have HBD := Lib.hid ((HB1.out.below.trans ((TxtG.new w1).drew.below.mono HB1.out.below.size)))
  clear hb HR HB0
  go_wp2_with fail
  first | go_region_held3 (fun w' => w'.cell? ⟨w.heap.size, 0, none⟩ = some (.string Y.name) ∧ w'.cell? ⟨w.heap.size, 1, none⟩ = some (.int .i64 Y.exp))
    (first
      | exact ⟨(HX2.out.old HF.out).four.1, (HX2.out.old HF.out).four.2.1⟩
      | exact ⟨((HT0.out.later hb).old HF.out).four.1, ((HT0.out.later hb).old HF.out).four.2.1⟩
      | exact ⟨(HT0.out.old HF.out).four.1, (HT0.out.old HF.out).four.2.1⟩)
    (first
      | (go_at_call 42; refine (HI.out _ HBD.out).mono ?_; rintro e w2 ⟨rfl, hb⟩)
      | (go_at_call 41; refine ((HT0.out.later hb).write _ (l' := ly1 Y 0) (by rw [ly1_zero]; rfl) (by have := ly1_len Y 0; have := HLEN.out; omega)).mono ?_; rintro e w3 ⟨rfl, hx, _⟩; have HX2 := Lib.hid hx)) | fail
  have HX1 : Hid (TxtG w1 (ly1 Y 0) w3) := HX2
  clear a1 a2 a3 a4
  obtain ⟨x0, x1, x2, x3⟩ := (HX1.out.old HF.out).four
  go_wp2_with fail
  go_loopw [36] (fun i wr => ∃ k : Nat, k ≤ Y.keys.length ∧ i = .int .i64 k ∧ Hid (TxtG w1 (ly1 Y k) wr)) (fun i _ => Y.keys.length - (intOf i).toNat)
  case atStart => exact ⟨0, by omega, rfl, HX1⟩
  case round =>
    clear x0 x1 x2 x3
    obtain ⟨k, hk, rfl, HA⟩ := hrel
    by_cases hlt : k < Y.keys.length
    · obtain ⟨a, ha⟩ : ∃ a, Y.keys[k]? = some a := ⟨_, List.getElem?_eq_getElem hlt⟩
      obtain ⟨ad, hA, q0, q1, q2⟩ := (HRK.out.below (HBW.out.trans (HA.out.below.mono HBW.out.size))) k a ha
      have hsm := HS.out.keys a (List.mem_of_getElem? ha)
      have hs1 := hsm.name
      have hs2 := hsm.pub
      unfold szB at hs1 hs2
      have HK := Lib.hid ha
      clear ha hsm
      subst hA
      go_wp2_with (go_at_call 41; refine ((HA.out.alloc _).write _ (l' := ly1 Y (k + 1)) (ly1_succ HK.out) (by have := ly1_len Y (k + 1); have := HLEN.out; omega)).mono ?_; rintro e w4 ⟨rfl, hx, _⟩; have HX2 := Lib.hid hx; clear hx)
      go_roundw
      case rel => exact ⟨k + 1, by omega, by go_num, HX2⟩
      case measure => simp [intOf]; omega
    · have HX1 : Hid (TxtG w1 (ly2 Y 0) wr) := Lib.hid (by rw [← ly1_end (k := k) (by omega)]; exact HA.out)
      obtain ⟨x0, x1, x2, x3⟩ := (HX1.out.old HF.out).four
      go_wp2_with fail
      go_loopw [53] (fun i wr => ∃ k : Nat, k ≤ Y.steps.length ∧ i = .int .i64 k ∧ Hid (TxtG w1 (ly2 Y k) wr)) (fun i _ => Y.steps.length - (intOf i).toNat)
      case atStart => exact ⟨0, by omega, rfl, HX1⟩
      case round =>
        clear x0 x1 x2 x3 HA HX1
        obtain ⟨k, hk, rfl, HA⟩ := hrel
        obtain ⟨wo, rfl⟩ : ∃ wo : World, wo = wr := ⟨_, rfl⟩
        by_cases hlt : k < Y.steps.length
        · obtain ⟨a, ha⟩ : ∃ a, Y.steps[k]? = some a := ⟨_, List.getElem?_eq_getElem hlt⟩
          obtain ⟨ad, E1, E2, E3, E4, e1, e2, e3, e4, hA, hsr, p0, p1, p2, p3, p4, p5⟩ := HRS.out k a ha
          have hbo := HBW.out.trans (HA.out.below.mono HBW.out.size)
          have q0 := (hbo.cell (block_lt_of_cell p0)).trans p0
          have q1 := (hbo.cell (block_lt_of_cell p1)).trans p1
          have q2 := (hbo.cell (block_lt_of_cell p2)).trans p2
          have q3 := (hbo.cell (block_lt_of_cell p3)).trans p3
          have q4 := (hbo.cell (block_lt_of_cell p4)).trans p4
          have q5 := (hbo.cell (block_lt_of_cell p5)).trans p5
          clear hbo p0 p1 p2 p3 p4 p5
          have HSR := Lib.hid hsr
          have HSM := Lib.hid (HS.out.steps a (List.mem_of_getElem? ha))
          have HAR := Lib.hid (HRI.out.steps a (List.mem_of_getElem? ha))
          have hal := HSM.out.lens
          obtain ⟨g1, g2, g3, g4⟩ := hal
          have hcl := HAR.out.cmd
          have hrl := HAR.out.rules
          obtain ⟨hrl1, hrl2⟩ := hrl
          have hnd := HAR.out.need
          have hit2 := itoa_small a.need (by omega) (by omega)
          have hnm2 := HSM.out.name
          have HK := Lib.hid (ly2_succ ha)
          have HKL : Hid ((ly2 Y k ++ stepT a).length ≤ 100000000000000) := Lib.hid (by rw [ly2_succ ha]; exact Nat.le_trans (ly2_len Y (k + 1)) HLEN.out)
          have hlt0 := HA.out.lt
          have hne0 : wo.heap.size ≠ w1.heap.size := by omega
          have HTS := Lib.hid (HA.out.alloc (.cells #[.string a.name, .slice E1 a.keys.length e1, .int .i64 a.need, .slice E2 a.cmd.length e2, .slice E3 a.mats.length e3, .slice E4 a.prods.length e4] 81)).drew
          have HFS := Lib.hid (FiveAt.new wo (.cells #[.string a.name, .slice E1 a.keys.length e1, .int .i64 a.need, .slice E2 a.cmd.length e2, .slice E3 a.mats.length e3, .slice E4 a.prods.length e4] 81)).drew
          have HBS := Lib.hid (HBW.out.trans (HTS.out.below.mono HBW.out.size))
          have HI2 := Lib.hid (fun W (hb : Below w.heap.size w W) => itoa_any a.need (by omega) (by omega) W (HPW.out W hb))
          clear ha hsr
          subst hA
          have z1 := size_add (show (⟨#[115, 116, 101, 112, 32]⟩ : ByteArray).size ≤ 5 from by decide) hnm2
          have z2 := size_add z1 (show (⟨#[32]⟩ : ByteArray).size ≤ 1 from by decide)
          have z3 := size_add z2 hit2
          have a1 := addf (⟨#[115, 116, 101, 112, 32]⟩ : ByteArray) a.name 5 1048576 (by decide) hnm2 (by decide)
          have a2 := addf ((⟨#[115, 116, 101, 112, 32]⟩ : ByteArray) ++ a.name) (⟨#[32]⟩ : ByteArray) (5 + 1048576) 1 z1 (by decide) (by decide)
          have a3 := addf ((⟨#[115, 116, 101, 112, 32]⟩ : ByteArray) ++ a.name ++ (⟨#[32]⟩ : ByteArray)) (itoaB a.need) (5 + 1048576 + 1) 21 z2 hit2 (by decide)
          have a4 := addf ((⟨#[115, 116, 101, 112, 32]⟩ : ByteArray) ++ a.name ++ (⟨#[32]⟩ : ByteArray) ++ itoaB a.need) (⟨#[10]⟩ : ByteArray) (5 + 1048576 + 1 + 21) 1 z3 (by decide) (by decide)
          clear z1 z2 z3
          go_wp2_with fail
          first | go_region_held3 (fun w' => w'.cell? ⟨wo.heap.size, 0, none⟩ = some (.string a.name) ∧ w'.cell? ⟨wo.heap.size, 2, none⟩ = some (.int .i64 a.need))
            (first
              | exact ⟨HKF.out.six.1, HKF.out.six.2.2.1⟩
              | exact ⟨(HFS.out.keep hb).six.1, (HFS.out.keep hb).six.2.2.1⟩
              | exact ⟨HFS.out.six.1, HFS.out.six.2.2.1⟩)
            (first
              | (go_at_call 42; refine (HI2.out _ HBS.out).mono ?_; rintro e w5 ⟨rfl, hb⟩)
              | (go_at_call 41; refine ((HTS.out.later hb).write _ (l' := st1 (ly2 Y k) a 0) (by rw [st1_zero]; rfl) (by have := st1_len (ly2 Y k) a 0; have := HKL.out; omega)).mono ?_; rintro e w6 ⟨rfl, hx, hkp⟩; have HX2 := Lib.hid hx; have HKF := Lib.hid (hkp _ _ _ hne0 (by decide) (HFS.out.keep hb)))) | fail
          have HX1 : Hid (TxtG w1 (st1 (ly2 Y k) a 0) w6) := HX2
          have HF1 : Hid (FiveAt wo.heap.size (.cells #[.string a.name, .slice E1 a.keys.length e1, .int .i64 a.need, .slice E2 a.cmd.length e2, .slice E3 a.mats.length e3, .slice E4 a.prods.length e4] 81) w6) := HKF
          clear a1 a2 a3 a4 q0 q1 q2 q3 q4 q5 HTS HFS HBS
          obtain ⟨s0, s1, s2, s3, s4, s5⟩ := HF1.out.six
          go_wp2_with fail
          go_loopw [70] (fun i wr => ∃ j : Nat, j ≤ a.keys.length ∧ i = .int .i64 j ∧ Hid (TxtG w1 (st1 (ly2 Y k) a j) wr) ∧ Hid (FiveAt wo.heap.size (.cells #[.string a.name, .slice E1 a.keys.length e1, .int .i64 a.need, .slice E2 a.cmd.length e2, .slice E3 a.mats.length e3, .slice E4 a.prods.length e4] 81) wr)) (fun i _ => a.keys.length - (intOf i).toNat)
          case atStart => exact ⟨0, by omega, rfl, HX1, HF1⟩
          case round =>
            clear s0 s1 s2 s3 s4 s5 HX1 HF1
            obtain ⟨j, hj, rfl, HAJ, HFJ⟩ := hrel
            by_cases hltj : j < a.keys.length
            · obtain ⟨b, hbj⟩ : ∃ b, a.keys[j]? = some b := ⟨_, List.getElem?_eq_getElem hltj⟩
              obtain ⟨bd, hB, hcell⟩ := (HSR.out.rkeys.below (HBW.out.trans (HAJ.out.below.mono HBW.out.size))) j b hbj
              have hbz := HSM.out.keys b (List.mem_of_getElem? hbj)
              have HBJ := Lib.hid hbj
              clear hbj
              subst hB
              go_wp2_with (go_at_call 41; refine (HAJ.out.write _ (l' := st1 (ly2 Y k) a (j + 1)) (st1_succ HBJ.out) (by have := st1_len (ly2 Y k) a (j + 1); have := HKL.out; omega)).mono ?_; rintro e w7 ⟨rfl, hx, hkp⟩; have HX2 := Lib.hid hx; have HKF := Lib.hid (hkp _ _ _ hne0 (by decide) HFJ.out); clear hx hkp)
              go_roundw
              case rel => exact ⟨j + 1, by omega, by go_num, HX2, HKF⟩
              case measure => simp [intOf]; omega
            · have HX1 : Hid (TxtG w1 (st2 (ly2 Y k) a 0) wr) := Lib.hid (by rw [← st1_end (k := j) (by omega)]; exact HAJ.out)
              have HF1 := HFJ
              clear HAJ HFJ
              obtain ⟨s0, s1, s2, s3, s4, s5⟩ := HF1.out.six
              go_wp2_with fail
              go_loopw [82] (fun i wr => ∃ j : Nat, j ≤ a.cmd.length ∧ i = .int .i64 j ∧ Hid (TxtG w1 (st2 (ly2 Y k) a j) wr) ∧ Hid (FiveAt wo.heap.size (.cells #[.string a.name, .slice E1 a.keys.length e1, .int .i64 a.need, .slice E2 a.cmd.length e2, .slice E3 a.mats.length e3, .slice E4 a.prods.length e4] 81) wr)) (fun i _ => a.cmd.length - (intOf i).toNat)
              case atStart => exact ⟨0, by omega, rfl, HX1, HF1⟩
              case round =>
                clear s0 s1 s2 s3 s4 s5 HX1 HF1
                obtain ⟨j, hj, rfl, HAJ, HFJ⟩ := hrel
                by_cases hltj : j < a.cmd.length
                · obtain ⟨b, hbj⟩ : ∃ b, a.cmd[j]? = some b := ⟨_, List.getElem?_eq_getElem hltj⟩
                  obtain ⟨bd, hB, hcell⟩ := (HSR.out.rcmd.below (HBW.out.trans (HAJ.out.below.mono HBW.out.size))) j b hbj
                  have hbz := HSM.out.cmd b (List.mem_of_getElem? hbj)
                  have HBJ := Lib.hid hbj
                  clear hbj
                  subst hB
                  go_wp2_with (go_at_call 41; refine (HAJ.out.write _ (l' := st2 (ly2 Y k) a (j + 1)) (st2_succ HBJ.out) (by have := st2_len (ly2 Y k) a (j + 1); have := HKL.out; omega)).mono ?_; rintro e w7 ⟨rfl, hx, hkp⟩; have HX2 := Lib.hid hx; have HKF := Lib.hid (hkp _ _ _ hne0 (by decide) HFJ.out); clear hx hkp)
                  go_roundw
                  case rel => exact ⟨j + 1, by omega, by go_num, HX2, HKF⟩
                  case measure => simp [intOf]; omega
                · have HX1 : Hid (TxtG w1 (st3 (ly2 Y k) a 0) wr) := Lib.hid (by rw [← st2_end (k := j) (by omega)]; exact HAJ.out)
                  have HF1 := HFJ
                  clear HAJ HFJ
                  obtain ⟨s0, s1, s2, s3, s4, s5⟩ := HF1.out.six
                  go_wp2_with fail
                  go_loopw [94] (fun i wr => ∃ j : Nat, j ≤ a.mats.length ∧ i = .int .i64 j ∧ Hid (TxtG w1 (st3 (ly2 Y k) a j) wr) ∧ Hid (FiveAt wo.heap.size (.cells #[.string a.name, .slice E1 a.keys.length e1, .int .i64 a.need, .slice E2 a.cmd.length e2, .slice E3 a.mats.length e3, .slice E4 a.prods.length e4] 81) wr)) (fun i _ => a.mats.length - (intOf i).toNat)
                  case atStart => exact ⟨0, by omega, rfl, HX1, HF1⟩
                  case round =>
                    clear s0 s1 s2 s3 s4 s5 HX1 HF1
                    obtain ⟨j, hj, rfl, HAJ, HFJ⟩ := hrel
                    by_cases hltj : j < a.mats.length
                    · obtain ⟨b, hbj⟩ : ∃ b, a.mats[j]? = some b := ⟨_, List.getElem?_eq_getElem hltj⟩
                      obtain ⟨bd, hB, p0, p1, p2, p3⟩ := (HSR.out.rmats.below (HBW.out.trans (HAJ.out.below.mono HBW.out.size))) j b hbj
                      have HBJ := Lib.hid hbj
                      have HRT := Lib.hid (fun W => ruleText_any kMat0 b W (HAR.out.mats b (List.mem_of_getElem? hbj)) (HSM.out.mats b (List.mem_of_getElem? hbj)) (by decide))
                      have hlj := HFJ.out.lt
                      clear hbj
                      subst hB
                      go_wp2_with (go_at_call 43; refine (HRT.out _).mono ?_; rintro e w7 ⟨rfl, hb⟩; have HTW := Lib.hid ((HAJ.out.alloc (.cells #[.int .i64 b.kind, .string b.pat, .string b.step, .bool b.of] 83)).later hb); have HFW := Lib.hid ((HFJ.out.alloc (.cells #[.int .i64 b.kind, .string b.pat, .string b.step, .bool b.of] 83)).keep hb); clear hb)
                      refine (HTW.out.write _ (l' := st3 (ly2 Y k) a (j + 1)) (st3_succ HBJ.out) (by have := st3_len (ly2 Y k) a (j + 1); have := HKL.out; omega)).mono ?_
                      rintro e w8 ⟨rfl, hx, hkp⟩
                      have HX2 := Lib.hid hx
                      have HKF := Lib.hid (hkp _ _ _ hne0 (by decide) HFW.out)
                      clear hx hkp
                      go_wp2
                      go_roundw
                      case rel => exact ⟨j + 1, by omega, by go_num, HX2, HKF⟩
                      case measure => simp [intOf]; omega
                    · have HX1 : Hid (TxtG w1 (st4 (ly2 Y k) a 0) wr) := Lib.hid (by rw [← st3_end (k := j) (by omega)]; exact HAJ.out)
                      have HF1 := HFJ
                      clear HAJ HFJ
                      obtain ⟨s0, s1, s2, s3, s4, s5⟩ := HF1.out.six
                      go_wp2_with fail
                      go_loopw [105] (fun i wr => ∃ j : Nat, j ≤ a.prods.length ∧ i = .int .i64 j ∧ Hid (TxtG w1 (st4 (ly2 Y k) a j) wr) ∧ Hid (FiveAt wo.heap.size (.cells #[.string a.name, .slice E1 a.keys.length e1, .int .i64 a.need, .slice E2 a.cmd.length e2, .slice E3 a.mats.length e3, .slice E4 a.prods.length e4] 81) wr)) (fun i _ => a.prods.length - (intOf i).toNat)
                      case atStart => exact ⟨0, by omega, rfl, HX1, HF1⟩
                      case round =>
                        clear s0 s1 s2 s3 s4 s5 HX1 HF1
                        obtain ⟨j, hj, rfl, HAJ, HFJ⟩ := hrel
                        by_cases hltj : j < a.prods.length
                        · obtain ⟨b, hbj⟩ : ∃ b, a.prods[j]? = some b := ⟨_, List.getElem?_eq_getElem hltj⟩
                          obtain ⟨bd, hB, p0, p1, p2, p3⟩ := (HSR.out.rprods.below (HBW.out.trans (HAJ.out.below.mono HBW.out.size))) j b hbj
                          have HBJ := Lib.hid hbj
                          have HRT := Lib.hid (fun W => ruleText_any kProd0 b W (HAR.out.prods b (List.mem_of_getElem? hbj)) (HSM.out.prods b (List.mem_of_getElem? hbj)) (by decide))
                          have hlj := HFJ.out.lt
                          clear hbj
                          subst hB
                          go_wp2_with (go_at_call 43; refine (HRT.out _).mono ?_; rintro e w7 ⟨rfl, hb⟩; have HTW := Lib.hid ((HAJ.out.alloc (.cells #[.int .i64 b.kind, .string b.pat, .string b.step, .bool b.of] 83)).later hb); have HFW := Lib.hid ((HFJ.out.alloc (.cells #[.int .i64 b.kind, .string b.pat, .string b.step, .bool b.of] 83)).keep hb); clear hb)
                          refine (HTW.out.write _ (l' := st4 (ly2 Y k) a (j + 1)) (st4_succ HBJ.out) (by have := st4_len (ly2 Y k) a (j + 1); have := HKL.out; omega)).mono ?_
                          rintro e w8 ⟨rfl, hx, hkp⟩
                          have HX2 := Lib.hid hx
                          have HKF := Lib.hid (hkp _ _ _ hne0 (by decide) HFW.out)
                          clear hx hkp
                          go_wp2
                          go_roundw
                          case rel => exact ⟨j + 1, by omega, by go_num, HX2, HKF⟩
                          case measure => simp [intOf]; omega
                        · have HX1 : Hid (TxtG w1 (ly2 Y (k + 1)) wr) := Lib.hid (by rw [← HK.out, ← st4_end (k := j) (by omega)]; exact HAJ.out)
                          clear HAJ HFJ
                          go_wp2
                          go_roundw
                          case rel => exact ⟨k + 1, by omega, by go_num, HX1⟩
                          case measure => simp [intOf]; omega
        · have HX1 : Hid (TxtG w1 (layL Y) wo) := Lib.hid (by rw [← ly2_end (k := k) (by omega)]; exact HA.out)
          go_wp2_with (go_at_call 44; refine HX1.out.text.mono ?_; rintro e w9 ⟨rfl, hb⟩; have HZ := Lib.hid (HBW.out.trans (hb.mono HBW.out.size)); clear hb)
          go_ret2
          exact ⟨rfl, HZ.out⟩
end Go.Proofs.YtnidamdfdlkoiaaDoor.A
