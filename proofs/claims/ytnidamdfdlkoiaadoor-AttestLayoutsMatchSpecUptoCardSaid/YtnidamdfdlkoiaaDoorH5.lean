/- LayoutText of the reference. -/
import Derived.Test.YtnidamdfdlkoiaaDoorH4
namespace Go.Proofs.YtnidamdfdlkoiaaDoor.A
open Go.RowKit

theorem addg (a b : ByteArray) (n m : Nat) (h1 : a.size ≤ n) (h2 : b.size ≤ m) (h : n + m ≤ 900000000000000000) : ∀ W : World, (Op.stringOp .add a b).run Tryd.prog W = .ok (.string (a ++ b)) W := fun W => run_string_add_sum W _ _ (by omega)
attribute [local go_sem ↓] Go.wp_at_zero Go.wp_at_succ

set_option maxHeartbeats 8000000 in
set_option maxRecDepth 100000 in
theorem layoutTextE8_no (Y : LayoutD) (v : Value) (w : World) (hv : RdLay w v Y) (hs : Y.Small) (hz0 : layE Y ≠ 0) :
    Calls Tryd.prog 14 #[v] w fun e w' => e = .returned (.tuple #[.string (layTV (layE Y) Y), .int .i64 (layE Y)]) ∧ Below w.heap.size w w' := by
  have HR := Lib.hid (fun W (hb : Below w.heap.size w W) => checkLayout8_any Y v W (hv.below hb) hs)
  obtain ⟨A1, A2, c1, c2, rfl, hY⟩ := hv
  rw [layTV_no Y hz0]
  generalize layE Y = z at *
  have hne : (z != 0) = true := by simpa using hz0
  unfold layV at *
  have HB0 := Lib.hid (BoxAt.new w (.cells #[.string Y.name, .int .i64 Y.exp, .slice A1 Y.keys.length c1, .slice A2 Y.steps.length c2] 41))
  go_enter Tryd.func14, Tryd.ntmps14
  go_wp2_with fail
  refine (HR.out _ HB0.out.below).mono ?_
  rintro e w1 ⟨rfl, hb⟩
  have HB1 := Lib.hid (HB0.out.trans hb)
  clear hb
  go_wp2
  go_ret2
  exact ⟨rfl, HB1.out.below⟩

set_option maxHeartbeats 16000000 in
set_option maxRecDepth 100000 in
theorem layoutTextE8_ok (Y : LayoutD) (v : Value) (w : World) (hv : RdLay w v Y) (hs : Y.Small) (hP : Pow w) (hz0 : layE Y = 0) :
    Calls Tryd.prog 14 #[v] w fun e w' => e = .returned (.tuple #[.string (layTV (layE Y) Y), .int .i64 (layE Y)]) ∧ Below w.heap.size w w' := by
  have HR := Lib.hid (fun W (hb : Below w.heap.size w W) => checkLayout8_any Y v W (hv.below hb) hs)
  have hright := layE_right hz0
  have HRI := Lib.hid hright
  have HLEN := Lib.hid (layL_len hright hs)
  rw [hz0, layTV_ok]
  rw [hz0] at HR
  obtain ⟨A1, A2, c1, c2, rfl, hY⟩ := hv
  have HI := Lib.hid (fun W (hb : Below w.heap.size w W) => itoa_any Y.exp (by have := hright.exp; omega) (by have := hright.exp; omega) W (hP.below hb))
  have HPW := Lib.hid (fun W (hb : Below w.heap.size w W) => hP.below hb)
  have hnm := hs.name
  have hit := itoa_small Y.exp (by have := hright.exp; omega) (by have := hright.exp; omega)
  have hl1 := hright.lens.1
  have hl2 := hright.lens.2
  have HRK := Lib.hid hY.rkeys
  have HRS := Lib.hid hY.rsteps
  have HS := Lib.hid hs
  clear hz0 hright hs hY hP
  unfold layV at *
  have HB0 := Lib.hid (BoxAt.new w (.cells #[.string Y.name, .int .i64 Y.exp, .slice A1 Y.keys.length c1, .slice A2 Y.steps.length c2] 41))
  have z1 := size_add (show (⟨#[108, 97, 121, 111, 117, 116, 32]⟩ : ByteArray).size ≤ 7 from by decide) hnm
  have z2 := size_add z1 (show (⟨#[32]⟩ : ByteArray).size ≤ 1 from by decide)
  have z3 := size_add z2 hit
  have z4 := size_add z3 (show (⟨#[10]⟩ : ByteArray).size ≤ 1 from by decide)
  have a1 := addf (⟨#[108, 97, 121, 111, 117, 116, 32]⟩ : ByteArray) Y.name 7 1048576 (by decide) hnm (by decide)
  have a2 := addf ((⟨#[108, 97, 121, 111, 117, 116, 32]⟩ : ByteArray) ++ Y.name) (⟨#[32]⟩ : ByteArray) (7 + 1048576) 1 z1 (by decide) (by decide)
  have a3 := addf ((⟨#[108, 97, 121, 111, 117, 116, 32]⟩ : ByteArray) ++ Y.name ++ (⟨#[32]⟩ : ByteArray)) (itoaB Y.exp) (7 + 1048576 + 1) 21 z2 hit (by decide)
  have a4 := addf ((⟨#[108, 97, 121, 111, 117, 116, 32]⟩ : ByteArray) ++ Y.name ++ (⟨#[32]⟩ : ByteArray) ++ itoaB Y.exp) (⟨#[10]⟩ : ByteArray) (7 + 1048576 + 1 + 21) 1 z3 (by decide) (by decide)
  clear z1 z2 z3 z4
  go_enter Tryd.func14, Tryd.ntmps14
  go_wp2_with fail
  refine (HR.out _ HB0.out.below).mono ?_
  rintro e w1 ⟨rfl, hb⟩
  have HB1 := Lib.hid (HB0.out.trans hb)
  have HBD := Lib.hid (BoxAt.drew HB1.out)
  clear hb HR HB0
  go_wp2_with fail
  first | go_region_held3 (fun w' => w'.cell? ⟨w.heap.size, 0, none⟩ = some (.string Y.name) ∧ w'.cell? ⟨w.heap.size, 1, none⟩ = some (.int .i64 Y.exp))
    (first
      | exact ⟨(HBD.out.trans hb).four.four.1, (HBD.out.trans hb).four.four.2.1⟩
      | exact ⟨HBD.out.four.four.1, HBD.out.four.four.2.1⟩)
    (first
      | (go_at_call 42; refine (HI.out _ HBD.out.below).mono ?_; rintro e w2 ⟨rfl, hb⟩)) | fail
  have HB2 := Lib.hid (HBD.out.trans hb)
  clear hb HBD a1 a2 a3 a4
  have h0 : TxtB (ly1 Y 0) ((⟨#[108, 97, 121, 111, 117, 116, 32]⟩ : ByteArray) ++ Y.name ++ (⟨#[32]⟩ : ByteArray) ++ itoaB Y.exp ++ (⟨#[10]⟩ : ByteArray)) := by unfold TxtB; rw [ly1_zero]; rfl
  have hz0 := Nat.le_trans (Nat.le_of_eq h0.size) (Nat.le_trans (ly1_len Y 0) HLEN.out)
  have H0 := Lib.hid h0
  clear h0
  obtain ⟨x0, x1, x2, x3⟩ := HB2.out.four.four
  go_wp2_with fail
  go_loopw [5, 31] (fun t i wr => ∃ k : Nat, k ≤ Y.keys.length ∧ i = .int .i64 k ∧ ∃ x, t = .string x ∧ Hid (TxtB (ly1 Y k) x) ∧ x.size ≤ 100000000000000 ∧ Hid (BoxAt w (.cells #[.string Y.name, .int .i64 Y.exp, .slice A1 Y.keys.length c1, .slice A2 Y.steps.length c2] 41) wr)) (fun _ i _ => Y.keys.length - (intOf i).toNat)
  case atStart => exact ⟨0, by omega, rfl, _, rfl, H0, hz0, HB2⟩
  case round =>
    clear x0 x1 x2 x3 hz0
    obtain ⟨k, hk, rfl, x, rfl, HA, hx, HB⟩ := hrel
    by_cases hlt : k < Y.keys.length
    · obtain ⟨a, ha⟩ : ∃ a, Y.keys[k]? = some a := ⟨_, List.getElem?_eq_getElem hlt⟩
      obtain ⟨ad, hA, q0, q1, q2⟩ := (HRK.out.below HB.out.below) k a ha
      have hsm := HS.out.keys a (List.mem_of_getElem? ha)
      have hs1 := hsm.name
      have hs2 := hsm.pub
      unfold szB at hs1 hs2
      have HK := Lib.hid (HA.out.app (ly1_succ ha))
      clear ha hsm
      subst hA
      go_wp2
      go_roundw
      case rel => exact ⟨k + 1, by omega, by go_num, _, rfl, HK, Nat.le_trans (Nat.le_of_eq HK.out.size) (Nat.le_trans (ly1_len Y (k + 1)) HLEN.out), Lib.hid (HB.out.alloc _)⟩
      case measure => simp [intOf]; omega
    · have HA2 : Hid (TxtB (ly2 Y 0) x) := Lib.hid (by rw [← ly1_end (k := k) (by omega)]; exact HA.out)
      obtain ⟨x0, x1, x2, x3⟩ := HB.out.four.four
      go_wp2_with fail
      go_loopw [5, 49] (fun t i wr => ∃ k : Nat, k ≤ Y.steps.length ∧ i = .int .i64 k ∧ ∃ x, t = .string x ∧ Hid (TxtB (ly2 Y k) x) ∧ x.size ≤ 100000000000000 ∧ Hid (BoxAt w (.cells #[.string Y.name, .int .i64 Y.exp, .slice A1 Y.keys.length c1, .slice A2 Y.steps.length c2] 41) wr)) (fun _ i _ => Y.steps.length - (intOf i).toNat)
      case atStart => exact ⟨0, by omega, rfl, _, rfl, HA2, hx, HB⟩
      case round =>
        clear x0 x1 x2 x3 HA HA2 HB hx
        obtain ⟨k, hk, rfl, x, rfl, HA, hx, HB⟩ := hrel
        obtain ⟨wo, rfl⟩ : ∃ wo : World, wo = wr := ⟨_, rfl⟩
        by_cases hlt : k < Y.steps.length
        · obtain ⟨a, ha⟩ : ∃ a, Y.steps[k]? = some a := ⟨_, List.getElem?_eq_getElem hlt⟩
          obtain ⟨ad, E1, E2, E3, E4, e1, e2, e3, e4, hA, hsr, q0, q1, q2, q3, q4, q5⟩ := (HRS.out.below HB.out.below) k a ha
          have HSR := Lib.hid hsr
          have HSM := Lib.hid (HS.out.steps a (List.mem_of_getElem? ha))
          have HAR := Lib.hid (HRI.out.steps a (List.mem_of_getElem? ha))
          have hal := HSM.out.lens
          obtain ⟨g1, g2, g3, g4⟩ := hal
          have hcl := HAR.out.cmd
          have hrl := HAR.out.rules
          obtain ⟨hrl1, hrl2⟩ := hrl
          have hnd := HAR.out.need
          have hit2 := itoa_small a.need (by omega) (by omega)
          have hnm2 := HSM.out.name
          have HK := Lib.hid (ly2_succ ha)
          have HKL : Hid ((ly2 Y k ++ stepT a).length ≤ 100000000000000) := Lib.hid (by rw [ly2_succ ha]; exact Nat.le_trans (ly2_len Y (k + 1)) HLEN.out)
          have HBX := Lib.hid (BoxAt.drew (HB.out.alloc (.cells #[.string a.name, .slice E1 a.keys.length e1, .int .i64 a.need, .slice E2 a.cmd.length e2, .slice E3 a.mats.length e3, .slice E4 a.prods.length e4] 81)))
          have HFS := Lib.hid (FiveAt.new wo (.cells #[.string a.name, .slice E1 a.keys.length e1, .int .i64 a.need, .slice E2 a.cmd.length e2, .slice E3 a.mats.length e3, .slice E4 a.prods.length e4] 81)).drew
          have HLOW := Lib.hid (((Below.refl wo.heap.size wo).alloc (Nat.le_refl _) (.cells #[.string a.name, .slice E1 a.keys.length e1, .int .i64 a.need, .slice E2 a.cmd.length e2, .slice E3 a.mats.length e3, .slice E4 a.prods.length e4] 81)).drew)
          have HI2 := Lib.hid (fun W (hb : Below w.heap.size w W) => itoa_any a.need (by omega) (by omega) W (HPW.out W hb))
          clear ha hsr
          subst hA
          have z1 := size_add (show (⟨#[115, 116, 101, 112, 32]⟩ : ByteArray).size ≤ 5 from by decide) hnm2
          have z2 := size_add z1 (show (⟨#[32]⟩ : ByteArray).size ≤ 1 from by decide)
          have z3 := size_add z2 hit2
          have z4 := size_add z3 (show (⟨#[10]⟩ : ByteArray).size ≤ 1 from by decide)
          have a1 := addf (⟨#[115, 116, 101, 112, 32]⟩ : ByteArray) a.name 5 1048576 (by decide) hnm2 (by decide)
          have a2 := addf ((⟨#[115, 116, 101, 112, 32]⟩ : ByteArray) ++ a.name) (⟨#[32]⟩ : ByteArray) (5 + 1048576) 1 z1 (by decide) (by decide)
          have a3 := addf ((⟨#[115, 116, 101, 112, 32]⟩ : ByteArray) ++ a.name ++ (⟨#[32]⟩ : ByteArray)) (itoaB a.need) (5 + 1048576 + 1) 21 z2 hit2 (by decide)
          have a4 := addf ((⟨#[115, 116, 101, 112, 32]⟩ : ByteArray) ++ a.name ++ (⟨#[32]⟩ : ByteArray) ++ itoaB a.need) (⟨#[10]⟩ : ByteArray) (5 + 1048576 + 1 + 21) 1 z3 (by decide) (by decide)
          have a5 := addg x ((⟨#[115, 116, 101, 112, 32]⟩ : ByteArray) ++ a.name ++ (⟨#[32]⟩ : ByteArray) ++ itoaB a.need ++ (⟨#[10]⟩ : ByteArray)) 100000000000000 (5 + 1048576 + 1 + 21 + 1) hx z4 (by decide)
          clear z1 z2 z3 z4
          go_wp2_with fail
          first | go_region_held3 (fun w' => w'.cell? ⟨wo.heap.size, 0, none⟩ = some (.string a.name) ∧ w'.cell? ⟨wo.heap.size, 2, none⟩ = some (.int .i64 a.need))
            (first
              | exact ⟨(HFS.out.keep hb).six.1, (HFS.out.keep hb).six.2.2.1⟩
              | exact ⟨HFS.out.six.1, HFS.out.six.2.2.1⟩)
            (first
              | (go_at_call 42; refine (HI2.out _ HBX.out.below).mono ?_; rintro e w5 ⟨rfl, hb⟩)) | fail
          have HF1 := Lib.hid (HFS.out.keep hb)
          have HB3 := Lib.hid (HBX.out.trans hb)
          have HL3 := Lib.hid (HLOW.out.trans (hb.mono HLOW.out.size))
          clear hb a1 a2 a3 a4 a5 q0 q1 q2 q3 q4 q5 HFS HBX HLOW
          have h0 : TxtB (st1 (ly2 Y k) a 0) (x ++ ((⟨#[115, 116, 101, 112, 32]⟩ : ByteArray) ++ a.name ++ (⟨#[32]⟩ : ByteArray) ++ itoaB a.need ++ (⟨#[10]⟩ : ByteArray))) := HA.out.app (by rw [st1_zero]; rfl)
          have hx1 := Nat.le_trans (Nat.le_of_eq h0.size) (Nat.le_trans (st1_len (ly2 Y k) a 0) HKL.out)
          have H1 := Lib.hid h0
          clear h0
          obtain ⟨s0, s1, s2, s3, s4, s5⟩ := HF1.out.six
          go_wp2_with fail
          go_loopw [5, 67] (fun t i wr => ∃ j : Nat, j ≤ a.keys.length ∧ i = .int .i64 j ∧ ∃ y, t = .string y ∧ Hid (TxtB (st1 (ly2 Y k) a j) y) ∧ y.size ≤ 100000000000000 ∧ Hid (BoxAt w (.cells #[.string Y.name, .int .i64 Y.exp, .slice A1 Y.keys.length c1, .slice (some ad) Y.steps.length c2] 41) wr) ∧ Hid (FiveAt wo.heap.size (.cells #[.string a.name, .slice E1 a.keys.length e1, .int .i64 a.need, .slice E2 a.cmd.length e2, .slice E3 a.mats.length e3, .slice E4 a.prods.length e4] 81) wr) ∧ Hid (Below wo.heap.size wo wr)) (fun _ i _ => a.keys.length - (intOf i).toNat)
          case atStart => exact ⟨0, by omega, rfl, _, rfl, H1, hx1, HB3, HF1, HL3⟩
          case round =>
            clear s0 s1 s2 s3 s4 s5 HF1 HB3 HL3 hx1
            obtain ⟨j, hj, rfl, y, rfl, HAJ, hy, HBJ, HFJ, HLJ⟩ := hrel
            by_cases hltj : j < a.keys.length
            · obtain ⟨b, hbj⟩ : ∃ b, a.keys[j]? = some b := ⟨_, List.getElem?_eq_getElem hltj⟩
              obtain ⟨bd, hB, hcell⟩ := (HSR.out.rkeys.below HLJ.out) j b hbj
              have hbz := HSM.out.keys b (List.mem_of_getElem? hbj)
              have HK2 := Lib.hid (HAJ.out.app (st1_succ hbj))
              clear hbj
              subst hB
              go_wp2
              go_roundw
              case rel => exact ⟨j + 1, by omega, by go_num, _, rfl, HK2, Nat.le_trans (Nat.le_of_eq HK2.out.size) (Nat.le_trans (st1_len (ly2 Y k) a (j + 1)) HKL.out), HBJ, HFJ, HLJ⟩
              case measure => simp [intOf]; omega
            · have H1 : Hid (TxtB (st2 (ly2 Y k) a 0) y) := Lib.hid (by rw [← st1_end (k := j) (by omega)]; exact HAJ.out)
              have hx1 := hy
              have HF1 := HFJ
              have HB3 := HBJ
              have HL3 := HLJ
              clear HAJ HFJ HBJ HLJ
              obtain ⟨s0, s1, s2, s3, s4, s5⟩ := HF1.out.six
              go_wp2_with fail
              go_loopw [5, 80] (fun t i wr => ∃ j : Nat, j ≤ a.cmd.length ∧ i = .int .i64 j ∧ ∃ y, t = .string y ∧ Hid (TxtB (st2 (ly2 Y k) a j) y) ∧ y.size ≤ 100000000000000 ∧ Hid (BoxAt w (.cells #[.string Y.name, .int .i64 Y.exp, .slice A1 Y.keys.length c1, .slice (some ad) Y.steps.length c2] 41) wr) ∧ Hid (FiveAt wo.heap.size (.cells #[.string a.name, .slice E1 a.keys.length e1, .int .i64 a.need, .slice E2 a.cmd.length e2, .slice E3 a.mats.length e3, .slice E4 a.prods.length e4] 81) wr) ∧ Hid (Below wo.heap.size wo wr)) (fun _ i _ => a.cmd.length - (intOf i).toNat)
              case atStart => exact ⟨0, by omega, rfl, _, rfl, H1, hx1, HB3, HF1, HL3⟩
              case round =>
                clear s0 s1 s2 s3 s4 s5 HF1 HB3 HL3 hx1
                obtain ⟨j, hj, rfl, y, rfl, HAJ, hy, HBJ, HFJ, HLJ⟩ := hrel
                by_cases hltj : j < a.cmd.length
                · obtain ⟨b, hbj⟩ : ∃ b, a.cmd[j]? = some b := ⟨_, List.getElem?_eq_getElem hltj⟩
                  obtain ⟨bd, hB, hcell⟩ := (HSR.out.rcmd.below HLJ.out) j b hbj
                  have hbz := HSM.out.cmd b (List.mem_of_getElem? hbj)
                  have HK2 := Lib.hid (HAJ.out.app (st2_succ hbj))
                  clear hbj
                  subst hB
                  go_wp2
                  go_roundw
                  case rel => exact ⟨j + 1, by omega, by go_num, _, rfl, HK2, Nat.le_trans (Nat.le_of_eq HK2.out.size) (Nat.le_trans (st2_len (ly2 Y k) a (j + 1)) HKL.out), HBJ, HFJ, HLJ⟩
                  case measure => simp [intOf]; omega
                · have H1 : Hid (TxtB (st3 (ly2 Y k) a 0) y) := Lib.hid (by rw [← st2_end (k := j) (by omega)]; exact HAJ.out)
                  have hx1 := hy
                  have HF1 := HFJ
                  have HB3 := HBJ
                  have HL3 := HLJ
                  clear HAJ HFJ HBJ HLJ
                  have HD1 := Lib.hid HF1.out.drew
                  have HD2 := Lib.hid (BoxAt.drew HB3.out)
                  have HD3 := Lib.hid HL3.out.drew
                  have HR1 := Lib.hid (fun W (hb : Below wo.heap.size wo W) => rulesText_any kMat0 E3 e3 a.mats W (HSR.out.rmats.below hb) hrl1 HAR.out.mats HSM.out.mats (by decide))
                  have HR2 := Lib.hid (fun W (hb : Below wo.heap.size wo W) => rulesText_any kProd0 E4 e4 a.prods W (HSR.out.rprods.below hb) hrl2 HAR.out.prods HSM.out.prods (by decide))
                  have m1 := flat_le (ruleP kMat0) 1049000 a.mats (fun x hx => ruleP_len kMat0 x (HAR.out.mats x hx) (HSM.out.mats x hx) (by decide))
                  have m2 := flat_le (ruleP kProd0) 1049000 a.prods (fun x hx => ruleP_len kProd0 x (HAR.out.prods x hx) (HSM.out.prods x hx) (by decide))
                  have m3 : (⟨(a.mats.flatMap (ruleP kMat0)).toArray⟩ : ByteArray).size ≤ 52450000 := by simp [ByteArray.size]; have := Nat.mul_le_mul_right 1049000 hrl1; simp at m1; omega
                  have m4 : (⟨(a.prods.flatMap (ruleP kProd0)).toArray⟩ : ByteArray).size ≤ 52450000 := by simp [ByteArray.size]; have := Nat.mul_le_mul_right 1049000 hrl2; simp at m2; omega
                  have b1 := addg ⟨(a.mats.flatMap (ruleP kMat0)).toArray⟩ ⟨(a.prods.flatMap (ruleP kProd0)).toArray⟩ 52450000 52450000 m3 m4 (by decide)
                  have b2 := addg y (⟨(a.mats.flatMap (ruleP kMat0)).toArray⟩ ++ ⟨(a.prods.flatMap (ruleP kProd0)).toArray⟩) 100000000000000 (52450000 + 52450000) hx1 (size_add m3 m4) (by decide)
                  clear m1 m2 m3 m4
                  have HTX : Hid (TxtB (ly2 Y (k + 1)) (y ++ (⟨(a.mats.flatMap (ruleP kMat0)).toArray⟩ ++ ⟨(a.prods.flatMap (ruleP kProd0)).toArray⟩))) := Lib.hid (by
                    have h := H1.out
                    unfold TxtB at h ⊢
                    rw [← HK.out, ByteArray.data_append, Array.toList_append, ByteArray.data_append, Array.toList_append, h]
                    simp [st3, st0, stepT, List.append_assoc])
                  have hxz := Nat.le_trans (Nat.le_of_eq HTX.out.size) (Nat.le_trans (ly2_len Y (k + 1)) HLEN.out)
                  go_wp2_with fail
                  first | go_region_held3 (fun w' => w'.cell? ⟨wo.heap.size, 4, none⟩ = some (.slice E3 a.mats.length e3) ∧ w'.cell? ⟨wo.heap.size, 5, none⟩ = some (.slice E4 a.prods.length e4) ∧ FiveAt wo.heap.size (.cells #[.string a.name, .slice E1 a.keys.length e1, .int .i64 a.need, .slice E2 a.cmd.length e2, .slice E3 a.mats.length e3, .slice E4 a.prods.length e4] 81) w' ∧ Below wo.heap.size wo w')
                    (first
                      | exact ⟨HD1.out.six.2.2.2.2.1, HD1.out.six.2.2.2.2.2, HD1.out, HD3.out⟩
                      | (go_split_ands; exact ⟨(FiveAt.keep (o := (.cells #[.string a.name, .slice E1 a.keys.length e1, .int .i64 a.need, .slice E2 a.cmd.length e2, .slice E3 a.mats.length e3, .slice E4 a.prods.length e4] 81)) (by assumption) hb).six.2.2.2.2.1, (FiveAt.keep (o := (.cells #[.string a.name, .slice E1 a.keys.length e1, .int .i64 a.need, .slice E2 a.cmd.length e2, .slice E3 a.mats.length e3, .slice E4 a.prods.length e4] 81)) (by assumption) hb).six.2.2.2.2.2, FiveAt.keep (by assumption) hb, Below.trans (by assumption) (hb.mono (Below.size (by assumption)))⟩))
                    (first
                      | (go_at_call_of 45 (Value.string ⟨#[109, 97, 116, 101, 114, 105, 97, 108]⟩); go_split_ands; refine (HR1.out _ (by assumption)).mono ?_; rintro e w9 ⟨rfl, hb⟩)
                      | (go_at_call_of 45 (Value.string ⟨#[112, 114, 111, 100, 117, 99, 116]⟩); go_split_ands; refine (HR2.out _ (by assumption)).mono ?_; rintro e w10 ⟨rfl, hb⟩)) | fail
                  have HL9 : Hid (Below wo.heap.size wo w10) := Lib.hid (by go_split_ands; assumption)
                  go_wp2
                  go_roundw
                  case rel => exact ⟨k + 1, by omega, by go_num, _, rfl, HTX, hxz, Lib.hid (HB.out.trans HL9.out)⟩
                  case measure => simp [intOf]; omega
        · have HE : Hid (x = layS' Y) := Lib.hid (by
            have h := HA.out
            unfold TxtB at h
            rw [ly2_end (k := k) (by omega)] at h
            unfold layS'
            rw [← h])
          have hE := HE.out
          subst hE
          go_wp2
          go_ret2
          exact ⟨rfl, HB.out.below⟩
end Go.Proofs.YtnidamdfdlkoiaaDoor.A
