/- CheckLayout. -/
import Derived.Test.YtnidamdfdlkoiaaDoorG7
namespace Go.Proofs.YtnidamdfdlkoiaaDoor.A
open Go.RowKit

/-- the layout's box, and that of the step at hand -/
structure LayAt (w : World) (o1 : Obj) (g : Nat) (o2 : Obj) (W : World) : Prop where
  b1 : FiveAt w.heap.size o1 W
  b2 : FiveAt g o2 W
  below : Below w.heap.size w W
section
variable {w W w1 : World} {o1 o2 : Obj} {g : Nat} {x0 x1 x2 x3 y0 y1 y2 y3 y4 y5 : Value} {t t2 : TypeId}
theorem LayAt.keep (h : LayAt w o1 g o2 W) (hb : Below W.heap.size W w1) : LayAt w o1 g o2 w1 := ⟨h.b1.keep hb, h.b2.keep hb, h.below.trans (hb.mono h.below.size)⟩
theorem LayAt.drew (h : LayAt w o1 g o2 W) : LayAt w o1 g o2 W.drew := ⟨h.b1, h.b2, h.below.drew⟩
theorem layS (h : LayAt w (.cells #[x0, x1, x2, x3] t) g (.cells #[y0, y1, y2, y3, y4, y5] t2) W) :
    (W.cell? ⟨w.heap.size, 0, none⟩ = some x0 ∧ W.cell? ⟨w.heap.size, 1, none⟩ = some x1 ∧ W.cell? ⟨w.heap.size, 2, none⟩ = some x2 ∧ W.cell? ⟨w.heap.size, 3, none⟩ = some x3) ∧
    (W.cell? ⟨g, 0, none⟩ = some y0 ∧ W.cell? ⟨g, 1, none⟩ = some y1 ∧ W.cell? ⟨g, 2, none⟩ = some y2 ∧ W.cell? ⟨g, 3, none⟩ = some y3 ∧ W.cell? ⟨g, 4, none⟩ = some y4 ∧ W.cell? ⟨g, 5, none⟩ = some y5) ∧
    LayAt w (.cells #[x0, x1, x2, x3] t) g (.cells #[y0, y1, y2, y3, y4, y5] t2) W := ⟨h.b1.four, h.b2.six, h⟩
theorem BoxAt.four {w wr : World} {x0 x1 x2 x3 : Value} {t : TypeId} (h : BoxAt w (.cells #[x0, x1, x2, x3] t) wr) : FiveAt w.heap.size (.cells #[x0, x1, x2, x3] t) wr :=
  (Below.block h w.heap.size (by simp)).trans (heap_alloc_new w _)
end
attribute [local go_sem ↓] Go.wp_at_zero Go.wp_at_succ

set_option maxHeartbeats 8000000 in
set_option maxRecDepth 100000 in
theorem checkLayout_any (Y : LayoutD) (v : Value) (w : World) (hv : RdLay w v Y) (hs : Y.Small) :
    Calls Tryd.prog 15 #[v] w fun e w' => e = .returned (.int .i64 (layE Y)) ∧ Below w.heap.size w w' := by
  obtain ⟨A1, A2, c1, c2, rfl, hY⟩ := hv
  have hnm := hs.name
  obtain ⟨l1, l2⟩ := hs.lens
  obtain ⟨p1, p2⟩ := hY.caps
  have HN := Lib.hid (fun W => isName_any Y.name W (by unfold maxLen; omega))
  have HK := Lib.hid (fun W (hb : Below w.heap.size w W) => checkKeys_any A1 c1 Y.keys W (hY.rkeys.below hb) l1 p1 hs.keys)
  have HC := Lib.hid (fun W (hb : Below w.heap.size w W) (k : Nat) (S : StepD) (E1 E2 E3 E4 : Option Addr) (e1 e2 e3 e4 : Nat) (hk : k < Y.steps.length) (hS : StepR W S E1 E2 E3 E4 e1 e2 e3 e4) (hSm : S.Small) =>
    checkStep_any Y S (Y.steps.take k) A1 A2 E1 E2 E3 E4 A2 c1 c2 e1 e2 e3 e4 c2 k (by rw [List.length_take]; omega) W (hY.rkeys.below hb) l1 hS hSm ((hY.rsteps.below hb).take k) (by omega))
  have HX := Lib.hid (BoxAt.new w (.cells #[.string Y.name, .int .i64 Y.exp, .slice A1 Y.keys.length c1, .slice A2 Y.steps.length c2] 41))
  have HRS := Lib.hid hY.rsteps
  have HSS := Lib.hid hs.steps
  have HE1 := Lib.hid (fun h => layE_name (Y := Y) h)
  have HE2 := Lib.hid (fun h h2 => layE_exp (Y := Y) h h2)
  have HE3 := Lib.hid (fun h h2 h3 => layE_size (Y := Y) h h2 h3)
  have HE4 := Lib.hid (fun h h2 h3 h4 => layE_keys (Y := Y) h h2 h3 h4)
  have HE5 := Lib.hid (fun h h2 h3 h4 h5 => layE_empty (Y := Y) h h2 h3 h4 h5)
  have HE6 := Lib.hid (fun h h2 h3 h4 h5 => layE_steps (Y := Y) h h2 h3 h4 h5)
  clear hs hY
  generalize hz : layE Y = z at *
  clear hz
  unfold layV at *
  cases hn : nameB Y.name with
  | false =>
    have HE := Lib.hid (HE1.out hn)
    rw [hn] at HN
    clear hn HE1 HE2 HE3 HE4 HE5 HE6
    go_enter Tryd.func15, Tryd.ntmps15
    go_wp2_with (go_at_call 26; refine (HN.out _).mono ?_; rintro e w' ⟨rfl, rfl⟩)
    go_ret
    exact ⟨ret_int HE.out.symm, HX.out.below⟩
  | true =>
    rw [hn] at HN
    by_cases g1 : Y.exp < 0 ∨ 1000000 < Y.exp
    · have HE := Lib.hid (HE2.out hn g1)
      clear hn HE1 HE2 HE3 HE4 HE5 HE6
      by_cases g2 : Y.exp < 0
      · go_enter Tryd.func15, Tryd.ntmps15
        go_wp2_with (go_at_call 26; refine (HN.out _).mono ?_; rintro e w' ⟨rfl, rfl⟩)
        go_ret
        exact ⟨ret_int HE.out.symm, HX.out.below⟩
      · have g3 : 1000000 < Y.exp := by omega
        clear g1
        go_enter Tryd.func15, Tryd.ntmps15
        go_wp2_with (go_at_call 26; refine (HN.out _).mono ?_; rintro e w' ⟨rfl, rfl⟩)
        go_ret
        exact ⟨ret_int HE.out.symm, HX.out.below⟩
    have HG3 := Lib.hid (fun h3 => HE3.out hn g1 h3)
    have HG4 := Lib.hid (fun h3 h4 => HE4.out hn g1 h3 h4)
    have HG5 := Lib.hid (fun h3 h4 h5 => HE5.out hn g1 h3 h4 h5)
    have HG6 := Lib.hid (fun h3 h4 h5 => HE6.out hn g1 h3 h4 h5)
    obtain ⟨g2, g3⟩ := not_or.1 g1
    clear hn HE1 HE2 HE3 HE4 HE5 HE6 g1
    by_cases g4 : 50 < Y.keys.length
    · have HE := Lib.hid (HG3.out (.inl g4))
      go_enter Tryd.func15, Tryd.ntmps15
      go_wp2_with (go_at_call 26; refine (HN.out _).mono ?_; rintro e w' ⟨rfl, rfl⟩)
      go_ret
      exact ⟨ret_int HE.out.symm, HX.out.below⟩
    by_cases g5 : 30 < Y.steps.length
    · have HE := Lib.hid (HG3.out (.inr g5))
      go_enter Tryd.func15, Tryd.ntmps15
      go_wp2_with (go_at_call 26; refine (HN.out _).mono ?_; rintro e w' ⟨rfl, rfl⟩)
      go_ret
      exact ⟨ret_int HE.out.symm, HX.out.below⟩
    have HF4 := Lib.hid (fun h4 => HG4.out (by omega) h4)
    have HF5 := Lib.hid (fun h4 h5 => HG5.out (by omega) h4 h5)
    have HF6 := Lib.hid (fun h4 h5 => HG6.out (by omega) h4 h5)
    clear HG3 HG4 HG5 HG6
    obtain ⟨z1, hz1⟩ : ∃ z, faultE keyE1 Y.keys = z := ⟨_, rfl⟩
    rw [hz1] at HK HF4 HF5 HF6
    clear hz1
    go_enter Tryd.func15, Tryd.ntmps15
    go_wp2_with (go_at_call 26; refine (HN.out _).mono ?_; rintro e w' ⟨rfl, rfl⟩)
    refine (HK.out _ HX.out.below).mono ?_
    rintro e w1 ⟨rfl, hb⟩
    have HB := Lib.hid (HX.out.trans hb)
    clear hb
    by_cases hk0 : z1 = 0
    · subst hk0
      have HD5 := Lib.hid (fun h5 => HF5.out rfl h5)
      have HD6 := Lib.hid (fun h5 => HF6.out rfl h5)
      clear HF4 HF5 HF6
      obtain ⟨x0, x1, x2, x3⟩ := HB.out.four.four
      by_cases g6 : Y.steps.length = 0
      · have HE := Lib.hid (HD5.out g6)
        have g7 : ((Y.steps.length : Int) == 0) = true := by simp [g6]
        clear g6
        go_wp2
        go_ret
        exact ⟨ret_int HE.out.symm, HB.out.below⟩
      · have HE := Lib.hid (HD6.out g6)
        have g7 : ((Y.steps.length : Int) == 0) = false := by simp; intro h; exact g6 (by simp [h])
        clear HD5 HD6 g6
        generalize hn : Y.steps.length = n at *
        have HNN := Lib.hid hn
        clear hn
        go_wp2_with fail
        go_loopw [45] (fun i wr => ∃ k : Nat, k ≤ n ∧ i = .int .i64 k ∧ Hid (FaultAt (stepE Y.keys) Y.steps k) ∧ Hid (BoxAt w (.cells #[.string Y.name, .int .i64 Y.exp, .slice A1 Y.keys.length c1, .slice A2 n c2] 41) wr)) (fun i _ => n - (intOf i).toNat)
        case atStart => exact ⟨0, by omega, rfl, fault_start, HB⟩
        case round =>
          clear x0 x1 x2 x3 HB HK HX HN
          obtain ⟨k, hk, rfl, HA, HB⟩ := hrel
          by_cases hlt : k < n
          · obtain ⟨a, ha⟩ : ∃ a, Y.steps[k]? = some a := ⟨_, List.getElem?_eq_getElem (by rw [HNN.out]; exact hlt)⟩
            obtain ⟨ad, E1, E2, E3, E4, e1, e2, e3, e4, hA, hsr, q0, q1, q2, q3, q4, q5⟩ := (HRS.out.below HB.out.below) k a ha
            have HSR := Lib.hid hsr
            have HKK := Lib.hid ha
            have HASM := Lib.hid (HSS.out a (List.mem_of_getElem? ha))
            clear ha hsr
            subst hA
            have hkc : k ≤ c2 := by omega
            have HL := Lib.hid (layS (LayAt.drew ⟨HB.out.four.alloc (.cells #[.string a.name, .slice E1 a.keys.length e1, .int .i64 a.need, .slice E2 a.cmd.length e2, .slice E3 a.mats.length e3, .slice E4 a.prods.length e4] 81), FiveAt.new wr _, HB.out.below.alloc HB.out.below.size _⟩))
            have HCC := Lib.hid (fun W (hb : Below wr.heap.size wr W) (hw : Below w.heap.size w W) => HC.out W hw k a E1 E2 E3 E4 e1 e2 e3 e4 hlt (HSR.out.below hb) HASM.out)
            clear HSR
            have hlow : Below wr.heap.size wr (wr.alloc (.cells #[.string a.name, .slice E1 a.keys.length e1, .int .i64 a.need, .slice E2 a.cmd.length e2, .slice E3 a.mats.length e3, .slice E4 a.prods.length e4] 81)).drew := ((Below.refl _ wr).alloc (Nat.le_refl _) _).drew
            have HLO := Lib.hid hlow
            clear hlow
            obtain ⟨z2, hz2⟩ : ∃ z, stepE Y.keys (Y.steps.take k) a = z := ⟨_, rfl⟩
            rw [hz2] at HCC
            have HZ2 := Lib.hid hz2
            clear hz2
            go_wp2_with fail
            first | go_region_held3 (fun w' => (w'.cell? ⟨w.heap.size, 0, none⟩ = some (.string Y.name) ∧ w'.cell? ⟨w.heap.size, 1, none⟩ = some (.int .i64 Y.exp) ∧ w'.cell? ⟨w.heap.size, 2, none⟩ = some (.slice A1 Y.keys.length c1) ∧ w'.cell? ⟨w.heap.size, 3, none⟩ = some (.slice (some ad) n c2)) ∧ (w'.cell? ⟨wr.heap.size, 0, none⟩ = some (.string a.name) ∧ w'.cell? ⟨wr.heap.size, 1, none⟩ = some (.slice E1 a.keys.length e1) ∧ w'.cell? ⟨wr.heap.size, 2, none⟩ = some (.int .i64 a.need) ∧ w'.cell? ⟨wr.heap.size, 3, none⟩ = some (.slice E2 a.cmd.length e2) ∧ w'.cell? ⟨wr.heap.size, 4, none⟩ = some (.slice E3 a.mats.length e3) ∧ w'.cell? ⟨wr.heap.size, 5, none⟩ = some (.slice E4 a.prods.length e4)) ∧ LayAt w (.cells #[.string Y.name, .int .i64 Y.exp, .slice A1 Y.keys.length c1, .slice (some ad) n c2] 41) wr.heap.size (.cells #[.string a.name, .slice E1 a.keys.length e1, .int .i64 a.need, .slice E2 a.cmd.length e2, .slice E3 a.mats.length e3, .slice E4 a.prods.length e4] 81) w' ∧ Below wr.heap.size wr w')
              (first
                | exact ⟨HL.out.1, HL.out.2.1, HL.out.2.2, HLO.out⟩
                | (go_split_ands; exact ⟨(layS (LayAt.keep (by assumption) hb)).1, (layS (LayAt.keep (by assumption) hb)).2.1, LayAt.keep (by assumption) hb, Below.trans (by assumption) (hb.mono (Below.size (by assumption)))⟩))
              (first
                | (go_at_call 47; go_split_ands; refine (HCC.out _ (by assumption) (LayAt.below (by assumption))).mono ?_; rintro e w1 ⟨rfl, hb⟩)) | fail
            have HB2 : Hid (Below w.heap.size w w1) := Lib.hid (by go_split_ands; exact LayAt.below (by assumption))
            have HB3 : Hid (Below wr.heap.size wr w1) := Lib.hid (by go_split_ands; assumption)
            by_cases hz : z2 = 0
            · subst hz
              have HX := Lib.hid (fault_next HA.out HKK.out HZ2.out)
              go_wp2
              go_roundw
              case rel => exact ⟨k + 1, by omega, by go_num, HX, Lib.hid (HB.out.trans HB3.out)⟩
              case measure => simp [intOf]; omega
            · have hne : (z2 != 0) = true := by simpa using hz
              have HX := Lib.hid (fault_hit HA.out HKK.out HZ2.out hz)
              go_wp2
              go_ret
              exact ⟨ret_int (HX.out.symm.trans HE.out.symm), HB2.out⟩
          · have HX := Lib.hid (fault_end HA.out (by rw [HNN.out]; omega))
            go_wp2
            go_ret
            exact ⟨ret_int (HX.out.symm.trans HE.out.symm), HB.out.below⟩
    · have hne : (z1 != 0) = true := by simpa using hk0
      have HE := Lib.hid (HF4.out hk0)
      go_wp2
      go_ret
      exact ⟨ret_int HE.out.symm, HB.out.below⟩
end Go.Proofs.YtnidamdfdlkoiaaDoor.A
