/- The law of layouts: the walk. -/
import Derived.Test.YtnidamdfdlkoiaaDoorC4
import Derived.Test.YtnidamdfdlkoiaaDoorG9
import Derived.Test.YtnidamdfdlkoiaaDoorH4
import Derived.Test.YtnidamdfdlkoiaaDoorH5
namespace Go.Proofs.YtnidamdfdlkoiaaDoor.A
open Go.RowKit

theorem layoutTextE_any (Y : LayoutD) (v : Value) (w : World) (hv : RdLay w v Y) (hs : Y.Small) (hP : Pow w) :
    Calls Tryd.prog 13 #[v] w fun e w' => e = .returned (.tuple #[.string (layTV (layE Y) Y), .int .i64 (layE Y)]) ∧ Below w.heap.size w w' := by
  by_cases h : layE Y = 0
  · exact layoutTextE_ok Y v w hv hs hP h
  · exact layoutTextE_no Y v w hv hs h
theorem layoutTextE8_any (Y : LayoutD) (v : Value) (w : World) (hv : RdLay w v Y) (hs : Y.Small) (hP : Pow w) :
    Calls Tryd.prog 14 #[v] w fun e w' => e = .returned (.tuple #[.string (layTV (layE Y) Y), .int .i64 (layE Y)]) ∧ Below w.heap.size w w' := by
  by_cases h : layE Y = 0
  · exact layoutTextE8_ok Y v w hv hs hP h
  · exact layoutTextE8_no Y v w hv hs h

section
variable {w W w1 : World} {x0 x1 x2 x3 : Value} {t : TypeId}
/-- the law's own box -/
structure OneAt (w : World) (o1 : Obj) (W : World) : Prop where
  b1 : FiveAt w.heap.size o1 W
  below : Below w.heap.size w W
theorem OneAt.keep {o1 : Obj} (h : OneAt w o1 W) (hb : Below W.heap.size W w1) : OneAt w o1 w1 := ⟨h.b1.keep hb, h.below.trans (hb.mono h.below.size)⟩
theorem OneAt.drew {o1 : Obj} (h : OneAt w o1 W) : OneAt w o1 W.drew := ⟨h.b1, h.below.drew⟩
theorem oneS (h : OneAt w (.cells #[x0, x1, x2, x3] t) W) :
    (W.cell? ⟨w.heap.size, 0, none⟩ = some x0 ∧ W.cell? ⟨w.heap.size, 1, none⟩ = some x1 ∧ W.cell? ⟨w.heap.size, 2, none⟩ = some x2 ∧ W.cell? ⟨w.heap.size, 3, none⟩ = some x3) ∧
    OneAt w (.cells #[x0, x1, x2, x3] t) W := ⟨h.b1.four, h⟩
end

set_option maxHeartbeats 8000000 in
set_option maxRecDepth 100000 in
theorem layouts_any (Y : LayoutD) (v : Value) (w : World) (hv : RdLay w v Y) (hs : Y.Small) (hT : Tab w) (hP : Pow w) :
    Calls Tryd.prog 4 #[v] w fun e w' => e = .returned (.bool true) ∧ Below w.heap.size w w' := by
  have HT1 := Lib.hid (fun W (hb : Below w.heap.size w W) => layoutTextE_any Y v W (hv.below hb) hs (hP.below hb))
  have HT2 := Lib.hid (fun W (hb : Below w.heap.size w W) => layoutTextE8_any Y v W (hv.below hb) hs (hP.below hb))
  have HC1 := Lib.hid (fun W (hb : Below w.heap.size w W) => checkLayout_any Y v W (hv.below hb) hs)
  have HC2 := Lib.hid (fun W (hb : Below w.heap.size w W) => checkLayout8_any Y v W (hv.below hb) hs)
  have HTO := Lib.hid (fun W (hb : Below w.heap.size w W) => told_any W (hT.below hb))
  obtain ⟨A1, A2, c1, c2, rfl, hY⟩ := hv
  generalize layE Y = z at *
  generalize layTV z Y = tx at *
  unfold layV at *
  have HX := Lib.hid (show OneAt w (.cells #[.string Y.name, .int .i64 Y.exp, .slice A1 Y.keys.length c1, .slice A2 Y.steps.length c2] 41) (w.alloc (.cells #[.string Y.name, .int .i64 Y.exp, .slice A1 Y.keys.length c1, .slice A2 Y.steps.length c2] 41)) from ⟨heap_alloc_new w _, (Below.refl _ w).alloc (Nat.le_refl _) _⟩)
  clear hY hs hT hP
  go_enter Tryd.func4, Tryd.ntmps4
  go_wp2_with fail
  refine (HT1.out _ HX.out.below).mono ?_
  rintro e w1 ⟨rfl, hb⟩
  have HX := Lib.hid (HX.out.keep hb)
  clear hb
  obtain ⟨k0, k1, k2, k3⟩ := HX.out.b1.four
  go_wp2_with fail
  refine (HT2.out _ HX.out.below).mono ?_
  rintro e w2 ⟨rfl, hb⟩
  have HX := Lib.hid (HX.out.keep hb)
  clear hb k0 k1 k2 k3
  have HL := Lib.hid (oneS HX.out.drew)
  have htx : (tx.toList == tx.toList) = true := by simp
  go_wp2_with fail
  first | go_region_held3 (fun w' => (w'.cell? ⟨w.heap.size, 0, none⟩ = some (.string Y.name) ∧ w'.cell? ⟨w.heap.size, 1, none⟩ = some (.int .i64 Y.exp) ∧ w'.cell? ⟨w.heap.size, 2, none⟩ = some (.slice A1 Y.keys.length c1) ∧ w'.cell? ⟨w.heap.size, 3, none⟩ = some (.slice A2 Y.steps.length c2)) ∧ OneAt w (.cells #[.string Y.name, .int .i64 Y.exp, .slice A1 Y.keys.length c1, .slice A2 Y.steps.length c2] 41) w')
      (first
        | exact HL.out
        | (go_split_ands; exact oneS (OneAt.keep (by assumption) hb))
        | (go_split_ands; exact oneS (by assumption)))
      (first
        | (go_at_call 15; go_split_ands; refine (HC1.out _ (OneAt.below (by assumption))).mono ?_; rintro e w5 ⟨rfl, hb⟩)
        | (go_at_call 16; go_split_ands; refine (HC2.out _ (OneAt.below (by assumption))).mono ?_; rintro e w5 ⟨rfl, hb⟩)
        | (go_at_call 12; go_split_ands; refine (HTO.out _ (OneAt.below (by assumption))).mono ?_; rintro e w5 ⟨rfl, hb⟩)) | fail
  go_wp2
  go_ret
  exact ⟨rfl, by go_split_ands; exact OneAt.below (by assumption)⟩
end Go.Proofs.YtnidamdfdlkoiaaDoor.A
