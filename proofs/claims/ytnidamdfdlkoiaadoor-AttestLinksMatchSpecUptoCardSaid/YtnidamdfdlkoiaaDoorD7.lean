/- The law of links: the walk. -/
import Derived.Test.YtnidamdfdlkoiaaDoorD6
namespace Go.Proofs.YtnidamdfdlkoiaaDoor.A
open Go.RowKit

theorem signLink_any (L : LinkD) (K : KeyD) (v : Value) (w : World) (hv : RdLink w v L) (hs : L.Small) (hK : K.Small) (hT : Tab w) :
    Calls Tryd.prog 7 #[v, K.val] w (SLPost L K w) := by
  by_cases h1 : linkE L = 0
  · by_cases h2 : keyE K (linkS L).size true = 0
    · exact signLink_ok L K v w hv hs hK hT h1 h2
    · exact signLink_key L K v w hv hs hK hT h1 h2
  · exact signLink_link L K v w hv hs h1
theorem signLink8_any (L : LinkD) (K : KeyD) (v : Value) (w : World) (hv : RdLink w v L) (hs : L.Small) (hK : K.Small) :
    Calls Tryd.prog 8 #[v, K.val] w (SLPost L K w) := by
  by_cases h1 : linkE L = 0
  · by_cases h2 : keyE K (linkS L).size true = 0
    · exact signLink8_ok L K v w hv hs hK h1 h2
    · exact signLink8_key L K v w hv hs hK h1 h2
  · exact signLink8_link L K v w hv hs h1
theorem sigS_small (K : KeyD) (t : ByteArray) : (sigS K t).size ≤ 1048576 := by unfold sigS; rw [sumS_size]; decide
theorem slL_small {L : LinkD} {K : KeyD} (hs : L.Small) (hK : K.Small) : (slL (slE L K) L K).Small := by
  by_cases h : slE L K = 0
  · rw [h, slL_ok]
    have hb : L.sigs.length ≤ 50 := by
      by_cases h1 : linkE L = 0
      · have := (linkE_ok h1).2; unfold LinkD.big at this; omega
      · rw [slE_link h1] at h; exact absurd h h1
    have hl : (putSig K.name (K.name, sigS K (linkS L)) L.sigs).length ≤ 51 := by
      unfold putSig; split
      · rw [List.length_map]; omega
      · rw [List.length_append, List.length_singleton]; omega
    refine ⟨hs.step, hs.cmd, hs.mats, hs.prods, fun a ha => ?_, hs.lens.1, hs.lens.2.1, hs.lens.2.2.1, by show (putSig K.name (K.name, sigS K (linkS L)) L.sigs).length ≤ 1048576; omega⟩
    change a ∈ putSig K.name (K.name, sigS K (linkS L)) L.sigs at ha
    have hx : ∀ a, a = (K.name, sigS K (linkS L)) ∨ a ∈ L.sigs → a.1.size ≤ 1048576 ∧ a.2.size ≤ 1048576 := fun a h => by
      rcases h with rfl | h
      · exact ⟨hK.name, sigS_small _ _⟩
      · exact hs.sigs a h
    unfold putSig at ha
    split at ha
    · obtain ⟨x, hx1, rfl⟩ := List.mem_map.1 ha
      split
      · exact hx _ (.inl rfl)
      · exact hx _ (.inr hx1)
    · rcases List.mem_append.1 ha with ha | ha
      · exact hx _ (.inr ha)
      · exact hx _ (.inl (List.mem_singleton.1 ha))
  · rw [slL_no h]
    refine ⟨by show (0 : Nat) ≤ 1048576; decide, ?_, ?_, ?_, ?_, by show (0 : Nat) ≤ 1048576; decide, by show (0 : Nat) ≤ 1048576; decide, by show (0 : Nat) ≤ 1048576; decide, by show (0 : Nat) ≤ 1048576; decide⟩ <;> (intro s hs; cases hs)

section
variable {w W w1 : World} {x0 x1 x2 x3 x4 y0 y1 y2 y3 y4 z0 z1 z2 z3 z4 u v : Value} {t : TypeId} {ga gb : Nat} {L' : LinkD}
/-- the boxes of the law: the link, both signed ones -/
structure LawAt (w : World) (x0 x1 x2 x3 x4 y0 y1 y2 y3 y4 z0 z1 z2 z3 z4 : Value) (t : TypeId) (ga gb : Nat) (u v : Value) (L' : LinkD) (W : World) : Prop where
  b1 : FiveAt w.heap.size (.cells #[x0, x1, x2, x3, x4] t) W
  ba : FiveAt ga (.cells #[y0, y1, y2, y3, y4] t) W
  bb : FiveAt gb (.cells #[z0, z1, z2, z3, z4] t) W
  ra : RdLink W u L'
  rb : RdLink W v L'
  below : Below w.heap.size w W
theorem LawAt.keep (h : LawAt w x0 x1 x2 x3 x4 y0 y1 y2 y3 y4 z0 z1 z2 z3 z4 t ga gb u v L' W) (hb : Below W.heap.size W w1) : LawAt w x0 x1 x2 x3 x4 y0 y1 y2 y3 y4 z0 z1 z2 z3 z4 t ga gb u v L' w1 :=
  ⟨h.b1.keep hb, h.ba.keep hb, h.bb.keep hb, h.ra.below hb, h.rb.below hb, h.below.trans (hb.mono h.below.size)⟩
theorem LawAt.drew (h : LawAt w x0 x1 x2 x3 x4 y0 y1 y2 y3 y4 z0 z1 z2 z3 z4 t ga gb u v L' W) : LawAt w x0 x1 x2 x3 x4 y0 y1 y2 y3 y4 z0 z1 z2 z3 z4 t ga gb u v L' W.drew :=
  ⟨h.b1, h.ba, h.bb, h.ra.below (Below.refl _ _).drew, h.rb.below (Below.refl _ _).drew, h.below.drew⟩
theorem lawS (h : LawAt w x0 x1 x2 x3 x4 y0 y1 y2 y3 y4 z0 z1 z2 z3 z4 t ga gb u v L' W) :
    (W.cell? ⟨w.heap.size, 0, none⟩ = some x0 ∧ W.cell? ⟨w.heap.size, 1, none⟩ = some x1 ∧ W.cell? ⟨w.heap.size, 2, none⟩ = some x2 ∧ W.cell? ⟨w.heap.size, 3, none⟩ = some x3 ∧ W.cell? ⟨w.heap.size, 4, none⟩ = some x4) ∧
    (W.cell? ⟨ga, 0, none⟩ = some y0 ∧ W.cell? ⟨ga, 1, none⟩ = some y1 ∧ W.cell? ⟨ga, 2, none⟩ = some y2 ∧ W.cell? ⟨ga, 3, none⟩ = some y3 ∧ W.cell? ⟨ga, 4, none⟩ = some y4) ∧
    (W.cell? ⟨gb, 0, none⟩ = some z0 ∧ W.cell? ⟨gb, 1, none⟩ = some z1 ∧ W.cell? ⟨gb, 2, none⟩ = some z2 ∧ W.cell? ⟨gb, 3, none⟩ = some z3 ∧ W.cell? ⟨gb, 4, none⟩ = some z4) ∧
    LawAt w x0 x1 x2 x3 x4 y0 y1 y2 y3 y4 z0 z1 z2 z3 z4 t ga gb u v L' W := ⟨h.b1.cells, h.ba.cells, h.bb.cells, h⟩
end

set_option maxHeartbeats 8000000 in
set_option maxRecDepth 100000 in
theorem links_any (L : LinkD) (K : KeyD) (v : Value) (w : World) (hv : RdLink w v L) (hs : L.Small) (hK : K.Small) (hT : Tab w) :
    Calls Tryd.prog 3 #[v, K.val] w fun e w' => e = .returned (.bool true) ∧ Below w.heap.size w w' := by
  have HT1 := Lib.hid (fun W (hb : Below w.heap.size w W) => linkTextE_any L v W (hv.below hb) hs)
  have HT2 := Lib.hid (fun W (hb : Below w.heap.size w W) => linkTextE8_any L v W (hv.below hb) hs)
  have HS1 := Lib.hid (fun W (hb : Below w.heap.size w W) => signLink_any L K v W (hv.below hb) hs hK (hT.below hb))
  have HS2 := Lib.hid (fun W (hb : Below w.heap.size w W) => signLink8_any L K v W (hv.below hb) hs hK)
  have HC1 := Lib.hid (fun W (hb : Below w.heap.size w W) => checkLink_any L v W (hv.below hb) hs)
  have HC2 := Lib.hid (fun W (hb : Below w.heap.size w W) => checkLink8_any L v W (hv.below hb) hs)
  have HTO := Lib.hid (fun W (hb : Below w.heap.size w W) => told_any W (hT.below hb))
  have HSM := Lib.hid (fun W u v (hu : RdLink W u (slL (slE L K) L K)) (hv : RdLink W v (slL (slE L K) L K)) => sameLink_any (slL (slE L K) L K) u v W hu hv (slL_small hs hK))
  obtain ⟨z, hz⟩ : ∃ z, linkE L = z := ⟨_, rfl⟩
  rw [hz] at HT1 HT2 HC1 HC2
  unfold SLPost at HS1 HS2
  generalize textV z L = tx at *
  generalize slE L K = z2 at *
  generalize slL z2 L K = L2 at *
  obtain ⟨A1, A2, A3, A4, c1, c2, c3, c4, h⟩ := hv
  have hval := h.val
  clear h hz hs hK hT
  generalize L.step = step at *
  generalize L.cmd.length = n1 at *
  generalize L.mats.length = n2 at *
  generalize L.prods.length = n3 at *
  generalize L.sigs.length = n4 at *
  have HX := Lib.hid (two_five w (.cells #[.string step, .slice A1 n1 c1, .slice A2 n2 c2, .slice A3 n3 c3, .slice A4 n4 c4] 26) (.cells #[.string K.name, .string K.secret, .string K.pub] 28))
  subst hval
  unfold KeyD.val at *
  go_enter Tryd.func3, Tryd.ntmps3
  go_wp2_with fail
  refine (HT1.out _ HX.out.2.2).mono ?_
  rintro e w1 ⟨rfl, hb⟩
  have HB := Lib.hid (HX.out.2.2.trans (hb.mono HX.out.2.2.size))
  have HF1 := Lib.hid (HX.out.1.keep hb)
  have HF2 := Lib.hid (HX.out.2.1.keep hb)
  clear hb
  obtain ⟨k0, k1, k2, k3, k4⟩ := HF1.out.cells
  go_wp2_with fail
  refine (HT2.out _ HB.out).mono ?_
  rintro e w2 ⟨rfl, hb⟩
  have HB := Lib.hid (HB.out.trans (hb.mono HB.out.size))
  have HF1 := Lib.hid (HF1.out.keep hb)
  have HF2 := Lib.hid (HF2.out.keep hb)
  clear hb k0 k1 k2 k3 k4
  obtain ⟨k0, k1, k2, k3, k4⟩ := HF1.out.cells
  obtain ⟨e0, e1, e2⟩ := HF2.out.three
  go_wp2_with fail
  refine (HS1.out _ HB.out).mono ?_
  rintro e w3 ⟨u, rfl, hr, hb⟩
  have HB := Lib.hid (HB.out.trans (hb.mono HB.out.size))
  have HF1 := Lib.hid (HF1.out.keep hb)
  have HF2 := Lib.hid (HF2.out.keep hb)
  have HRA := Lib.hid hr
  obtain ⟨B1, B2, B3, B4, d1, d2, d3, d4, h⟩ := hr
  have hval := h.val
  clear h hb k0 k1 k2 k3 k4 e0 e1 e2
  subst hval
  have HFA := Lib.hid (show FiveAt w3.heap.size _ _ from heap_alloc_new w3 (.cells #[.string L2.step, .slice B1 L2.cmd.length d1, .slice B2 L2.mats.length d2, .slice B3 L2.prods.length d3, .slice B4 L2.sigs.length d4] 26))
  have HB := Lib.hid (HB.out.alloc HB.out.size (.cells #[.string L2.step, .slice B1 L2.cmd.length d1, .slice B2 L2.mats.length d2, .slice B3 L2.prods.length d3, .slice B4 L2.sigs.length d4] 26))
  have HF1 := Lib.hid (HF1.out.alloc (.cells #[.string L2.step, .slice B1 L2.cmd.length d1, .slice B2 L2.mats.length d2, .slice B3 L2.prods.length d3, .slice B4 L2.sigs.length d4] 26))
  have HF2 := Lib.hid (HF2.out.alloc (.cells #[.string L2.step, .slice B1 L2.cmd.length d1, .slice B2 L2.mats.length d2, .slice B3 L2.prods.length d3, .slice B4 L2.sigs.length d4] 26))
  have HRA := Lib.hid (HRA.out.below ((Below.refl _ w3).alloc (Nat.le_refl _) (.cells #[.string L2.step, .slice B1 L2.cmd.length d1, .slice B2 L2.mats.length d2, .slice B3 L2.prods.length d3, .slice B4 L2.sigs.length d4] 26)))
  obtain ⟨k0, k1, k2, k3, k4⟩ := HF1.out.cells
  obtain ⟨e0, e1, e2⟩ := HF2.out.three
  go_wp2_with fail
  refine (HS2.out _ HB.out).mono ?_
  rintro e w4 ⟨u, rfl, hr, hb⟩
  have HB := Lib.hid (HB.out.trans (hb.mono HB.out.size))
  have HF1 := Lib.hid (HF1.out.keep hb)
  have HFA := Lib.hid (HFA.out.keep hb)
  have HRA := Lib.hid (HRA.out.below hb)
  have HRB := Lib.hid hr
  obtain ⟨E1, E2, E3, E4, g1, g2, g3, g4, h⟩ := hr
  have hval := h.val
  clear h hb k0 k1 k2 k3 k4 e0 e1 e2
  subst hval
  have HL := Lib.hid (lawS (LawAt.drew (W := w4.alloc (.cells #[.string L2.step, .slice E1 L2.cmd.length g1, .slice E2 L2.mats.length g2, .slice E3 L2.prods.length g3, .slice E4 L2.sigs.length g4] 26)) (L' := L2) (u := .agg #[.string L2.step, .slice B1 L2.cmd.length d1, .slice B2 L2.mats.length d2, .slice B3 L2.prods.length d3, .slice B4 L2.sigs.length d4]) (v := .agg #[.string L2.step, .slice E1 L2.cmd.length g1, .slice E2 L2.mats.length g2, .slice E3 L2.prods.length g3, .slice E4 L2.sigs.length g4]) ⟨HF1.out.alloc _, HFA.out.alloc _, heap_alloc_new w4 _, HRA.out.below ((Below.refl _ w4).alloc (Nat.le_refl _) _), HRB.out.below ((Below.refl _ w4).alloc (Nat.le_refl _) _), HB.out.alloc HB.out.size _⟩))
  have htx : (tx.toList == tx.toList) = true := by simp
  go_wp2_with fail
  first | go_region_held3 (fun w' => (w'.cell? ⟨w.heap.size, 0, none⟩ = some (.string step) ∧ w'.cell? ⟨w.heap.size, 1, none⟩ = some (.slice A1 n1 c1) ∧ w'.cell? ⟨w.heap.size, 2, none⟩ = some (.slice A2 n2 c2) ∧ w'.cell? ⟨w.heap.size, 3, none⟩ = some (.slice A3 n3 c3) ∧ w'.cell? ⟨w.heap.size, 4, none⟩ = some (.slice A4 n4 c4)) ∧ (w'.cell? ⟨w3.heap.size, 0, none⟩ = some (.string L2.step) ∧ w'.cell? ⟨w3.heap.size, 1, none⟩ = some (.slice B1 L2.cmd.length d1) ∧ w'.cell? ⟨w3.heap.size, 2, none⟩ = some (.slice B2 L2.mats.length d2) ∧ w'.cell? ⟨w3.heap.size, 3, none⟩ = some (.slice B3 L2.prods.length d3) ∧ w'.cell? ⟨w3.heap.size, 4, none⟩ = some (.slice B4 L2.sigs.length d4)) ∧ (w'.cell? ⟨w4.heap.size, 0, none⟩ = some (.string L2.step) ∧ w'.cell? ⟨w4.heap.size, 1, none⟩ = some (.slice E1 L2.cmd.length g1) ∧ w'.cell? ⟨w4.heap.size, 2, none⟩ = some (.slice E2 L2.mats.length g2) ∧ w'.cell? ⟨w4.heap.size, 3, none⟩ = some (.slice E3 L2.prods.length g3) ∧ w'.cell? ⟨w4.heap.size, 4, none⟩ = some (.slice E4 L2.sigs.length g4)) ∧ LawAt w (.string step) (.slice A1 n1 c1) (.slice A2 n2 c2) (.slice A3 n3 c3) (.slice A4 n4 c4) (.string L2.step) (.slice B1 L2.cmd.length d1) (.slice B2 L2.mats.length d2) (.slice B3 L2.prods.length d3) (.slice B4 L2.sigs.length d4) (.string L2.step) (.slice E1 L2.cmd.length g1) (.slice E2 L2.mats.length g2) (.slice E3 L2.prods.length g3) (.slice E4 L2.sigs.length g4) 26 w3.heap.size w4.heap.size (.agg #[.string L2.step, .slice B1 L2.cmd.length d1, .slice B2 L2.mats.length d2, .slice B3 L2.prods.length d3, .slice B4 L2.sigs.length d4]) (.agg #[.string L2.step, .slice E1 L2.cmd.length g1, .slice E2 L2.mats.length g2, .slice E3 L2.prods.length g3, .slice E4 L2.sigs.length g4]) L2 w')
      (first
        | exact HL.out
        | (go_split_ands; exact lawS (LawAt.keep (by assumption) hb))
        | (go_split_ands; exact lawS (by assumption)))
      (first
        | (go_at_call 9; go_split_ands; refine (HC1.out _ (LawAt.below (by assumption))).mono ?_; rintro e w5 ⟨rfl, hb⟩)
        | (go_at_call 10; go_split_ands; refine (HC2.out _ (LawAt.below (by assumption))).mono ?_; rintro e w5 ⟨rfl, hb⟩)
        | (go_at_call 11; go_split_ands; refine (HSM.out _ _ _ (LawAt.ra (by assumption)) (LawAt.rb (by assumption))).mono ?_; rintro e w5 ⟨rfl, hb⟩)
        | (go_at_call 12; go_split_ands; refine (HTO.out _ (LawAt.below (by assumption))).mono ?_; rintro e w5 ⟨rfl, hb⟩)) | fail
  go_wp2
  go_ret
  exact ⟨rfl, by go_split_ands; exact LawAt.below (by assumption)⟩
end Go.Proofs.YtnidamdfdlkoiaaDoor.A
