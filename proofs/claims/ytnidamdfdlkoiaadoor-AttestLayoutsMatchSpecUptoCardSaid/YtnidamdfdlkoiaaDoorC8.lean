/- sameLink of two that read the same. -/
import Derived.Test.YtnidamdfdlkoiaaDoorC7
namespace Go.Proofs.YtnidamdfdlkoiaaDoor.A
open Go.RowKit

/-- two boxes of five cells, one behind the other -/
def FiveAt (b : Nat) (o : Obj) (W : World) : Prop := W.heap[b]? = some o
section
variable {b : Nat} {w W w1 : World} {o p : Obj} {x0 x1 x2 x3 x4 : Value} {t : TypeId}
theorem FiveAt.keep (h : FiveAt b o W) (hb : Below W.heap.size W w1) : FiveAt b o w1 := (hb.block b (Array.getElem?_eq_some_iff.1 h).1).trans h
theorem FiveAt.cells (h : FiveAt b (.cells #[x0, x1, x2, x3, x4] t) W) : W.cell? ⟨b, 0, none⟩ = some x0 ∧ W.cell? ⟨b, 1, none⟩ = some x1 ∧ W.cell? ⟨b, 2, none⟩ = some x2 ∧ W.cell? ⟨b, 3, none⟩ = some x3 ∧ W.cell? ⟨b, 4, none⟩ = some x4 := by
  unfold FiveAt at h
  refine ⟨?_, ?_, ?_, ?_, ?_⟩ <;> simp [World.cell?, h]
theorem two_five (w : World) (o p : Obj) : FiveAt w.heap.size o ((w.alloc o).alloc p) ∧ FiveAt (w.heap.size + 1) p ((w.alloc o).alloc p) ∧ Below w.heap.size w ((w.alloc o).alloc p) := by
  refine ⟨?_, ?_, ((Below.refl w.heap.size w).alloc (Nat.le_refl _) _).alloc (by simp) _⟩
  · unfold FiveAt; rw [heap_alloc_old _ _ (by simp), heap_alloc_new]
  · have := heap_alloc_new (w.alloc o) p
    simpa [FiveAt] using this
end
theorem linkS5 {b b2 : Nat} {w W : World} {x0 x1 x2 x3 x4 y0 y1 y2 y3 y4 : Value} {t t2 : TypeId} (h : FiveAt b (.cells #[x0, x1, x2, x3, x4] t) W) (h2 : FiveAt b2 (.cells #[y0, y1, y2, y3, y4] t2) W) (hb : Below w.heap.size w W) :
    (W.cell? ⟨b, 0, none⟩ = some x0 ∧ W.cell? ⟨b, 1, none⟩ = some x1 ∧ W.cell? ⟨b, 2, none⟩ = some x2 ∧ W.cell? ⟨b, 3, none⟩ = some x3 ∧ W.cell? ⟨b, 4, none⟩ = some x4) ∧
    (W.cell? ⟨b2, 0, none⟩ = some y0 ∧ W.cell? ⟨b2, 1, none⟩ = some y1 ∧ W.cell? ⟨b2, 2, none⟩ = some y2 ∧ W.cell? ⟨b2, 3, none⟩ = some y3 ∧ W.cell? ⟨b2, 4, none⟩ = some y4) ∧
    FiveAt b (.cells #[x0, x1, x2, x3, x4] t) W ∧ FiveAt b2 (.cells #[y0, y1, y2, y3, y4] t2) W ∧ Below w.heap.size w W := ⟨h.cells, h2.cells, h, h2, hb⟩

set_option maxHeartbeats 8000000 in
set_option maxRecDepth 100000 in
theorem sameLink_any (L : LinkD) (u v : Value) (w : World) (hu : RdLink w u L) (hv : RdLink w v L) (hs : L.Small) :
    Calls Tryd.prog 11 #[u, v] w fun e w' => e = .returned (.bool true) ∧ Below w.heap.size w w' := by
  obtain ⟨A1, A2, A3, A4, c1, c2, c3, c4, h⟩ := hu
  obtain ⟨rfl, h1, h2, h3, h4, _⟩ := h
  obtain ⟨B1, B2, B3, B4, d1, d2, d3, d4, k⟩ := hv
  obtain ⟨rfl, k1, k2, k3, k4, _⟩ := k
  obtain ⟨l1, l2, l3, l4⟩ := hs.lens
  have H1 := Lib.hid (fun W (hb : Below w.heap.size w W) => equalS A1 B1 c1 d1 L.cmd W l1 (h1.below hb) (k1.below hb))
  have H2 := Lib.hid (fun W (hb : Below w.heap.size w W) => equalArt A2 B2 c2 d2 L.mats W l2 (h2.below hb) (k2.below hb))
  have H3 := Lib.hid (fun W (hb : Below w.heap.size w W) => equalArt A3 B3 c3 d3 L.prods W l3 (h3.below hb) (k3.below hb))
  have H4 := Lib.hid (fun W (hb : Below w.heap.size w W) => equalSig A4 B4 c4 d4 L.sigs W l4 (h4.below hb) (k4.below hb))
  clear h1 h2 h3 h4 k1 k2 k3 k4 hs l1 l2 l3 l4
  generalize L.cmd.length = n1 at *
  generalize L.mats.length = n2 at *
  generalize L.prods.length = n3 at *
  generalize L.sigs.length = n4 at *
  generalize L.step = step at *
  have hx : (step.toList == step.toList) = true := by simp
  have hB := two_five w (.cells #[.string step, .slice A1 n1 c1, .slice A2 n2 c2, .slice A3 n3 c3, .slice A4 n4 c4] 26) (.cells #[.string step, .slice B1 n1 d1, .slice B2 n2 d2, .slice B3 n3 d3, .slice B4 n4 d4] 26)
  have hk := Lib.hid (linkS5 hB.1 hB.2.1 hB.2.2)
  clear hB
  go_enter Tryd.func11, Tryd.ntmps11
  go_wp2_with fail
  refine (H1.out _ hk.out.2.2.2.2).mono ?_
  rintro e w1 ⟨rfl, hb⟩
  have hk1 := Lib.hid (linkS5 (hk.out.2.2.1.keep hb) (hk.out.2.2.2.1.keep hb) (hk.out.2.2.2.2.trans (hb.mono hk.out.2.2.2.2.size)))
  clear hb 
  obtain ⟨k0, k1, _⟩ := hk1.out
  obtain ⟨a0, a1, a2, a3, a4⟩ := k0
  obtain ⟨b0, b1, b2, b3, b4⟩ := k1
  go_wp2_with fail
  refine (H2.out _ hk1.out.2.2.2.2).mono ?_
  rintro e w2 ⟨rfl, hb⟩
  have hk2 := Lib.hid (linkS5 (hk1.out.2.2.1.keep hb) (hk1.out.2.2.2.1.keep hb) (hk1.out.2.2.2.2.trans (hb.mono hk1.out.2.2.2.2.size)))
  clear hb a0 a1 a2 a3 a4 b0 b1 b2 b3 b4
  obtain ⟨k0, k1, _⟩ := hk2.out
  obtain ⟨a0, a1, a2, a3, a4⟩ := k0
  obtain ⟨b0, b1, b2, b3, b4⟩ := k1
  go_wp2_with fail
  refine (H3.out _ hk2.out.2.2.2.2).mono ?_
  rintro e w3 ⟨rfl, hb⟩
  have hk3 := Lib.hid (linkS5 (hk2.out.2.2.1.keep hb) (hk2.out.2.2.2.1.keep hb) (hk2.out.2.2.2.2.trans (hb.mono hk2.out.2.2.2.2.size)))
  clear hb a0 a1 a2 a3 a4 b0 b1 b2 b3 b4
  obtain ⟨k0, k1, _⟩ := hk3.out
  obtain ⟨a0, a1, a2, a3, a4⟩ := k0
  obtain ⟨b0, b1, b2, b3, b4⟩ := k1
  go_wp2_with fail
  refine (H4.out _ hk3.out.2.2.2.2).mono ?_
  rintro e w4 ⟨rfl, hb⟩
  have hk4 := Lib.hid (linkS5 (hk3.out.2.2.1.keep hb) (hk3.out.2.2.2.1.keep hb) (hk3.out.2.2.2.2.trans (hb.mono hk3.out.2.2.2.2.size)))
  clear hb a0 a1 a2 a3 a4 b0 b1 b2 b3 b4
  go_wp2
  go_ret
  exact ⟨rfl, hk4.out.2.2.2.2⟩
end Go.Proofs.YtnidamdfdlkoiaaDoor.A
