/- SignLink of the program, up to its copies. -/
import Derived.Test.YtnidamdfdlkoiaaDoorD2
namespace Go.Proofs.YtnidamdfdlkoiaaDoor.A
open Go.RowKit

section
variable {b : Nat} {w W w1 : World} {o p q : Obj} {x0 x1 x2 x3 x4 y0 y1 y2 : Value} {t t2 : TypeId}
theorem FiveAt.lt (h : FiveAt b o W) : b < W.heap.size := (Array.getElem?_eq_some_iff.1 h).1
theorem FiveAt.alloc (h : FiveAt b o W) (p : Obj) : FiveAt b o (W.alloc p) := (heap_alloc_old W p h.lt).trans h
theorem FiveAt.drew (h : FiveAt b o W) : FiveAt b o W.drew := h
theorem FiveAt.setCell (h : FiveAt b o W) (a : Addr) (v : Value) (hne : b ≠ a.block) : FiveAt b o (W.setCell a v) := (heap_setCell_other _ _ _ _ hne).trans h
theorem FiveAt.three (h : FiveAt b (.cells #[y0, y1, y2] t) W) : W.cell? ⟨b, 0, none⟩ = some y0 ∧ W.cell? ⟨b, 1, none⟩ = some y1 ∧ W.cell? ⟨b, 2, none⟩ = some y2 := by
  unfold FiveAt at h
  refine ⟨?_, ?_, ?_⟩ <;> simp [World.cell?, h]
theorem FiveAt.frozen (h : FiveAt b (.cells #[x0, x1, x2, x3, x4] t) W) (j : Nat) : W.frozen? ⟨b, j, none⟩ = false := by
  unfold FiveAt at h
  simp [World.frozen?, h]
theorem three_boxes (w : World) (o p q : Obj) : FiveAt w.heap.size o (((w.alloc o).alloc p).alloc q) ∧ FiveAt (w.heap.size + 1) p (((w.alloc o).alloc p).alloc q) ∧ FiveAt (w.heap.size + 2) q (((w.alloc o).alloc p).alloc q) ∧ Below w.heap.size w (((w.alloc o).alloc p).alloc q) := by
  obtain ⟨h1, h2, h3⟩ := two_five w o p
  refine ⟨h1.alloc q, h2.alloc q, ?_, h3.alloc h3.size q⟩
  have := heap_alloc_new ((w.alloc o).alloc p) q
  simpa [FiveAt] using this
/-- the three boxes, the first two read -/
theorem slS (h1 : FiveAt b (.cells #[x0, x1, x2, x3, x4] t) W) (h2 : FiveAt (b + 1) (.cells #[y0, y1, y2] t2) W) (h3 : FiveAt (b + 2) q W) (hb : Below w.heap.size w W) :
    (W.cell? ⟨b, 0, none⟩ = some x0 ∧ W.cell? ⟨b, 1, none⟩ = some x1 ∧ W.cell? ⟨b, 2, none⟩ = some x2 ∧ W.cell? ⟨b, 3, none⟩ = some x3 ∧ W.cell? ⟨b, 4, none⟩ = some x4) ∧
    (W.cell? ⟨b + 1, 0, none⟩ = some y0 ∧ W.cell? ⟨b + 1, 1, none⟩ = some y1 ∧ W.cell? ⟨b + 1, 2, none⟩ = some y2) ∧
    FiveAt b (.cells #[x0, x1, x2, x3, x4] t) W ∧ FiveAt (b + 1) (.cells #[y0, y1, y2] t2) W ∧ FiveAt (b + 2) q W ∧ Below w.heap.size w W := ⟨h1.cells, h2.three, h1, h2, h3, hb⟩
end

set_option maxHeartbeats 4000000 in
set_option maxRecDepth 100000 in
theorem signLink_link (L : LinkD) (K : KeyD) (v : Value) (w : World) (hv : RdLink w v L) (hs : L.Small) (hz0 : linkE L ≠ 0) :
    Calls Tryd.prog 7 #[v, K.val] w (SLPost L K w) := by
  have HR := Lib.hid (fun W (hb : Below w.heap.size w W) => checkLink_any L v W (hv.below hb) hs)
  have HE := Lib.hid (slE_link (K := K) hz0)
  obtain ⟨z, hz⟩ : ∃ z, linkE L = z := ⟨_, rfl⟩
  rw [hz] at HR HE hz0
  obtain ⟨A1, A2, A3, A4, c1, c2, c3, c4, h⟩ := hv
  have hval := h.val
  clear h hz hs
  have HX := Lib.hid (three_boxes w (.cells #[.string L.step, .slice A1 L.cmd.length c1, .slice A2 L.mats.length c2, .slice A3 L.prods.length c3, .slice A4 L.sigs.length c4] 26) (.cells #[.string K.name, .string K.secret, .string K.pub] 28) (.cells #[.string ⟨#[]⟩, .slice none 0 0, .slice none 0 0, .slice none 0 0, .slice none 0 0] 26))
  subst hval
  unfold KeyD.val
  have hne : (z != 0) = true := by simpa using hz0
  go_enter Tryd.func7, Tryd.ntmps7
  go_wp2_with fail
  refine (HR.out _ HX.out.2.2.2).mono ?_
  rintro e w1 ⟨rfl, hb⟩
  have HF := Lib.hid (HX.out.2.2.1.keep hb)
  have HB := Lib.hid (HX.out.2.2.2.trans (hb.mono HX.out.2.2.2.size))
  obtain ⟨r0, r1, r2, r3, r4⟩ := HF.out.cells
  have f0 := HF.out.frozen 0
  have f1 := HF.out.frozen 1
  have f2 := HF.out.frozen 2
  have f3 := HF.out.frozen 3
  have f4 := HF.out.frozen 4
  clear hb
  go_wp2
  refine bodyPost_ret (v := .tuple #[.agg #[.string ⟨#[]⟩, .slice none 0 0, .slice none 0 0, .slice none 0 0, .slice none 0 0], .int .i64 z]) (by simp [results, Tryd.results7, go_sem]; go_simp) rfl ?_
  refine ⟨_, by rw [HE.out], ?_, ((((HB.out.setCell (by simp <;> omega) _).setCell (by simp <;> omega) _).setCell (by simp <;> omega) _).setCell (by simp <;> omega) _).setCell (by simp <;> omega) _⟩
  rw [slL_no (by rw [HE.out]; exact hz0)]
  exact zero_link _
end Go.Proofs.YtnidamdfdlkoiaaDoor.A
