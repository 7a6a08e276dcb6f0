/- SignLink of the program where the key is at fault. -/
import Derived.Test.YtnidamdfdlkoiaaDoorD3
import Derived.Deep.DeepCutAuto
import Derived.Deep.DrawnRows
namespace Go.Proofs.YtnidamdfdlkoiaaDoor.A
open Go.RowKit

theorem linkS_size (L : LinkD) : (linkS L).size = (linkL L).length := by simp [linkS, ByteArray.size]
section
variable {b g n : Nat} {w W w1 : World} {o p q o1 o2 o3 o4 : Obj} {x y u v x0 x1 x2 x3 x4 y0 y1 y2 : Value} {t t2 : TypeId}
theorem box_keep (hb : Below (W.alloc o).heap.size (W.alloc o) w1) : FiveAt W.heap.size o w1 := FiveAt.keep (heap_alloc_new W o) hb
theorem box_keep2 (hb : Below (W.alloc o).drew.heap.size (W.alloc o).drew w1) : FiveAt W.heap.size o w1 := FiveAt.keep (W := (W.alloc o).drew) (heap_alloc_new W o) hb
theorem lt_keep (hb : Below W.heap.size W w1) (h : n < W.heap.size) : n < w1.heap.size := Nat.lt_of_lt_of_le h hb.size
theorem FiveAt.two (h : FiveAt g (.cells #[x, y] t) W) : W.cell? ⟨g, 0, none⟩ = some x ∧ W.cell? ⟨g, 1, none⟩ = some y ∧ W.frozen? ⟨g, 0, none⟩ = false ∧ W.frozen? ⟨g, 1, none⟩ = false := by
  unfold FiveAt at h
  refine ⟨?_, ?_, ?_, ?_⟩ <;> simp [World.cell?, World.frozen?, h]
theorem FiveAt.two_set (h : FiveAt g (.cells #[x, y] t) W) (u v : Value) : FiveAt g (.cells #[u, v] t) ((W.setCell ⟨g, 0, none⟩ u).setCell ⟨g, 1, none⟩ v) := by
  have h1 := heap_setCell_same W g 0 #[x, y] t u h
  have h2 := heap_setCell_same _ g 1 _ t v h1
  simpa [FiveAt] using h2
/-- the boxes of a call of SignLink, and that of the signature -/
structure SLAt (w : World) (o1 o2 o3 : Obj) (g : Nat) (o4 : Obj) (W : World) : Prop where
  b1 : FiveAt w.heap.size o1 W
  b2 : FiveAt (w.heap.size + 1) o2 W
  b3 : FiveAt (w.heap.size + 2) o3 W
  b4 : FiveAt g o4 W
  far : w.heap.size + 2 < g
  below : Below w.heap.size w W
theorem SLAt.keep (h : SLAt w o1 o2 o3 g o4 W) (hb : Below W.heap.size W w1) : SLAt w o1 o2 o3 g o4 w1 :=
  ⟨h.b1.keep hb, h.b2.keep hb, h.b3.keep hb, h.b4.keep hb, h.far, h.below.trans (hb.mono h.below.size)⟩
theorem slS_set (hlt : w.heap.size + 2 < g)
    (h1 : FiveAt w.heap.size (.cells #[x0, x1, x2, x3, x4] t) W) (h2 : FiveAt (w.heap.size + 1) (.cells #[y0, y1, y2] t2) W) (h3 : FiveAt (w.heap.size + 2) q W) (hb : Below w.heap.size w W) {W2 : World} (hW : W2 = (W.setCell ⟨g, 0, none⟩ u).setCell ⟨g, 1, none⟩ v) :
    (W2.cell? ⟨w.heap.size, 0, none⟩ = some x0 ∧ W2.cell? ⟨w.heap.size, 1, none⟩ = some x1 ∧ W2.cell? ⟨w.heap.size, 2, none⟩ = some x2 ∧ W2.cell? ⟨w.heap.size, 3, none⟩ = some x3 ∧ W2.cell? ⟨w.heap.size, 4, none⟩ = some x4) ∧
    (W2.cell? ⟨w.heap.size + 1, 0, none⟩ = some y0 ∧ W2.cell? ⟨w.heap.size + 1, 1, none⟩ = some y1 ∧ W2.cell? ⟨w.heap.size + 1, 2, none⟩ = some y2) ∧
    FiveAt w.heap.size (.cells #[x0, x1, x2, x3, x4] t) W2 ∧ FiveAt (w.heap.size + 1) (.cells #[y0, y1, y2] t2) W2 ∧ FiveAt (w.heap.size + 2) q W2 ∧ Below w.heap.size w W2 := by
  subst hW
  exact slS ((h1.setCell ⟨g, 0, none⟩ u (by simp; omega)).setCell ⟨g, 1, none⟩ v (by simp; omega)) ((h2.setCell ⟨g, 0, none⟩ u (by simp; omega)).setCell ⟨g, 1, none⟩ v (by simp; omega)) ((h3.setCell ⟨g, 0, none⟩ u (by simp; omega)).setCell ⟨g, 1, none⟩ v (by simp; omega)) ((hb.setCell (p := ⟨g, 0, none⟩) (by simp; omega) u).setCell (p := ⟨g, 1, none⟩) (by simp; omega) v)
end
attribute [local go_sem ↓] Go.wp_at_zero Go.wp_at_succ

set_option maxHeartbeats 8000000 in
set_option maxRecDepth 100000 in
theorem signLink_key (L : LinkD) (K : KeyD) (v : Value) (w : World) (hv : RdLink w v L) (hs : L.Small) (hK : K.Small) (hT : Tab w) (hz1 : linkE L = 0) (hz2 : keyE K (linkS L).size true ≠ 0) :
    Calls Tryd.prog 7 #[v, K.val] w (SLPost L K w) := by
  have HR := Lib.hid (fun W (hb : Below w.heap.size w W) => checkLink_any L v W (hv.below hb) hs)
  have HT := Lib.hid (fun W (hb : Below w.heap.size w W) => linkText_any L v W (hv.below hb) hs (by have := small_text hs; omega))
  have HG := Lib.hid (fun W (hb : Below w.heap.size w W) => sign_any K (linkS L) W hK (by rw [linkS_size]; have := small_text hs; unfold maxLen; omega) (hT.below hb))
  have HE := Lib.hid (slE_key hz1 hz2)
  rw [hz1] at HR
  obtain ⟨z, hz⟩ : ∃ z, keyE K (linkS L).size true = z := ⟨_, rfl⟩
  rw [hz] at HG HE hz2
  rw [signV_no K _ hz2] at HG
  obtain ⟨A1, A2, A3, A4, c1, c2, c3, c4, h⟩ := hv
  have hval := h.val
  clear h hz hz1 hs hK hT
  have HX := Lib.hid (three_boxes w (.cells #[.string L.step, .slice A1 L.cmd.length c1, .slice A2 L.mats.length c2, .slice A3 L.prods.length c3, .slice A4 L.sigs.length c4] 26) (.cells #[.string K.name, .string K.secret, .string K.pub] 28) (.cells #[.string ⟨#[]⟩, .slice none 0 0, .slice none 0 0, .slice none 0 0, .slice none 0 0] 26))
  subst hval
  unfold KeyD.val at *
  have hne : (z != 0) = true := by simpa using hz2
  go_enter Tryd.func7, Tryd.ntmps7
  go_wp2_with fail
  refine (HR.out _ HX.out.2.2.2).mono ?_
  rintro e w1 ⟨rfl, hb⟩
  have hk := Lib.hid (slS (HX.out.1.keep hb).drew (HX.out.2.1.keep hb).drew (HX.out.2.2.1.keep hb).drew (HX.out.2.2.2.trans (hb.mono HX.out.2.2.2.size)).drew)
  have hlt0 : w.heap.size + 2 < w1.heap.size := (HX.out.2.2.1.keep hb).lt
  clear hb
  go_upto_region 4 with fail
  go_cut [7, 8] (fun s7 s8 wx => ∃ g : Nat, s7 = .pointer (some ⟨g, 0, none⟩) ∧ s8 = .int .i64 z ∧ Hid (SLAt w (.cells #[.string L.step, .slice A1 L.cmd.length c1, .slice A2 L.mats.length c2, .slice A3 L.prods.length c3, .slice A4 L.sigs.length c4] 26) (.cells #[.string K.name, .string K.secret, .string K.pub] 28) (.cells #[.string ⟨#[]⟩, .slice none 0 0, .slice none 0 0, .slice none 0 0, .slice none 0 0] 26) g (.cells #[.string ⟨#[]⟩, .string ⟨#[]⟩] 47) wx))
  case first =>
    first | go_region_held3 (fun w' => (w'.cell? ⟨w.heap.size, 0, none⟩ = some (.string L.step) ∧ w'.cell? ⟨w.heap.size, 1, none⟩ = some (.slice A1 L.cmd.length c1) ∧ w'.cell? ⟨w.heap.size, 2, none⟩ = some (.slice A2 L.mats.length c2) ∧ w'.cell? ⟨w.heap.size, 3, none⟩ = some (.slice A3 L.prods.length c3) ∧ w'.cell? ⟨w.heap.size, 4, none⟩ = some (.slice A4 L.sigs.length c4)) ∧
        (w'.cell? ⟨w.heap.size + 1, 0, none⟩ = some (.string K.name) ∧ w'.cell? ⟨w.heap.size + 1, 1, none⟩ = some (.string K.secret) ∧ w'.cell? ⟨w.heap.size + 1, 2, none⟩ = some (.string K.pub)) ∧
        FiveAt w.heap.size (.cells #[.string L.step, .slice A1 L.cmd.length c1, .slice A2 L.mats.length c2, .slice A3 L.prods.length c3, .slice A4 L.sigs.length c4] 26) w' ∧ FiveAt (w.heap.size + 1) (.cells #[.string K.name, .string K.secret, .string K.pub] 28) w' ∧ FiveAt (w.heap.size + 2) (.cells #[.string ⟨#[]⟩, .slice none 0 0, .slice none 0 0, .slice none 0 0, .slice none 0 0] 26) w' ∧ Below w.heap.size w w')
      (first
        | exact hk.out
        | (go_split_ands; exact slS (FiveAt.keep (by assumption) hb) (FiveAt.keep (by assumption) hb) (FiveAt.keep (by assumption) hb) (Below.trans (by assumption) (hb.mono (Below.size (by assumption)))))
        | (go_split_ands; exact slS (FiveAt.alloc (by assumption) _) (FiveAt.alloc (by assumption) _) (FiveAt.alloc (by assumption) _) (Below.alloc (by assumption) (Below.size (by assumption)) _))
        | (go_split_ands; exact slS_set (by assumption) (by assumption) (by assumption) (by assumption) (by assumption) rfl)
        | (go_split_ands; exact slS (by assumption) (by assumption) (by assumption) (by assumption)))
      (first
        | (go_at_call 17; go_split_ands; refine (HT.out _ (by assumption)).mono ?_; rintro e w1 ⟨rfl, hb⟩; (first | (have hlt1 := lt_keep hb hlt0) | skip); first | (have hbk := box_keep hb) | (have hbk := box_keep2 hb) | skip)
        | (go_at_call 19; go_split_ands; refine (HG.out _ (by assumption)).mono ?_; rintro e w2 ⟨rfl, hb⟩; (first | (have hlt2 := lt_keep hb hlt1) | skip); first | (have hbk := FiveAt.keep hbk hb; obtain ⟨k0, k1, f0, f1⟩ := hbk.two) | (have hbk := box_keep hb; obtain ⟨k0, k1, f0, f1⟩ := hbk.two) | skip)) | fail
    all_goals
      go_wp2_with fail
      go_meet
      go_split_ands
      first
        | exact ⟨_, rfl, rfl, Lib.hid ⟨by assumption, by assumption, by assumption, hbk.two_set _ _, by assumption, by assumption⟩⟩
        | exact ⟨_, rfl, rfl, Lib.hid ⟨by assumption, by assumption, by assumption, heap_alloc_new _ _, by assumption, by assumption⟩⟩
  case rest =>
    obtain ⟨g, rfl, rfl, HC⟩ := hcut
    obtain ⟨r0, r1, r2, r3, r4⟩ := HC.out.b3.cells
    have f0 := HC.out.b3.frozen 0
    have f1 := HC.out.b3.frozen 1
    have f2 := HC.out.b3.frozen 2
    have f3 := HC.out.b3.frozen 3
    have f4 := HC.out.b3.frozen 4
    go_wp2
    refine bodyPost_ret (v := .tuple #[.agg #[.string ⟨#[]⟩, .slice none 0 0, .slice none 0 0, .slice none 0 0, .slice none 0 0], .int .i64 z]) (by simp [results, Tryd.results7, go_sem]; go_simp) rfl ?_
    refine ⟨_, by rw [HE.out], ?_, ((((HC.out.below.setCell (by simp <;> omega) _).setCell (by simp <;> omega) _).setCell (by simp <;> omega) _).setCell (by simp <;> omega) _).setCell (by simp <;> omega) _⟩
    rw [slL_no (by rw [HE.out]; exact hz2)]
    exact zero_link _
end Go.Proofs.YtnidamdfdlkoiaaDoor.A
