/- SignLink of the reference. -/
import Derived.Test.YtnidamdfdlkoiaaDoorD5
namespace Go.Proofs.YtnidamdfdlkoiaaDoor.A
open Go.RowKit

theorem two_news {x y : Value} {t : TypeId} (W : World) {H : Nat} (hH : W.heap.size = H) : ∀ (j : Nat) u, [x, y][j]? = some u → (W.alloc (.cells #[x, y] t)).cell? ((⟨H, 0, none⟩ : Addr).add j) = some u := by
  intro j u hj
  subst hH
  match j, hj with
  | 0, hj => injection hj with hj; subst hj; rw [Addr.add_lit, Nat.zero_add]; exact (row_cells W _ _ _).1
  | 1, hj => injection hj with hj; subst hj; rw [Addr.add_lit, Nat.zero_add]; exact (row_cells W _ _ _).2
  | j + 2, hj => simp at hj
theorem two_one (a b : ByteArray) : ∀ u ∈ [Value.string a, .string b], u.oneCell' = true := by intro u hu; simp at hu; rcases hu with rfl | rfl <;> rfl
/-- signatures, those of a key replaced -/
def mapSig (k : ByteArray) (sg : ByteArray × ByteArray) (l : List (ByteArray × ByteArray)) : List (ByteArray × ByteArray) := l.map (fun x => if keyIs k x then sg else x)
theorem mapSig_succ {k : ByteArray} {sg a : ByteArray × ByteArray} {l : List (ByteArray × ByteArray)} {j : Nat} (h : l[j]? = some a) : mapSig k sg (l.take (j + 1)) = mapSig k sg (l.take j) ++ [if keyIs k a then sg else a] := by
  unfold mapSig
  rw [List.take_add_one, h, List.map_append]; rfl
theorem anySig_succ {k : ByteArray} {a : ByteArray × ByteArray} {l : List (ByteArray × ByteArray)} {j : Nat} (h : l[j]? = some a) : (l.take (j + 1)).any (keyIs k) = ((l.take j).any (keyIs k) || keyIs k a) := by
  rw [List.take_add_one, h, List.any_append]; simp
theorem putSig_any {k : ByteArray} (sg : ByteArray × ByteArray) {l : List (ByteArray × ByteArray)} (h : l.any (keyIs k) = true) : putSig k sg l = mapSig k sg l := by
  unfold putSig mapSig; rw [if_pos h]
theorem mapSig_none {k : ByteArray} (sg : ByteArray × ByteArray) {l : List (ByteArray × ByteArray)} (h : l.any (keyIs k) = false) : mapSig k sg l = l :=
  map_same sg (fun b hb => by simpa using List.any_eq_false.1 h b hb)

/-- the boxes of the reference's SignLink: the link, the key, the result, the signature, and the copy with k signatures -/
structure RSAt (w : World) (o1 o2 o3 o4 : Obj) (g : Nat) (x0 x1 x2 x3 : Value) (t ts : TypeId) (k : Nat) (A : Option Addr) (c : Nat) (l : List (ByteArray × ByteArray)) (W : World) : Prop where
  b1 : FiveAt w.heap.size o1 W
  b2 : FiveAt (w.heap.size + 1) o2 W
  b3 : FiveAt (w.heap.size + 2) o3 W
  b4 : FiveAt g o4 W
  b5 : FiveAt (g + 1) (.cells #[x0, x1, x2, x3, .slice A k c] t) W
  own : W.ownsRow (g + 2) ts 2 (.slice A k c) k (pairL l)
  cap : k ≤ c
  far : w.heap.size + 2 < g
  below : Below w.heap.size w W
section
variable {w W w1 : World} {o1 o2 o3 o4 o o' : Obj} {g k c c' : Nat} {x0 x1 x2 x3 : Value} {t ts : TypeId} {A A' : Option Addr} {l l' : List (ByteArray × ByteArray)}
theorem slpost_mk {L : LinkD} {K : KeyD} {v : Value} {z : Int} (hb : Below w.heap.size w W) (he : slE L K = z) (hr : Below w.heap.size w W → RdLink W v (slL z L K)) : SLPost L K w (.returned (.tuple #[v, .int .i64 z])) W :=
  ⟨v, by rw [he], by rw [he]; exact hr hb, hb⟩
theorem RSAt.row (h : RSAt w o1 o2 o3 o4 g x0 x1 x2 x3 t ts k A c l W) : ∀ j, (Value.slice A k c).ownBlock = some j → g + 2 ≤ j := fun j hj => (h.own.lt j hj).1
theorem RSAt.room (h : RSAt w o1 o2 o3 o4 g x0 x1 x2 x3 t ts k A c l W) (o o' : Obj) : g + 2 ≤ ((W.alloc o).alloc o').heap.size := by have := h.b5.lt; simp; omega
theorem RSAt.room1 (h : RSAt w o1 o2 o3 o4 g x0 x1 x2 x3 t ts k A c l W) (o : Obj) : g + 2 ≤ (W.alloc o).heap.size := by have := h.b5.lt; simp; omega
theorem RSAt.box (h : RSAt w o1 o2 o3 o4 g x0 x1 x2 x3 t ts k A c l W) (hg : ((W.alloc o).alloc o').grownBy w1 (Value.slice A k c).ownBlock) : FiveAt (g + 1) (.cells #[x0, x1, x2, x3, .slice A k c] t) w1 :=
  ((h.b5.alloc o).alloc o').grown hg (fun e => by have := h.row _ e.symm; omega)
theorem RSAt.box1 (h : RSAt w o1 o2 o3 o4 g x0 x1 x2 x3 t ts k A c l W) (hg : (W.alloc o).grownBy w1 (Value.slice A k c).ownBlock) : FiveAt (g + 1) (.cells #[x0, x1, x2, x3, .slice A k c] t) w1 :=
  (h.b5.alloc o).grown hg (fun e => by have := h.row _ e.symm; omega)
theorem RSAt.next1 (h : RSAt w o1 o2 o3 o4 g x0 x1 x2 x3 t ts k A c l W) (hg : (W.alloc o).grownBy w1 (Value.slice A k c).ownBlock) {k' : Nat} (ho : w1.ownsRow (g + 2) ts 2 (.slice A' k' c') k' (pairL l')) (hc : k' ≤ c') :
    RSAt w o1 o2 o3 o4 g x0 x1 x2 x3 t ts k' A' c' l' (w1.setCell ⟨g + 1, 4, none⟩ (.slice A' k' c')) := by
  have hfar := h.far
  refine ⟨((h.b1.alloc o).grown hg (fun e => by have := h.row _ e.symm; omega)).setCell _ _ (by simp; omega), ((h.b2.alloc o).grown hg (fun e => by have := h.row _ e.symm; omega)).setCell _ _ (by simp; omega),
    ((h.b3.alloc o).grown hg (fun e => by have := h.row _ e.symm; omega)).setCell _ _ (by simp; omega), ((h.b4.alloc o).grown hg (fun e => by have := h.row _ e.symm; omega)).setCell _ _ (by simp), ?_,
    ownsRow_setCell_below ho (a := ⟨g + 1, 4, none⟩) (by simp) _, hc, hfar, (Below.grown (h.below.alloc h.below.size o) hg (by have := h.below.size; simp; omega) (fun j hj => by have := h.row j hj; omega)).setCell (by simp; omega) _⟩
  have h5 := heap_setCell_same w1 (g + 1) 4 _ t (.slice A' k' c') (h.box1 hg)
  simpa [FiveAt] using h5
theorem RSAt.alloc (h : RSAt w o1 o2 o3 o4 g x0 x1 x2 x3 t ts k A c l W) (o : Obj) : RSAt w o1 o2 o3 o4 g x0 x1 x2 x3 t ts k A c l (W.alloc o) :=
  ⟨h.b1.alloc o, h.b2.alloc o, h.b3.alloc o, h.b4.alloc o, h.b5.alloc o, h.own.alloc o, h.cap, h.far, h.below.alloc h.below.size o⟩
theorem RSAt.next (h : RSAt w o1 o2 o3 o4 g x0 x1 x2 x3 t ts k A c l W) (hg : ((W.alloc o).alloc o').grownBy w1 (Value.slice A k c).ownBlock) {k' : Nat} (ho : w1.ownsRow (g + 2) ts 2 (.slice A' k' c') k' (pairL l')) (hc : k' ≤ c') :
    RSAt w o1 o2 o3 o4 g x0 x1 x2 x3 t ts k' A' c' l' (w1.setCell ⟨g + 1, 4, none⟩ (.slice A' k' c')) := (h.alloc o).next1 hg ho hc
theorem rs_start {W : World} {x4 : Value} (h1 : FiveAt w.heap.size o1 W) (h2 : FiveAt (w.heap.size + 1) o2 W) (h3 : FiveAt (w.heap.size + 2) o3 W) (hb : Below w.heap.size w W) {g : Nat} (hg : W.heap.size = g) (ts : TypeId) :
    RSAt w o1 o2 o3 o4 g x0 x1 x2 x3 t ts 0 none 0 [] ((W.alloc o4).alloc (.cells #[x0, x1, x2, x3, .slice none 0 0] t)) := by
  subst hg
  refine ⟨(h1.alloc _).alloc _, (h2.alloc _).alloc _, (h3.alloc _).alloc _, FiveAt.alloc (heap_alloc_new W o4) _, ?_, World.ownsRow_nil _ _ _ _, Nat.le_refl _, h3.lt, (hb.alloc hb.size _).alloc (by have := hb.size; simp; omega) _⟩
  have := heap_alloc_new (W.alloc o4) (.cells #[x0, x1, x2, x3, .slice none 0 0] t)
  simpa [FiveAt] using this
end

set_option maxHeartbeats 8000000 in
set_option maxRecDepth 100000 in
theorem signLink8_link (L : LinkD) (K : KeyD) (v : Value) (w : World) (hv : RdLink w v L) (hs : L.Small) (hz0 : linkE L ≠ 0) :
    Calls Tryd.prog 8 #[v, K.val] w (SLPost L K w) := by
  have HR := Lib.hid (fun W (hb : Below w.heap.size w W) => linkTextE8_any L v W (hv.below hb) hs)
  have HE := Lib.hid (slE_link (K := K) hz0)
  obtain ⟨z, hz⟩ : ∃ z, linkE L = z := ⟨_, rfl⟩
  rw [hz] at HR HE hz0
  generalize textV z L = tx at *
  obtain ⟨A1, A2, A3, A4, c1, c2, c3, c4, h⟩ := hv
  have hval := h.val
  clear h hz hs
  have hne : (z != 0) = true := by simpa using hz0
  have HX := Lib.hid (three_boxes w (.cells #[.string L.step, .slice A1 L.cmd.length c1, .slice A2 L.mats.length c2, .slice A3 L.prods.length c3, .slice A4 L.sigs.length c4] 26) (.cells #[.string K.name, .string K.secret, .string K.pub] 28) (.cells #[.string ⟨#[]⟩, .slice none 0 0, .slice none 0 0, .slice none 0 0, .slice none 0 0] 26))
  subst hval
  unfold KeyD.val at *
  go_enter Tryd.func8, Tryd.ntmps8
  go_wp2_with fail
  refine (HR.out _ HX.out.2.2.2).mono ?_
  rintro e w1 ⟨rfl, hb⟩
  have HB := Lib.hid (HX.out.2.2.2.trans (hb.mono HX.out.2.2.2.size))
  have HF := Lib.hid (HX.out.2.2.1.keep hb)
  have HF1 := Lib.hid (HX.out.1.keep hb)
  have HF2 := Lib.hid (HX.out.2.1.keep hb)
  clear hb
  obtain ⟨r0, r1, r2, r3, r4⟩ := HF.out.cells
  have f0 := HF.out.frozen 0
  have f1 := HF.out.frozen 1
  have f2 := HF.out.frozen 2
  have f3 := HF.out.frozen 3
  have f4 := HF.out.frozen 4
  go_wp2
  refine bodyPost_ret (v := .tuple #[.agg #[.string ⟨#[]⟩, .slice none 0 0, .slice none 0 0, .slice none 0 0, .slice none 0 0], .int .i64 z]) (by simp [results, Tryd.results8, go_sem]; go_simp) rfl ?_
  refine ⟨_, by rw [HE.out], ?_, ((((HB.out.setCell (by simp <;> omega) _).setCell (by simp <;> omega) _).setCell (by simp <;> omega) _).setCell (by simp <;> omega) _).setCell (by simp <;> omega) _⟩
  rw [slL_no (by rw [HE.out]; exact hz0)]
  exact zero_link _

set_option maxHeartbeats 8000000 in
set_option maxRecDepth 100000 in
theorem signLink8_key (L : LinkD) (K : KeyD) (v : Value) (w : World) (hv : RdLink w v L) (hs : L.Small) (hK : K.Small) (hz1 : linkE L = 0) (hz2 : keyE K (linkS L).size true ≠ 0) :
    Calls Tryd.prog 8 #[v, K.val] w (SLPost L K w) := by
  have HR := Lib.hid (fun W (hb : Below w.heap.size w W) => linkTextE8_any L v W (hv.below hb) hs)
  have HG := Lib.hid (fun W => sign8_any K (linkS L) W hK (by rw [linkS_size]; have := small_text hs; unfold maxLen; omega))
  have HE := Lib.hid (slE_key hz1 hz2)
  rw [hz1, show textV 0 L = linkS L from if_pos rfl] at HR
  obtain ⟨z, hz⟩ : ∃ z, keyE K (linkS L).size true = z := ⟨_, rfl⟩
  rw [hz] at HG HE hz2
  rw [signV_no K _ hz2] at HG
  obtain ⟨A1, A2, A3, A4, c1, c2, c3, c4, h⟩ := hv
  have hval := h.val
  clear h hz hz1 hs hK
  have hne : (z != 0) = true := by simpa using hz2
  have HX := Lib.hid (three_boxes w (.cells #[.string L.step, .slice A1 L.cmd.length c1, .slice A2 L.mats.length c2, .slice A3 L.prods.length c3, .slice A4 L.sigs.length c4] 26) (.cells #[.string K.name, .string K.secret, .string K.pub] 28) (.cells #[.string ⟨#[]⟩, .slice none 0 0, .slice none 0 0, .slice none 0 0, .slice none 0 0] 26))
  subst hval
  unfold KeyD.val at *
  go_enter Tryd.func8, Tryd.ntmps8
  go_wp2_with fail
  refine (HR.out _ HX.out.2.2.2).mono ?_
  rintro e w1 ⟨rfl, hb⟩
  have HB := Lib.hid (HX.out.2.2.2.trans (hb.mono HX.out.2.2.2.size))
  have HF := Lib.hid (HX.out.2.2.1.keep hb)
  have HF1 := Lib.hid (HX.out.1.keep hb)
  have HF2 := Lib.hid (HX.out.2.1.keep hb)
  clear hb
  obtain ⟨k0, k1, k2⟩ := HF2.out.three
  go_wp2_with fail
  refine (HG.out _).mono ?_
  rintro e w2 ⟨rfl, hb⟩
  have HB := Lib.hid (HB.out.trans (hb.mono HB.out.size))
  have HF := Lib.hid (HF.out.keep hb)
  have HF1 := Lib.hid (HF1.out.keep hb)
  have HF2 := Lib.hid (HF2.out.keep hb)
  clear hb k0 k1 k2
  have HF := Lib.hid (HF.out.alloc (.cells #[.string ⟨#[]⟩, .string ⟨#[]⟩] 47))
  have HB := Lib.hid (HB.out.alloc HB.out.size (.cells #[.string ⟨#[]⟩, .string ⟨#[]⟩] 47))
  obtain ⟨r0, r1, r2, r3, r4⟩ := HF.out.cells
  have f0 := HF.out.frozen 0
  have f1 := HF.out.frozen 1
  have f2 := HF.out.frozen 2
  have f3 := HF.out.frozen 3
  have f4 := HF.out.frozen 4
  go_wp2
  refine bodyPost_ret (v := .tuple #[.agg #[.string ⟨#[]⟩, .slice none 0 0, .slice none 0 0, .slice none 0 0, .slice none 0 0], .int .i64 z]) (by simp [results, Tryd.results8, go_sem]; go_simp) rfl ?_
  refine ⟨_, by rw [HE.out], ?_, ((((HB.out.setCell (by simp <;> omega) _).setCell (by simp <;> omega) _).setCell (by simp <;> omega) _).setCell (by simp <;> omega) _).setCell (by simp <;> omega) _⟩
  rw [slL_no (by rw [HE.out]; exact hz2)]
  exact zero_link _

set_option maxHeartbeats 8000000 in
set_option maxRecDepth 100000 in
theorem signLink8_ok (L : LinkD) (K : KeyD) (v : Value) (w : World) (hv : RdLink w v L) (hs : L.Small) (hK : K.Small) (hz1 : linkE L = 0) (hz2 : keyE K (linkS L).size true = 0) :
    Calls Tryd.prog 8 #[v, K.val] w (SLPost L K w) := by
  have HR := Lib.hid (fun W (hb : Below w.heap.size w W) => linkTextE8_any L v W (hv.below hb) hs)
  have HG := Lib.hid (fun W => sign8_any K (linkS L) W hK (by rw [linkS_size]; have := small_text hs; unfold maxLen; omega))
  have HE1 := Lib.hid (fun h3 h4 => slE_full hz1 hz2 h3 h4)
  have HE2 := Lib.hid (fun h3 => slE_ok hz1 hz2 h3)
  rw [hz1, show textV 0 L = linkS L from if_pos rfl] at HR
  rw [hz2, signV_ok] at HG
  have HBIG := Lib.hid ((linkE_ok hz1).2)
  obtain ⟨A1, A2, A3, A4, c1, c2, c3, c4, h⟩ := hv
  have hval := h.val
  have HRS := Lib.hid h.rsigs
  have HR1 := Lib.hid h.rcmd
  have HR2 := Lib.hid h.rmats
  have HR3 := Lib.hid h.rprods
  have HCP := Lib.hid h.caps
  have hn4 : L.sigs.length ≤ 50 := by have := HBIG.out; unfold LinkD.big at this; omega
  clear h hz1 hz2 hs hK
  obtain ⟨i0, hi, hz0, hz1, hz2⟩ := info_parts info_sig
  have HX := Lib.hid (three_boxes w (.cells #[.string L.step, .slice A1 L.cmd.length c1, .slice A2 L.mats.length c2, .slice A3 L.prods.length c3, .slice A4 L.sigs.length c4] 26) (.cells #[.string K.name, .string K.secret, .string K.pub] 28) (.cells #[.string ⟨#[]⟩, .slice none 0 0, .slice none 0 0, .slice none 0 0, .slice none 0 0] 26))
  subst hval
  unfold KeyD.val at *
  go_enter Tryd.func8, Tryd.ntmps8
  go_wp2_with fail
  refine (HR.out _ HX.out.2.2.2).mono ?_
  rintro e w1 ⟨rfl, hb⟩
  have HB := Lib.hid (HX.out.2.2.2.trans (hb.mono HX.out.2.2.2.size))
  have HF := Lib.hid (HX.out.2.2.1.keep hb)
  have HF1 := Lib.hid (HX.out.1.keep hb)
  have HF2 := Lib.hid (HX.out.2.1.keep hb)
  clear hb
  obtain ⟨k0, k1, k2⟩ := HF2.out.three
  go_wp2_with fail
  refine (HG.out _).mono ?_
  rintro e w2 ⟨rfl, hb⟩
  have HB := Lib.hid (HB.out.trans (hb.mono HB.out.size))
  have HF := Lib.hid (HF.out.keep hb)
  have HF1 := Lib.hid (HF1.out.keep hb)
  have HF2 := Lib.hid (HF2.out.keep hb)
  clear hb k0 k1 k2
  have HRS0 := Lib.hid (rs_start (o4 := .cells #[.string K.name, .string (sigS K (linkS L))] 47) (x0 := .string L.step) (x1 := .slice A1 L.cmd.length c1) (x2 := .slice A2 L.mats.length c2) (x3 := .slice A3 L.prods.length c3) (x4 := .slice none 0 0) (t := 26) HF1.out HF2.out HF.out HB.out rfl 47)
  have HFA := Lib.hid (HF1.out.alloc (.cells #[.string K.name, .string (sigS K (linkS L))] 47))
  obtain ⟨q0, q1, q2, q3, q4⟩ := HFA.out.cells
  obtain ⟨s0, s1, s2, s3, s4⟩ := HRS0.out.b1.cells
  generalize hn : L.sigs.length = n at *
  have HN := Lib.hid hn
  clear hn
  have HS4 := Lib.hid s4
  clear s0 s1 s2 s3
  go_wp2_with fail
  go_loopw [10, 37] (fun b i wr => ∃ k : Nat, k ≤ n ∧ i = .int .i64 k ∧ b = .bool ((L.sigs.take k).any (keyIs K.name)) ∧ ∃ A c, Hid (RSAt w (.cells #[.string L.step, .slice A1 L.cmd.length c1, .slice A2 L.mats.length c2, .slice A3 L.prods.length c3, .slice A4 n c4] 26) (.cells #[.string K.name, .string K.secret, .string K.pub] 28) (.cells #[.string ⟨#[]⟩, .slice none 0 0, .slice none 0 0, .slice none 0 0, .slice none 0 0] 26) (.cells #[.string K.name, .string (sigS K (linkS L))] 47) w2.heap.size (.string L.step) (.slice A1 L.cmd.length c1) (.slice A2 L.mats.length c2) (.slice A3 L.prods.length c3) 26 47 k A c (mapSig K.name (K.name, sigS K (linkS L)) (L.sigs.take k)) wr)) (fun _ i _ => n - (intOf i).toNat)
  case atStart => exact ⟨0, by omega, rfl, rfl, none, 0, HRS0⟩
  case round =>
    clear HF1 HF2 HF HB HFA q0 q1 q2 q3 q4 s4 HS4 HRS0
    obtain ⟨k, hk, rfl, rfl, A, c, HA⟩ := hrel
    by_cases hlt : k < n
    · obtain ⟨a, ha⟩ : ∃ a, L.sigs[k]? = some a := ⟨_, List.getElem?_eq_getElem (by rw [HN.out]; exact hlt)⟩
      obtain ⟨ad, hA, hcell, hcell2⟩ := (HRS.out.below HA.out.below) k a ha
      subst hA
      · skip
        obtain ⟨q4, p4⟩ : wr.cell? ⟨w2.heap.size + 1, 4, none⟩ = some (.slice A k c) ∧ wr.frozen? ⟨w2.heap.size + 1, 4, none⟩ = false := ⟨HA.out.b5.cells.2.2.2.2, HA.out.b5.frozen 4⟩
        obtain ⟨k0, _, _⟩ := HA.out.b2.three
        obtain ⟨z0, z1, _, _⟩ := HA.out.b4.two
        have HM := Lib.hid (mapSig_succ (k := K.name) (sg := (K.name, sigS K (linkS L))) ha)
        have HQ := Lib.hid (anySig_succ (k := K.name) ha)
        have hm1 : k + 1 ≤ maxLen := by unfold maxLen; omega
        have hm2 : (k + 1) * 32 ≤ 140737488355328 := by omega
        have HROOM := Lib.hid (HA.out.room)
        have hlt5 := HA.out.b5.lt
        have hlt4 := HA.out.b4.lt
        have hlt2 := HA.out.b2.lt
        clear ha
        cases hky : keyIs K.name a with
        | true =>
          rw [hky] at HM HQ
          have htest : (a.1.toList == K.name.toList) = true := hky
          clear hky
          go_wp2_with (at_builtin; refine wpList_append_own _ rfl _ _ 24 rfl (w2.heap.size + 2) 47 i0 (.agg #[.string ⟨#[]⟩, .string ⟨#[]⟩]) 2 32 Tryd.underlying24 hi hz0 hz1 hz2 rfl (by decide) _ _ _ rfl ((HA.out.own.alloc _).alloc _) ⟨wr.heap.size + 1, 0, none⟩ 1 1 [.string K.name, .string (sigS K (linkS L))] rfl rfl (two_news _ (by simp)) (two_one _ _) hm1 hm2 (HROOM.out _ _) ?_; intro v' w3 hown hgrow hnil; obtain ⟨A', c', rfl, hc'⟩ := own_form hown; have hbx := HA.out.box hgrow; obtain ⟨u4, v4⟩ : w3.cell? ⟨w2.heap.size + 1, 4, none⟩ = some (.slice A k c) ∧ w3.frozen? ⟨w2.heap.size + 1, 4, none⟩ = false := ⟨hbx.cells.2.2.2.2, hbx.frozen 4⟩; have HOWN := Lib.hid hown; have HGR := Lib.hid hgrow; have HC' := Lib.hid hc'; clear hown hgrow hnil hbx hc')
          go_roundw
          case rel => exact ⟨k + 1, by omega, by go_num, by rw [HQ.out]; simp, A', c', by rw [HM.out]; exact Lib.hid (HA.out.next HGR.out (by rw [pairL_append]; exact HOWN.out) HC'.out)⟩
          case measure => simp [intOf]; omega
        | false =>
          rw [hky] at HM HQ
          have htest : (a.1.toList == K.name.toList) = false := hky
          clear hky
          go_wp2_with (at_builtin; refine wpList_append_own _ rfl _ _ 24 rfl (w2.heap.size + 2) 47 i0 (.agg #[.string ⟨#[]⟩, .string ⟨#[]⟩]) 2 32 Tryd.underlying24 hi hz0 hz1 hz2 rfl (by decide) _ _ _ rfl ((HA.out.own.alloc _).alloc _) ⟨wr.heap.size + 1, 0, none⟩ 1 1 [.string a.1, .string a.2] rfl rfl (two_news _ (by simp)) (two_one _ _) hm1 hm2 (HROOM.out _ _) ?_; intro v' w3 hown hgrow hnil; obtain ⟨A', c', rfl, hc'⟩ := own_form hown; have hbx := HA.out.box hgrow; obtain ⟨u4, v4⟩ : w3.cell? ⟨w2.heap.size + 1, 4, none⟩ = some (.slice A k c) ∧ w3.frozen? ⟨w2.heap.size + 1, 4, none⟩ = false := ⟨hbx.cells.2.2.2.2, hbx.frozen 4⟩; have HOWN := Lib.hid hown; have HGR := Lib.hid hgrow; have HC' := Lib.hid hc'; clear hown hgrow hnil hbx hc')
          go_roundw
          case rel => exact ⟨k + 1, by omega, by go_num, by rw [HQ.out]; simp, A', c', by rw [HM.out]; exact Lib.hid (HA.out.next HGR.out (by rw [pairL_append]; exact HOWN.out) HC'.out)⟩
          case measure => simp [intOf]; omega
    · obtain rfl : k = n := by omega
      have ht : L.sigs.take k = L.sigs := List.take_of_length_le (by rw [HN.out]; exact Nat.le_refl _)
      have HA2 := Lib.hid HA.out
      rw [ht] at HA2 ⊢
      clear HA ht
      have hlt3 := HA2.out.b3.lt
      have hlt4 := HA2.out.b4.lt
      have hlt5 := HA2.out.b5.lt
      cases hany : L.sigs.any (keyIs K.name) with
      | true =>
        have HZ := Lib.hid (HE2.out (.inl hany))
        have HP := Lib.hid (putSig_any (K.name, sigS K (linkS L)) hany)
        have HML : Hid (L.sigs.length = k ∧ (mapSig K.name (K.name, sigS K (linkS L)) L.sigs).length = k) := Lib.hid ⟨HN.out, by unfold mapSig; rw [List.length_map]; exact HN.out⟩
        clear hany
        obtain ⟨q0, q1, q2, q3, q4⟩ := HA2.out.b5.cells
        obtain ⟨r0, r1, r2, r3, r4⟩ := HA2.out.b3.cells
        have f0 := HA2.out.b3.frozen 0
        have f1 := HA2.out.b3.frozen 1
        have f2 := HA2.out.b3.frozen 2
        have f3 := HA2.out.b3.frozen 3
        have f4 := HA2.out.b3.frozen 4
        go_wp2
        refine bodyPost_ret (v := .tuple #[.agg #[.string L.step, .slice A1 L.cmd.length c1, .slice A2 L.mats.length c2, .slice A3 L.prods.length c3, .slice A (k) c], .int .i64 0]) (by simp [results, Tryd.results8, go_sem]; go_simp) rfl ?_
        have hlow : w.heap.size + 2 < w2.heap.size + 2 := by have := HA2.out.far; omega
        refine slpost_mk (((((HA2.out.below.setCell (by simp <;> omega) _).setCell (by simp <;> omega) _).setCell (by simp <;> omega) _).setCell (by simp <;> omega) _).setCell (by simp <;> omega) _) HZ.out (fun hbel => ?_)
        rw [slL_ok, HP.out]
        exact ⟨A1, A2, A3, A, c1, c2, c3, c, ⟨by simp [HML.out.1, HML.out.2], HR1.out.below hbel, HR2.out.below hbel, HR3.out.below hbel, own_read (ownsRow_setCell_below (ownsRow_setCell_below (ownsRow_setCell_below (ownsRow_setCell_below (ownsRow_setCell_below (HA2.out.own) hlow _) hlow _) hlow _) hlow _) hlow _) (by simp [HML.out.1, HML.out.2]), HCP.out.1, HCP.out.2.1, HCP.out.2.2.1, (by show (mapSig K.name (K.name, sigS K (linkS L)) L.sigs).length ≤ c; rw [HML.out.2]; exact HA2.out.cap)⟩⟩
      | false =>
        have HP := Lib.hid (putSig_none (K.name, sigS K (linkS L)) hany)
        have HMN := Lib.hid (mapSig_none (K.name, sigS K (linkS L)) hany)
        have HF2 := Lib.hid (HE1.out hany)
        rw [HMN.out] at HA2
        have hm1 : k + 1 ≤ maxLen := by unfold maxLen; omega
        have hm2 : (k + 1) * 32 ≤ 140737488355328 := by omega
        have HROOM := Lib.hid (HA2.out.room1)
        obtain ⟨q4, p4⟩ : wr.cell? ⟨w2.heap.size + 1, 4, none⟩ = some (.slice A k c) ∧ wr.frozen? ⟨w2.heap.size + 1, 4, none⟩ = false := ⟨HA2.out.b5.cells.2.2.2.2, HA2.out.b5.frozen 4⟩
        obtain ⟨z0, z1, _, _⟩ := HA2.out.b4.two
        clear hany
        go_upto_region 19 with (at_builtin; refine wpList_append_own _ rfl _ _ 24 rfl (w2.heap.size + 2) 47 i0 (.agg #[.string ⟨#[]⟩, .string ⟨#[]⟩]) 2 32 Tryd.underlying24 hi hz0 hz1 hz2 rfl (by decide) _ _ _ rfl (HA2.out.own.alloc _) ⟨wr.heap.size, 0, none⟩ 1 1 [.string K.name, .string (sigS K (linkS L))] rfl rfl (two_news _ (by simp)) (two_one _ _) hm1 hm2 (HROOM.out _) ?_; intro v' w3 hown hgrow hnil; obtain ⟨A', c', rfl, hc'⟩ := own_form hown; have hbx := HA2.out.box1 hgrow; obtain ⟨u4, v4⟩ : w3.cell? ⟨w2.heap.size + 1, 4, none⟩ = some (.slice A k c) ∧ w3.frozen? ⟨w2.heap.size + 1, 4, none⟩ = false := ⟨hbx.cells.2.2.2.2, hbx.frozen 4⟩; have HOWN := Lib.hid hown; have HGR := Lib.hid hgrow; have HC' := Lib.hid hc'; clear hown hgrow hnil hbx hc')
        have HA3 := Lib.hid (HA2.out.next1 (l' := L.sigs ++ [(K.name, sigS K (linkS L))]) HGR.out (by rw [pairL_append]; exact HOWN.out) HC'.out)
        have HML : Hid (L.sigs.length = k) := Lib.hid HN.out
        clear q4 p4 z0 z1 u4 v4
        obtain ⟨q0, q1, q2, q3, q4⟩ := HA3.out.b5.cells
        obtain ⟨r0, r1, r2, r3, r4⟩ := HA3.out.b3.cells
        have f0 := HA3.out.b3.frozen 0
        have f1 := HA3.out.b3.frozen 1
        have f2 := HA3.out.b3.frozen 2
        have f3 := HA3.out.b3.frozen 3
        have f4 := HA3.out.b3.frozen 4
        by_cases hful : 50 ≤ k
        · have HZ := Lib.hid (HF2.out hful)
          go_wp2
          refine bodyPost_ret (v := .tuple #[.agg #[.string ⟨#[]⟩, .slice none 0 0, .slice none 0 0, .slice none 0 0, .slice none 0 0], .int .i64 3]) (by simp [results, Tryd.results8, go_sem]; go_simp) rfl ?_
          refine ⟨_, by rw [HZ.out], ?_, ((((HA3.out.below.setCell (by simp <;> omega) _).setCell (by simp <;> omega) _).setCell (by simp <;> omega) _).setCell (by simp <;> omega) _).setCell (by simp <;> omega) _⟩
          rw [slL_no (by rw [HZ.out]; decide)]
          exact zero_link _
        · have HZ := Lib.hid (HE2.out (.inr (by omega)))
          go_wp2
          refine bodyPost_ret (v := .tuple #[.agg #[.string L.step, .slice A1 L.cmd.length c1, .slice A2 L.mats.length c2, .slice A3 L.prods.length c3, .slice A' (k + 1) c'], .int .i64 0]) (by simp [results, Tryd.results8, go_sem]; go_simp) rfl ?_
          have hlow : w.heap.size + 2 < w2.heap.size + 2 := by have := HA3.out.far; omega
          refine slpost_mk (((((HA3.out.below.setCell (by simp <;> omega) _).setCell (by simp <;> omega) _).setCell (by simp <;> omega) _).setCell (by simp <;> omega) _).setCell (by simp <;> omega) _) HZ.out (fun hbel => ?_)
          rw [slL_ok, HP.out]
          exact ⟨A1, A2, A3, A', c1, c2, c3, c', ⟨by simp [HML.out], HR1.out.below hbel, HR2.out.below hbel, HR3.out.below hbel, own_read (ownsRow_setCell_below (ownsRow_setCell_below (ownsRow_setCell_below (ownsRow_setCell_below (ownsRow_setCell_below (HA3.out.own) hlow _) hlow _) hlow _) hlow _) hlow _) (by simp [HML.out]), HCP.out.1, HCP.out.2.1, HCP.out.2.2.1, (by show (L.sigs ++ [(K.name, sigS K (linkS L))]).length ≤ c'; rw [List.length_append, HML.out]; exact HA3.out.cap)⟩⟩
end Go.Proofs.YtnidamdfdlkoiaaDoor.A
