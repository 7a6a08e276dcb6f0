/- SignLink of the program where link and key are right. -/
import Derived.Test.YtnidamdfdlkoiaaDoorD4
import Derived.OneCell
import Derived.Deep.AppendLies
import Derived.Laws.OwnMore
namespace Go.Proofs.YtnidamdfdlkoiaaDoor.A
open Go.RowKit

section
variable {P : Program} {ops : Array Oper} {Q : Exit → Act → World → Prop} {md : Region.Mode} {st : List Nat} {F : World → Prop}
/-- two may come up: a call, and a late store -/
theorem wpAnyL_callstore {i j : Nat} {oi oj : Oper} {fuel : Nat} {listed : Array Bool} {a : Act} {w : World} (hr : Region.ready md ops listed = [i, j]) (hi : ops[i]? = some oi) (hj : ops[j]? = some oj) (hst : j ∈ st) (hlt : j < listed.size)
    (h : ∀ K' : Act → World → Prop, (∀ a w, F w → wpAnyL P md ops Q st F fuel (listed.setIfInBounds i true) a w → K' a w) → if Region.wanted oi (yielded ops a.tmps) = true then Oper.wp P oi a w K' Q else K' (a.put oi.dst undef) w)
    (h2 : ∀ K' : Act → World → Prop, (∀ a w, wpAny P md ops Q fuel (listed.setIfInBounds j true) a w → K' a w) → if Region.wanted oj (yielded ops a.tmps) = true then Oper.wp P oj a w K' Q else K' (a.put oj.dst undef) w) :
    wpAnyL P md ops Q st F (fuel + 1) listed a w := by
  have hup : (listed.setIfInBounds j true).getD j true = true := by
    simp only [Array.getD_eq_getD_getElem?, Array.getElem?_setIfInBounds]
    simp [hlt]
  have hno : ∀ l : Array Bool, l.getD j true = true → NoneUp st l = false := fun l hl => by
    unfold NoneUp
    rw [List.all_eq_false]
    exact ⟨j, hst, by rw [hl]; simp⟩
  refine ⟨fun h0 => (by rw [hr] at h0; cases h0), fun k hk => ?_⟩
  rw [hr] at hk
  rcases List.mem_cons.1 hk with rfl | hk
  · exact wpOp_step hi (fun K' hK' => h K' (fun a w hF hL => hK' a w ⟨fun _ => hF, hL⟩))
  · obtain rfl := List.mem_singleton.1 hk
    exact wpOp_step hj (fun K' hK' => h2 K' (fun a w hL => hK' a w ⟨fun h2 => absurd h2 (by rw [hno _ hup]; simp), wpAnyL_of _ _ _ _ (fun l hl => hno l (hl _ hup)) hL⟩))
theorem wpAnyL_both {i j : Nat} {oi oj : Oper} {fuel : Nat} {listed : Array Bool} {a : Act} {w : World} (hr : Region.ready md ops listed = [i, j]) (hi : ops[i]? = some oi) (hj : ops[j]? = some oj)
    (h : ∀ K' : Act → World → Prop, (∀ a w, F w → wpAnyL P md ops Q st F fuel (listed.setIfInBounds i true) a w → K' a w) → if Region.wanted oi (yielded ops a.tmps) = true then Oper.wp P oi a w K' Q else K' (a.put oi.dst undef) w)
    (h2 : ∀ K' : Act → World → Prop, (∀ a w, F w → wpAnyL P md ops Q st F fuel (listed.setIfInBounds j true) a w → K' a w) → if Region.wanted oj (yielded ops a.tmps) = true then Oper.wp P oj a w K' Q else K' (a.put oj.dst undef) w) :
    wpAnyL P md ops Q st F (fuel + 1) listed a w := by
  refine ⟨fun h0 => (by rw [hr] at h0; cases h0), fun k hk => ?_⟩
  rw [hr] at hk
  rcases List.mem_cons.1 hk with rfl | hk
  · exact wpOp_step hi (fun K' hK' => h K' (fun a w hF hL => hK' a w ⟨fun _ => hF, hL⟩))
  · obtain rfl := List.mem_singleton.1 hk
    exact wpOp_step hj (fun K' hK' => h2 K' (fun a w hF hL => hK' a w ⟨fun _ => hF, hL⟩))
end

section
variable {P : Program} {l : List Oper} {Q : Exit → Act → World → Prop} {md : Region.Mode} {st : List Nat} {F : World → Prop}
theorem getL {i : Nat} {oi : Oper} (h : l[i]? = some oi) : l.toArray[i]? = some oi := by simpa using h
theorem wpAnyL_takeL {i : Nat} {oi : Oper} {v : Value} {fuel : Nat} {listed : Array Bool} {a : Act} {w : World} (hi : l[i]? = some oi)
    (hs : Region.noSelect l.toArray = true) (hf : Region.free md l.toArray listed i = true) (hr : (Region.ready md l.toArray listed).contains i = true) (hw : waits md l.toArray st i = true) (hni : st.contains i = false) (hN : NoneUp st listed = true)
    (hQ : ∀ c a w, Q (.panic c) (a.put oi.dst v) w → Q (.panic c) a w) (hF : F w) (hy : YieldsIf P l.toArray F oi v a)
    (h : wpAnyL P md l.toArray Q st F fuel (listed.setIfInBounds i true) (a.put oi.dst v) w) : wpAnyL P md l.toArray Q st F (fuel + 1) listed a w :=
  wpAnyL_take (getL hi) hs hf hr hw hni hN hQ hF hy h
end
/-- rows of the call's own, from block b on -/
structure RowD where
  e : TypeId
  sz : Nat
  v : Value
  n : Nat
  xs : List Value
def Owns (b : Nat) (l : List RowD) (W : World) : Prop := ∀ r ∈ l, W.ownsRow b r.e r.sz r.v r.n r.xs
section
variable {b g n : Nat} {w W w1 : World} {o p q o1 o2 o3 o4 : Obj} {x y u v x0 x1 x2 x3 x4 y0 y1 y2 : Value} {t t2 : TypeId} {l : List RowD}
theorem own_below {base : Nat} {e : TypeId} {size : Nat} {xs : List Value} (h : W.ownsRow base e size v n xs) (hb : Below W.heap.size W w1) : w1.ownsRow base e size v n xs :=
  h.kept (row := none) ⟨hb.os, hb.tape, hb.output, hb.size, fun i hi _ => hb.block i hi⟩ (by
    cases hv : v.ownBlock with
    | none => exact .inl rfl
    | some k => exact .inr (by simp))
theorem own_mono {base base' : Nat} {e : TypeId} {size : Nat} {xs : List Value} (h : W.ownsRow base e size v n xs) (hb : base' ≤ base) : W.ownsRow base' e size v n xs := by
  refine ⟨h.1, ?_⟩
  rcases h.2 with h' | ⟨g', cap', cur, h', hb', r⟩
  · exact .inl h'
  · exact .inr ⟨g', cap', cur, h', Nat.le_trans hb hb', r⟩
theorem own_form {base : Nat} {e : TypeId} {size : Nat} {xs : List Value} (h : W.ownsRow base e size v n xs) : ∃ A c, v = .slice A n c ∧ n ≤ c := by
  rcases h.2 with ⟨h', h0⟩ | ⟨g', cap', cur, h', hb', hg, hc, r⟩
  · subst h0; exact ⟨none, 0, h', Nat.le_refl _⟩
  · exact ⟨_, _, h', hc⟩
def CloneS2 (w : World) (l : List ByteArray) (e : Ending) (w' : World) : Prop := ∃ A c, e = .returned (.slice A l.length c) ∧ l.length ≤ c ∧ w'.ownsRow w.heap.size 9 1 (.slice A l.length c) l.length (strL l) ∧ Below w.heap.size w w'
def CloneA2 (w : World) (t : TypeId) (l : List (ByteArray × ByteArray)) (e : Ending) (w' : World) : Prop := ∃ A c, e = .returned (.slice A l.length c) ∧ l.length ≤ c ∧ w'.ownsRow w.heap.size t 2 (.slice A l.length c) l.length (pairL l) ∧ Below w.heap.size w w'
theorem CloneS.two {l : List ByteArray} {e : Ending} (h : CloneS w l e W) : CloneS2 w l e W := by
  obtain ⟨v, he, ho, hb⟩ := h
  obtain ⟨A, c, rfl, hc⟩ := own_form ho
  exact ⟨A, c, he, hc, ho, hb⟩
theorem CloneA.two {l : List (ByteArray × ByteArray)} {e : Ending} (h : CloneA w t l e W) : CloneA2 w t l e W := by
  obtain ⟨v, he, ho, hb⟩ := h
  obtain ⟨A, c, rfl, hc⟩ := own_form ho
  exact ⟨A, c, he, hc, ho, hb⟩
theorem Owns.nil (b : Nat) (W : World) : Owns b [] W := fun r hr => by cases hr
theorem Owns.keep (h : Owns b l W) (hb : Below W.heap.size W w1) : Owns b l w1 := fun r hr => own_below (h r hr) hb
theorem Owns.set (h : Owns b l W) (k : Nat) (hk : k < b) (j : Nat) (u : Value) : Owns b l (W.setCell ⟨k, j, none⟩ u) := fun r hr => ownsRow_setCell_below (h r hr) (a := ⟨k, j, none⟩) hk u
theorem Owns.add {e : TypeId} {sz : Nat} {xs : List Value} (h : Owns b l W) (h2 : W.ownsRow b e sz v n xs) : Owns b (l ++ [⟨e, sz, v, n, xs⟩]) W := fun r hr => by
  rcases List.mem_append.1 hr with hr | hr
  · exact h r hr
  · obtain rfl := List.mem_singleton.1 hr
    exact h2
theorem Owns.lt (h : Owns b l W) : ∀ r ∈ l, ∀ k, r.v.ownBlock = some k → k < W.heap.size := fun r hr k hk => ((h r hr).lt k hk).2
theorem SLAt.low (h : SLAt w o1 o2 o3 g o4 W) : w.heap.size + 3 ≤ W.heap.size := h.b3.lt
theorem SLAt.f5 (h : SLAt w (.cells #[x0, x1, x2, x3, x4] t) o2 o3 g o4 W) (j : Nat) (u : Value) : SLAt w (.cells (#[x0, x1, x2, x3, x4].setIfInBounds j u) t) o2 o3 g o4 (W.setCell ⟨w.heap.size, j, none⟩ u) :=
  ⟨heap_setCell_same W w.heap.size j _ t u h.b1, h.b2.setCell _ _ (by simp), h.b3.setCell _ _ (by simp), h.b4.setCell _ _ (by have := h.far; simp; omega), h.far, h.below.setCell (by simp) _⟩
theorem slF (h : SLAt w (.cells #[x0, x1, x2, x3, x4] t) o2 o3 g o4 W) : W.cell? ⟨w.heap.size, 1, none⟩ = some x1 ∧ W.cell? ⟨w.heap.size, 2, none⟩ = some x2 ∧ W.cell? ⟨w.heap.size, 3, none⟩ = some x3 ∧ W.cell? ⟨w.heap.size, 4, none⟩ = some x4 := h.b1.cells.2
theorem slC1 (h : SLAt w (.cells #[x0, x1, x2, x3, x4] t) o2 o3 g o4 W) : W.cell? ⟨w.heap.size, 1, none⟩ = some x1 ∧ W.frozen? ⟨w.heap.size, 1, none⟩ = false := ⟨h.b1.cells.2.1, h.b1.frozen 1⟩
theorem slC2 (h : SLAt w (.cells #[x0, x1, x2, x3, x4] t) o2 o3 g o4 W) : W.cell? ⟨w.heap.size, 2, none⟩ = some x2 ∧ W.frozen? ⟨w.heap.size, 2, none⟩ = false := ⟨h.b1.cells.2.2.1, h.b1.frozen 2⟩
theorem slC3 (h : SLAt w (.cells #[x0, x1, x2, x3, x4] t) o2 o3 g o4 W) : W.cell? ⟨w.heap.size, 3, none⟩ = some x3 ∧ W.frozen? ⟨w.heap.size, 3, none⟩ = false := ⟨h.b1.cells.2.2.2.1, h.b1.frozen 3⟩
theorem slC4 (h : SLAt w (.cells #[x0, x1, x2, x3, x4] t) o2 o3 g o4 W) : W.cell? ⟨w.heap.size, 4, none⟩ = some x4 ∧ W.frozen? ⟨w.heap.size, 4, none⟩ = false := ⟨h.b1.cells.2.2.2.2, h.b1.frozen 4⟩
theorem slP1 (h : SLAt w (.cells #[x0, x1, x2, x3, x4] t) o2 o3 g o4 W) (u : Value) : SLAt w (.cells #[x0, u, x2, x3, x4] t) o2 o3 g o4 (W.setCell ⟨w.heap.size, 1, none⟩ u) := by simpa using h.f5 1 u
theorem slP2 (h : SLAt w (.cells #[x0, x1, x2, x3, x4] t) o2 o3 g o4 W) (u : Value) : SLAt w (.cells #[x0, x1, u, x3, x4] t) o2 o3 g o4 (W.setCell ⟨w.heap.size, 2, none⟩ u) := by simpa using h.f5 2 u
theorem slP3 (h : SLAt w (.cells #[x0, x1, x2, x3, x4] t) o2 o3 g o4 W) (u : Value) : SLAt w (.cells #[x0, x1, x2, u, x4] t) o2 o3 g o4 (W.setCell ⟨w.heap.size, 3, none⟩ u) := by simpa using h.f5 3 u
theorem slP4 (h : SLAt w (.cells #[x0, x1, x2, x3, x4] t) o2 o3 g o4 W) (u : Value) : SLAt w (.cells #[x0, x1, x2, x3, u] t) o2 o3 g o4 (W.setCell ⟨w.heap.size, 4, none⟩ u) := by simpa using h.f5 4 u
theorem FiveAt.swap (h : FiveAt g q (W.alloc o)) (hlt : g < W.heap.size) (p : Obj) : FiveAt g q (W.alloc p) := (heap_alloc_old W p hlt).trans ((heap_alloc_old W o hlt).symm.trans h)
theorem below_swap (h : Below n w (W.alloc o)) (hn : n ≤ W.heap.size) (p : Obj) : Below n w (W.alloc p) :=
  ⟨h.os, h.tape, h.output, by have := h.size; simpa using this, fun k hk => by rw [heap_alloc_old W p (by omega), ← heap_alloc_old W o (by omega)]; exact h.block k hk⟩
theorem own_read {base : Nat} {e : TypeId} {A : Option Addr} {c : Nat} {l : List (ByteArray × ByteArray)} (h : W.ownsRow base e 2 (.slice A n c) n (pairL l)) (hn : n = l.length) : RdA W A l := by
  obtain ⟨A', c', he, hr, _⟩ := own_rdA h hn
  injection he with h1
  rw [h1]; exact hr
theorem own_readS {base : Nat} {e : TypeId} {A : Option Addr} {c : Nat} {l : List ByteArray} (h : W.ownsRow base e 1 (.slice A n c) n (strL l)) (hn : n = l.length) : RdS W A l := by
  obtain ⟨A', c', he, hr, _⟩ := own_rdS h hn
  injection he with h1
  rw [h1]; exact hr
theorem FiveAt.grown {row : Option Nat} (h : FiveAt g q W) (hg : W.grownBy w1 row) (hne : some g ≠ row) : FiveAt g q w1 := (hg.block g h.lt hne).trans h
theorem own_other {base : Nat} {e : TypeId} {size : Nat} {xs : List Value} (h : W.ownsRow base e size v n xs) {row : Option Nat} (hg : W.grownBy w1 row) (hne : ∀ k, v.ownBlock = some k → row ≠ some k) : w1.ownsRow base e size v n xs :=
  h.kept hg (by
    cases hv : v.ownBlock with
    | none => exact .inl rfl
    | some k => exact .inr (fun e => hne k hv e.symm))
theorem Owns.other {row : Option Nat} {B : Nat} (h : Owns b l W) (hg : W.grownBy w1 row) (hl : ∀ r ∈ l, ∀ k, r.v.ownBlock = some k → k < B) (hr : ∀ k, row = some k → B ≤ k) : Owns b l w1 := fun r hr2 =>
  own_other (h r hr2) hg (fun k hk e => by have := hl r hr2 k hk; have := hr k e; omega)
theorem pairL_set {l : List (ByteArray × ByteArray)} : ∀ {i : Nat} (a : ByteArray × ByteArray), pairL (l.set i a) = ((pairL l).set (i * 2) (.string a.1)).set (i * 2 + 1) (.string a.2) := by
  induction l with
  | nil => intro i a; rfl
  | cons x r ih =>
    intro i a
    cases i with
    | zero => rfl
    | succ i =>
      have e1 : (i + 1) * 2 = i * 2 + 1 + 1 := by omega
      rw [List.set_cons_succ, e1]
      show Value.string x.1 :: Value.string x.2 :: pairL (r.set i a) = _
      rw [ih a]
      rfl
/-- the link that is returned reads so -/
theorem sl_final {B : Nat} {ts : TypeId} {st : ByteArray} {cmd : List ByteArray} {mats prods sg : List (ByteArray × ByteArray)} {B1 B2 B3 B4 : Option Addr} {d1 d2 d3 d4 m : Nat} (hO : Owns b [⟨9, 1, .slice B1 cmd.length d1, cmd.length, strL cmd⟩, ⟨t, 2, .slice B2 mats.length d2, mats.length, pairL mats⟩, ⟨t, 2, .slice B3 prods.length d3, prods.length, pairL prods⟩] W)
    (h4 : W.ownsRow B ts 2 (.slice B4 m d4) m (pairL sg)) (hm : m = sg.length) (hc : cmd.length ≤ d1 ∧ mats.length ≤ d2 ∧ prods.length ≤ d3 ∧ m ≤ d4) :
    RdLink W (.agg #[.string st, .slice B1 cmd.length d1, .slice B2 mats.length d2, .slice B3 prods.length d3, .slice B4 m d4]) ⟨st, cmd, mats, prods, sg⟩ :=
  ⟨B1, B2, B3, B4, d1, d2, d3, d4, ⟨by rw [hm], own_readS (hO ⟨9, 1, .slice B1 cmd.length d1, cmd.length, strL cmd⟩ (by simp)) rfl, own_read (hO ⟨t, 2, .slice B2 mats.length d2, mats.length, pairL mats⟩ (by simp)) rfl, own_read (hO ⟨t, 2, .slice B3 prods.length d3, prods.length, pairL prods⟩ (by simp)) rfl, own_read h4 hm, by rw [← hm]; exact hc⟩⟩
theorem SLAt.drew (h : SLAt w o1 o2 o3 g o4 W) : SLAt w o1 o2 o3 g o4 W.drew := ⟨h.b1, h.b2, h.b3, h.b4, h.far, h.below.drew⟩
end
set_option maxHeartbeats 1000000 in
set_option maxRecDepth 100000 in
theorem closSign (x : ByteArray × ByteArray) (k s p : ByteArray) (b : Nat) (t : TypeId) (w : World) (hc : FiveAt b (.cells #[.string k, .string s, .string p] t) w) :
    Calls Tryd.prog 24 #[sigV x, .pointer (some ⟨b, 0, none⟩)] w fun e w' => e = .returned (.bool (keyIs k x)) ∧ Below w.heap.size w w' := by
  have hlt := hc.lt
  obtain ⟨k0, k1, k2⟩ := hc.three
  clear hc
  go_enter Tryd.func24, Tryd.ntmps24
  unfold sigV
  go_wp2
  go_ret
  exact ⟨rfl, (Below.refl _ _).alloc (Nat.le_refl _) _⟩
attribute [local go_sem ↓] Go.wp_at_zero Go.wp_at_succ

set_option maxHeartbeats 8000000 in
set_option maxRecDepth 100000 in
theorem signLink_ok (L : LinkD) (K : KeyD) (v : Value) (w : World) (hv : RdLink w v L) (hs : L.Small) (hK : K.Small) (hT : Tab w) (hz1 : linkE L = 0) (hz2 : keyE K (linkS L).size true = 0) :
    Calls Tryd.prog 7 #[v, K.val] w (SLPost L K w) := by
  have HR := Lib.hid (fun W (hb : Below w.heap.size w W) => checkLink_any L v W (hv.below hb) hs)
  have HT := Lib.hid (fun W (hb : Below w.heap.size w W) => linkText_any L v W (hv.below hb) hs (by have := small_text hs; omega))
  have HG := Lib.hid (fun W (hb : Below w.heap.size w W) => sign_any K (linkS L) W hK (by rw [linkS_size]; have := small_text hs; unfold maxLen; omega) (hT.below hb))
  have HE1 := Lib.hid (fun h3 h4 => slE_full hz1 hz2 h3 h4)
  have HE2 := Lib.hid (fun h3 => slE_ok hz1 hz2 h3)
  rw [hz1] at HR
  rw [hz2, signV_ok] at HG
  obtain ⟨A1, A2, A3, A4, c1, c2, c3, c4, h⟩ := hv
  have hval := h.val
  obtain ⟨l1, l2, l3, l4⟩ := hs.lens
  have HC1 := Lib.hid (fun W (hb : Below w.heap.size w W) => (cloneS A1 c1 L.cmd W l1 (h.rcmd.below hb)).mono fun _ _ hh => CloneS.two hh)
  have HC2 := Lib.hid (fun W (hb : Below w.heap.size w W) => (cloneArt A2 c2 L.mats W l2 (h.rmats.below hb)).mono fun _ _ hh => CloneA.two hh)
  have HC3 := Lib.hid (fun W (hb : Below w.heap.size w W) => (cloneArt A3 c3 L.prods W l3 (h.rprods.below hb)).mono fun _ _ hh => CloneA.two hh)
  have HC4 := Lib.hid (fun W (hb : Below w.heap.size w W) => (cloneSig A4 c4 L.sigs W l4 (h.rsigs.below hb)).mono fun _ _ hh => CloneA.two hh)
  have HSG := Lib.hid (linkE_ok hz1)
  clear h hz1 hz2 hs hK hT
  have HX := Lib.hid (three_boxes w (.cells #[.string L.step, .slice A1 L.cmd.length c1, .slice A2 L.mats.length c2, .slice A3 L.prods.length c3, .slice A4 L.sigs.length c4] 26) (.cells #[.string K.name, .string K.secret, .string K.pub] 28) (.cells #[.string ⟨#[]⟩, .slice none 0 0, .slice none 0 0, .slice none 0 0, .slice none 0 0] 26))
  subst hval
  unfold KeyD.val at *
  go_enter Tryd.func7, Tryd.ntmps7
  go_wp2_with fail
  refine (HR.out _ HX.out.2.2.2).mono ?_
  rintro e w1 ⟨rfl, hb⟩
  have hk := Lib.hid (slS (HX.out.1.keep hb).drew (HX.out.2.1.keep hb).drew (HX.out.2.2.1.keep hb).drew (HX.out.2.2.2.trans (hb.mono HX.out.2.2.2.size)).drew)
  have hlt0 : w.heap.size + 2 < w1.heap.size := (HX.out.2.2.1.keep hb).lt
  clear hb
  go_upto_region 4 with fail
  go_cut [7, 8] (fun s7 s8 wx => ∃ g : Nat, s7 = .pointer (some ⟨g, 0, none⟩) ∧ s8 = .int .i64 0 ∧ Hid (SLAt w (.cells #[.string L.step, .slice A1 L.cmd.length c1, .slice A2 L.mats.length c2, .slice A3 L.prods.length c3, .slice A4 L.sigs.length c4] 26) (.cells #[.string K.name, .string K.secret, .string K.pub] 28) (.cells #[.string ⟨#[]⟩, .slice none 0 0, .slice none 0 0, .slice none 0 0, .slice none 0 0] 26) g (.cells #[.string K.name, .string (sigS K (linkS L))] 47) wx))
  case first =>
    first | go_region_held3 (fun w' => (w'.cell? ⟨w.heap.size, 0, none⟩ = some (.string L.step) ∧ w'.cell? ⟨w.heap.size, 1, none⟩ = some (.slice A1 L.cmd.length c1) ∧ w'.cell? ⟨w.heap.size, 2, none⟩ = some (.slice A2 L.mats.length c2) ∧ w'.cell? ⟨w.heap.size, 3, none⟩ = some (.slice A3 L.prods.length c3) ∧ w'.cell? ⟨w.heap.size, 4, none⟩ = some (.slice A4 L.sigs.length c4)) ∧
        (w'.cell? ⟨w.heap.size + 1, 0, none⟩ = some (.string K.name) ∧ w'.cell? ⟨w.heap.size + 1, 1, none⟩ = some (.string K.secret) ∧ w'.cell? ⟨w.heap.size + 1, 2, none⟩ = some (.string K.pub)) ∧
        FiveAt w.heap.size (.cells #[.string L.step, .slice A1 L.cmd.length c1, .slice A2 L.mats.length c2, .slice A3 L.prods.length c3, .slice A4 L.sigs.length c4] 26) w' ∧ FiveAt (w.heap.size + 1) (.cells #[.string K.name, .string K.secret, .string K.pub] 28) w' ∧ FiveAt (w.heap.size + 2) (.cells #[.string ⟨#[]⟩, .slice none 0 0, .slice none 0 0, .slice none 0 0, .slice none 0 0] 26) w' ∧ Below w.heap.size w w')
      (first
        | exact hk.out
        | (go_split_ands; exact slS (FiveAt.keep (by assumption) hb) (FiveAt.keep (by assumption) hb) (FiveAt.keep (by assumption) hb) (Below.trans (by assumption) (hb.mono (Below.size (by assumption)))))
        | (go_split_ands; exact slS (FiveAt.alloc (by assumption) _) (FiveAt.alloc (by assumption) _) (FiveAt.alloc (by assumption) _) (Below.alloc (by assumption) (Below.size (by assumption)) _))
        | (go_split_ands; exact slS_set (by assumption) (by assumption) (by assumption) (by assumption) (by assumption) rfl)
        | (go_split_ands; exact slS (by assumption) (by assumption) (by assumption) (by assumption))
        | (go_split_ands; exact slS (FiveAt.swap (by assumption) (by omega) _) (FiveAt.swap (by assumption) (by omega) _) (FiveAt.swap (by assumption) (by omega) _) (below_swap (by assumption) (by omega) _)))
      (first
        | (go_at_call 17; go_split_ands; refine (HT.out _ (by assumption)).mono ?_; rintro e w1 ⟨rfl, hb⟩; (first | (have hlt1 := lt_keep hb hlt0) | skip); first | (have hbk := box_keep hb) | (have hbk := box_keep2 hb) | skip)
        | (go_at_call 19; go_split_ands; refine (HG.out _ (by assumption)).mono ?_; rintro e w2 ⟨rfl, hb⟩; (first | (have hlt2 := lt_keep hb hlt1) | skip); first | (have hbk := FiveAt.keep hbk hb; obtain ⟨k0, k1, f0, f1⟩ := hbk.two) | (have hbk := box_keep hb; obtain ⟨k0, k1, f0, f1⟩ := hbk.two) | skip)) | fail
    all_goals
      go_wp2_with fail
      go_meet
      go_split_ands
      first
        | exact ⟨_, rfl, rfl, Lib.hid ⟨by assumption, by assumption, by assumption, hbk.two_set _ _, by assumption, by assumption⟩⟩
        | exact ⟨_, rfl, rfl, Lib.hid ⟨by assumption, by assumption, by assumption, heap_alloc_new _ _, by assumption, by assumption⟩⟩
  case rest =>
    obtain ⟨g, rfl, rfl, HC⟩ := hcut
    go_upto_region 7 with fail
    go_cut [] (fun wx => ∃ B1 d1 B2 d2 B3 d3 B4 d4 B, Hid (L.cmd.length ≤ d1 ∧ L.mats.length ≤ d2 ∧ L.prods.length ≤ d3 ∧ L.sigs.length ≤ d4) ∧ Hid (SLAt w (.cells #[.string L.step, .slice B1 L.cmd.length d1, .slice B2 L.mats.length d2, .slice B3 L.prods.length d3, .slice B4 L.sigs.length d4] 26) (.cells #[.string K.name, .string K.secret, .string K.pub] 28) (.cells #[.string ⟨#[]⟩, .slice none 0 0, .slice none 0 0, .slice none 0 0, .slice none 0 0] 26) g (.cells #[.string K.name, .string (sigS K (linkS L))] 47) wx) ∧
        Hid (Owns (w.heap.size + 3) [⟨9, 1, .slice B1 L.cmd.length d1, L.cmd.length, strL L.cmd⟩, ⟨53, 2, .slice B2 L.mats.length d2, L.mats.length, pairL L.mats⟩, ⟨53, 2, .slice B3 L.prods.length d3, L.prods.length, pairL L.prods⟩] wx) ∧
        Hid (wx.ownsRow B 47 2 (.slice B4 L.sigs.length d4) L.sigs.length (pairL L.sigs)) ∧ Hid (w.heap.size + 3 ≤ B) ∧ Hid (B ≤ wx.heap.size) ∧ Hid (∀ r ∈ [(⟨9, 1, .slice B1 L.cmd.length d1, L.cmd.length, strL L.cmd⟩ : RowD), ⟨53, 2, .slice B2 L.mats.length d2, L.mats.length, pairL L.mats⟩, ⟨53, 2, .slice B3 L.prods.length d3, L.prods.length, pairL L.prods⟩], ∀ k, r.v.ownBlock = some k → k < B))
    case first =>
      have HS := Lib.hid HC.out.drew
      have HO := Lib.hid (Owns.nil (w.heap.size + 3) wc.drew)
      refine wp_region_L [13, 15, 17, 19] (fun W => W.cell? ⟨w.heap.size, 1, none⟩ = some (.slice A1 L.cmd.length c1) ∧ W.cell? ⟨w.heap.size, 2, none⟩ = some (.slice A2 L.mats.length c2) ∧ W.cell? ⟨w.heap.size, 3, none⟩ = some (.slice A3 L.prods.length c3) ∧ W.cell? ⟨w.heap.size, 4, none⟩ = some (.slice A4 L.sigs.length c4)) (by kernel_rfl) ?_
      refine wpAnyL_takeL (i := 0) (v := ?_) rfl (by kernel_rfl) (by kernel_rfl) (by kernel_rfl) (by kernel_rfl) (by kernel_rfl) (by kernel_rfl) (fun _ _ _ h => h) (slF HS.out) (Or.inl ⟨by rfl, ?_⟩) ?_
      rotate_left
      · intro W hSw; (try dsimp only at hSw); go_split_ands; go_simp; try with_reducible rfl
      simp only [Act.put, List.setIfInBounds_toArray, List.set_cons_zero, List.set_cons_succ]
      refine wpAnyL_takeL (i := 1) (v := ?_) rfl (by kernel_rfl) (by kernel_rfl) (by kernel_rfl) (by kernel_rfl) (by kernel_rfl) (by kernel_rfl) (fun _ _ _ h => h) (slF HS.out) (Or.inl ⟨by rfl, ?_⟩) ?_
      rotate_left
      · intro W hSw; (try dsimp only at hSw); go_split_ands; go_simp; try with_reducible rfl
      simp only [Act.put, List.setIfInBounds_toArray, List.set_cons_zero, List.set_cons_succ]
      refine wpAnyL_takeL (i := 3) (v := ?_) rfl (by kernel_rfl) (by kernel_rfl) (by kernel_rfl) (by kernel_rfl) (by kernel_rfl) (by kernel_rfl) (fun _ _ _ h => h) (slF HS.out) (Or.inl ⟨by rfl, ?_⟩) ?_
      rotate_left
      · intro W hSw; (try dsimp only at hSw); go_split_ands; go_simp; try with_reducible rfl
      simp only [Act.put, List.setIfInBounds_toArray, List.set_cons_zero, List.set_cons_succ]
      refine wpAnyL_takeL (i := 4) (v := ?_) rfl (by kernel_rfl) (by kernel_rfl) (by kernel_rfl) (by kernel_rfl) (by kernel_rfl) (by kernel_rfl) (fun _ _ _ h => h) (slF HS.out) (Or.inl ⟨by rfl, ?_⟩) ?_
      rotate_left
      · intro W hSw; (try dsimp only at hSw); go_split_ands; go_simp; try with_reducible rfl
      simp only [Act.put, List.setIfInBounds_toArray, List.set_cons_zero, List.set_cons_succ]
      refine wpAnyL_takeL (i := 6) (v := ?_) rfl (by kernel_rfl) (by kernel_rfl) (by kernel_rfl) (by kernel_rfl) (by kernel_rfl) (by kernel_rfl) (fun _ _ _ h => h) (slF HS.out) (Or.inl ⟨by rfl, ?_⟩) ?_
      rotate_left
      · intro W hSw; (try dsimp only at hSw); go_split_ands; go_simp; try with_reducible rfl
      simp only [Act.put, List.setIfInBounds_toArray, List.set_cons_zero, List.set_cons_succ]
      refine wpAnyL_takeL (i := 7) (v := ?_) rfl (by kernel_rfl) (by kernel_rfl) (by kernel_rfl) (by kernel_rfl) (by kernel_rfl) (by kernel_rfl) (fun _ _ _ h => h) (slF HS.out) (Or.inl ⟨by rfl, ?_⟩) ?_
      rotate_left
      · intro W hSw; (try dsimp only at hSw); go_split_ands; go_simp; try with_reducible rfl
      simp only [Act.put, List.setIfInBounds_toArray, List.set_cons_zero, List.set_cons_succ]
      refine wpAnyL_takeL (i := 9) (v := ?_) rfl (by kernel_rfl) (by kernel_rfl) (by kernel_rfl) (by kernel_rfl) (by kernel_rfl) (by kernel_rfl) (fun _ _ _ h => h) (slF HS.out) (Or.inl ⟨by rfl, ?_⟩) ?_
      rotate_left
      · intro W hSw; (try dsimp only at hSw); go_split_ands; go_simp; try with_reducible rfl
      simp only [Act.put, List.setIfInBounds_toArray, List.set_cons_zero, List.set_cons_succ]
      refine wpAnyL_takeL (i := 10) (v := ?_) rfl (by kernel_rfl) (by kernel_rfl) (by kernel_rfl) (by kernel_rfl) (by kernel_rfl) (by kernel_rfl) (fun _ _ _ h => h) (slF HS.out) (Or.inl ⟨by rfl, ?_⟩) ?_
      rotate_left
      · intro W hSw; (try dsimp only at hSw); go_split_ands; go_simp; try with_reducible rfl
      simp only [Act.put, List.setIfInBounds_toArray, List.set_cons_zero, List.set_cons_succ]
      refine wpAnyL_one (i := 2) (by kernel_rfl) (getL rfl) ?_
      intro KK hK
      have HKK := Lib.hid hK
      clear hK
      rw [if_pos (by rfl)]
      go_simp
      go_at_call 20
      refine (HC1.out _ HS.out.below).mono ?_
      rintro e w4 ⟨B1, d1, rfl, hc, ho, hb⟩
      have P1 := Lib.hid hc
      have HO := Lib.hid ((HO.out.keep hb).add (own_mono ho (HS.out.low)))
      have HS := Lib.hid (HS.out.keep hb)
      clear ho hb hc
      refine HKK.out _ _ (slF HS.out) ?_
      clear HKK KK
      try simp only [Act.put, List.setIfInBounds_toArray, List.set_cons_zero, List.set_cons_succ]
      refine wpAnyL_takeL (i := 12) (v := ?_) rfl (by kernel_rfl) (by kernel_rfl) (by kernel_rfl) (by kernel_rfl) (by kernel_rfl) (by kernel_rfl) (fun _ _ _ h => h) (slF HS.out) (Or.inl ⟨by rfl, ?_⟩) ?_
      rotate_left
      · intro W hSw; (try dsimp only at hSw); go_split_ands; go_simp; try with_reducible rfl
      simp only [Act.put, List.setIfInBounds_toArray, List.set_cons_zero, List.set_cons_succ]
      refine wpAnyL_one (i := 5) (by kernel_rfl) (getL rfl) ?_
      intro KK hK
      have HKK := Lib.hid hK
      clear hK
      rw [if_pos (by rfl)]
      go_simp
      go_at_call 21
      refine (HC2.out _ HS.out.below).mono ?_
      rintro e w5 ⟨B2, d2, rfl, hc, ho, hb⟩
      have P2 := Lib.hid hc
      have HO := Lib.hid ((HO.out.keep hb).add (own_mono ho (HS.out.low)))
      have HS := Lib.hid (HS.out.keep hb)
      clear ho hb hc
      refine HKK.out _ _ (slF HS.out) ?_
      clear HKK KK
      try simp only [Act.put, List.setIfInBounds_toArray, List.set_cons_zero, List.set_cons_succ]
      refine wpAnyL_one (i := 8) (by kernel_rfl) (getL rfl) ?_
      intro KK hK
      have HKK := Lib.hid hK
      clear hK
      rw [if_pos (by rfl)]
      go_simp
      go_at_call 21
      refine (HC3.out _ HS.out.below).mono ?_
      rintro e w6 ⟨B3, d3, rfl, hc, ho, hb⟩
      have P3 := Lib.hid hc
      have HO := Lib.hid ((HO.out.keep hb).add (own_mono ho (HS.out.low)))
      have HS := Lib.hid (HS.out.keep hb)
      clear ho hb hc
      refine HKK.out _ _ (slF HS.out) ?_
      clear HKK KK
      try simp only [Act.put, List.setIfInBounds_toArray, List.set_cons_zero, List.set_cons_succ]
      refine wpAnyL_one (i := 11) (by kernel_rfl) (getL rfl) ?_
      intro KK hK
      have HKK := Lib.hid hK
      clear hK
      rw [if_pos (by rfl)]
      go_simp
      go_at_call 22
      refine (HC4.out _ HS.out.below).mono ?_
      rintro e w7 ⟨B4, d4, rfl, hc, ho, hb⟩
      have P4 := Lib.hid hc
      have HL := Lib.hid (HO.out.lt)
      have H4 := Lib.hid ho
      have HB4 := Lib.hid HS.out.low
      have HB5 := Lib.hid hb.size
      have HO := Lib.hid (HO.out.keep hb)
      have HS := Lib.hid (HS.out.keep hb)
      clear ho hb hc
      refine HKK.out _ _ (slF HS.out) ?_
      clear HKK KK
      try simp only [Act.put, List.setIfInBounds_toArray, List.set_cons_zero, List.set_cons_succ]
      refine wpAnyL_rest (i := 13) (by kernel_rfl) (getL rfl) (by decide) (by decide) ?_
      intro KK hK
      have HKK := Lib.hid hK
      clear hK
      rw [if_pos (by rfl)]
      obtain ⟨r1, f1⟩ := slC1 HS.out
      go_simp
      have HS := Lib.hid (slP1 HS.out (.slice B1 L.cmd.length d1))
      have HO := Lib.hid (HO.out.set (w.heap.size) (by omega) 1 (.slice B1 L.cmd.length d1))
      have H4 := Lib.hid (ownsRow_setCell_below H4.out (a := ⟨w.heap.size, 1, none⟩) (Nat.lt_of_lt_of_le (show w.heap.size < w.heap.size + 3 by omega) HB4.out) (.slice B1 L.cmd.length d1))
      clear r1 f1
      refine HKK.out _ _ (wpAny_of_L (st := []) (F := fun _ => True) _ _ _ _ ?_)
      clear HKK KK
      try simp only [Act.put, List.setIfInBounds_toArray, List.set_cons_zero, List.set_cons_succ]
      refine wpAnyL_takeL (i := 14) (v := ?_) rfl (by kernel_rfl) (by kernel_rfl) (by kernel_rfl) (by kernel_rfl) (by kernel_rfl) (by kernel_rfl) (fun _ _ _ h => h) trivial (Or.inl ⟨by rfl, ?_⟩) ?_
      rotate_left
      · intro W hSw; (try dsimp only at hSw); go_split_ands; go_simp; try with_reducible rfl
      simp only [Act.put, List.setIfInBounds_toArray, List.set_cons_zero, List.set_cons_succ]
      refine wpAnyL_one (i := 15) (by kernel_rfl) (getL rfl) ?_
      intro KK hK
      have HKK := Lib.hid hK
      clear hK
      rw [if_pos (by rfl)]
      obtain ⟨r2, f2⟩ := slC2 HS.out
      go_simp
      have HS := Lib.hid (slP2 HS.out (.slice B2 L.mats.length d2))
      have HO := Lib.hid (HO.out.set (w.heap.size) (by omega) 2 (.slice B2 L.mats.length d2))
      have H4 := Lib.hid (ownsRow_setCell_below H4.out (a := ⟨w.heap.size, 2, none⟩) (Nat.lt_of_lt_of_le (show w.heap.size < w.heap.size + 3 by omega) HB4.out) (.slice B2 L.mats.length d2))
      clear r2 f2
      refine HKK.out _ _ trivial ?_
      clear HKK KK
      try simp only [Act.put, List.setIfInBounds_toArray, List.set_cons_zero, List.set_cons_succ]
      refine wpAnyL_takeL (i := 16) (v := ?_) rfl (by kernel_rfl) (by kernel_rfl) (by kernel_rfl) (by kernel_rfl) (by kernel_rfl) (by kernel_rfl) (fun _ _ _ h => h) trivial (Or.inl ⟨by rfl, ?_⟩) ?_
      rotate_left
      · intro W hSw; (try dsimp only at hSw); go_split_ands; go_simp; try with_reducible rfl
      simp only [Act.put, List.setIfInBounds_toArray, List.set_cons_zero, List.set_cons_succ]
      refine wpAnyL_one (i := 17) (by kernel_rfl) (getL rfl) ?_
      intro KK hK
      have HKK := Lib.hid hK
      clear hK
      rw [if_pos (by rfl)]
      obtain ⟨r3, f3⟩ := slC3 HS.out
      go_simp
      have HS := Lib.hid (slP3 HS.out (.slice B3 L.prods.length d3))
      have HO := Lib.hid (HO.out.set (w.heap.size) (by omega) 3 (.slice B3 L.prods.length d3))
      have H4 := Lib.hid (ownsRow_setCell_below H4.out (a := ⟨w.heap.size, 3, none⟩) (Nat.lt_of_lt_of_le (show w.heap.size < w.heap.size + 3 by omega) HB4.out) (.slice B3 L.prods.length d3))
      clear r3 f3
      refine HKK.out _ _ trivial ?_
      clear HKK KK
      try simp only [Act.put, List.setIfInBounds_toArray, List.set_cons_zero, List.set_cons_succ]
      refine wpAnyL_takeL (i := 18) (v := ?_) rfl (by kernel_rfl) (by kernel_rfl) (by kernel_rfl) (by kernel_rfl) (by kernel_rfl) (by kernel_rfl) (fun _ _ _ h => h) trivial (Or.inl ⟨by rfl, ?_⟩) ?_
      rotate_left
      · intro W hSw; (try dsimp only at hSw); go_split_ands; go_simp; try with_reducible rfl
      simp only [Act.put, List.setIfInBounds_toArray, List.set_cons_zero, List.set_cons_succ]
      refine wpAnyL_one (i := 19) (by kernel_rfl) (getL rfl) ?_
      intro KK hK
      have HKK := Lib.hid hK
      clear hK
      rw [if_pos (by rfl)]
      obtain ⟨r4, f4⟩ := slC4 HS.out
      go_simp
      have HS := Lib.hid (slP4 HS.out (.slice B4 L.sigs.length d4))
      have HO := Lib.hid (HO.out.set (w.heap.size) (by omega) 4 (.slice B4 L.sigs.length d4))
      have H4 := Lib.hid (ownsRow_setCell_below H4.out (a := ⟨w.heap.size, 4, none⟩) (Nat.lt_of_lt_of_le (show w.heap.size < w.heap.size + 3 by omega) HB4.out) (.slice B4 L.sigs.length d4))
      clear r4 f4
      refine HKK.out _ _ trivial ?_
      clear HKK KK
      try simp only [Act.put, List.setIfInBounds_toArray, List.set_cons_zero, List.set_cons_succ]
      refine ⟨by kernel_rfl, ?_⟩
      go_wp2_with fail
      go_meet
      exact ⟨B1, d1, B2, d2, B3, d3, B4, d4, _, Lib.hid ⟨P1.out, P2.out, P3.out, P4.out⟩, HS, HO, H4, HB4, Lib.hid (by have := HB5.out; simpa using this), HL⟩
    case rest =>
      obtain ⟨B1, d1, B2, d2, B3, d3, B4, d4, B, HCP, HS, HO, H4, HB4, HB5, HL⟩ := hcut
      have HRD := Lib.hid (own_read H4.out rfl)
      have HX := Lib.hid (indexSig 24 #[.pointer (some ⟨w.heap.size + 1, 0, none⟩)] (keyIs K.name) B4 d4 L.sigs.length L.sigs rfl wc HRD.out (by omega) (enters_of Tryd.func24 (by kernel_rfl) rfl)
        (fun W x hb _ => closSign x K.name K.secret K.pub (w.heap.size + 1) 28 W (HS.out.b2.keep hb)))
      have hx4 := (HS.out.b1.cells).2.2.2.2
      by_cases hz : 0 ≤ findI (keyIs K.name) L.sigs
      · obtain ⟨i, hi⟩ := Int.eq_ofNat_of_zero_le hz
        have HF := Lib.hid (putSig_found (K.name, sigS K (linkS L)) HSG.out.1 hi)
        rw [hi] at HX
        have hil := HF.out.2.1
        have HL4 := Lib.hid (H4.out.form (by omega))
        clear hz hi
        obtain ⟨g4, hg4⟩ : ∃ g4, B4 = some ⟨g4, 0, none⟩ := by
          obtain ⟨g4, cap4, he, _⟩ := HL4.out
          injection he with h1
          exact ⟨g4, h1⟩
        subst hg4
        clear HL4
        go_wp2_with fail
        refine HX.out.mono ?_
        rintro e w9 ⟨rfl, hb⟩
        have HS9 := Lib.hid (HS.out.keep hb)
        have HO9 := Lib.hid (HO.out.keep hb)
        have H49 := Lib.hid (own_below H4.out hb)
        clear hb hx4
        obtain ⟨a, ha⟩ : ∃ a, L.sigs[i]? = some a := ⟨_, List.getElem?_eq_getElem hil⟩
        have hq0 : w9.cell? ⟨g4, i * 2, none⟩ = some (.string a.1) := (H49.out.cellAt (i * 2) (by omega)).trans (pairL_get ha).1
        have hq1 : w9.cell? ⟨g4, i * 2 + 1, none⟩ = some (.string a.2) := (H49.out.cellAt (i * 2 + 1) (by omega)).trans (pairL_get ha).2
        have hf0 := H49.out.frozenAt (i * 2)
        have hf1 := H49.out.frozenAt (i * 2 + 1)
        have HBG := Lib.hid ((H49.out.lt g4 rfl).1)
        have hbx := (HS9.out.b1.cells).2.2.2.2
        obtain ⟨k0, k1, _, _⟩ := HS9.out.b4.two
        clear ha
        go_upto_region 14 with fail
        generalize hW : (w9.setCell ⟨g4, i * 2, none⟩ (.string K.name)).setCell ⟨g4, i * 2 + 1, none⟩ (.string (sigS K (linkS L))) = W
        have HW := Lib.hid hW.symm
        clear hW
        have hne0 : w.heap.size ≠ g4 := by have := HBG.out; have := HB4.out; omega
        have hne2 : w.heap.size + 2 ≠ g4 := by have := HBG.out; have := HB4.out; omega
        have hlow : w.heap.size + 2 < B := by have := HB4.out; omega
        have HF1 := Lib.hid ((HS9.out.b1.setCell ⟨g4, i * 2, none⟩ (.string K.name) hne0).setCell ⟨g4, i * 2 + 1, none⟩ (.string (sigS K (linkS L))) hne0)
        have HF3 := Lib.hid ((HS9.out.b3.setCell ⟨g4, i * 2, none⟩ (.string K.name) hne2).setCell ⟨g4, i * 2 + 1, none⟩ (.string (sigS K (linkS L))) hne2)
        have HH := H49.out.stored (i * 2) (.string K.name)
        have HH2 := HH.1.stored (i * 2 + 1) (.string (sigS K (linkS L)))
        have H4W := Lib.hid HH2.1
        have HOW := Lib.hid ((HO9.out.other HH.2 HL.out (fun k hk => by injection hk with hk; have := HBG.out; omega)).other HH2.2 HL.out (fun k hk => by injection hk with hk; have := HBG.out; omega))
        have HBW := Lib.hid ((HS9.out.below.setCell (p := ⟨g4, i * 2, none⟩) (by show w.heap.size ≤ g4; have := HBG.out; omega) (.string K.name)).setCell (p := ⟨g4, i * 2 + 1, none⟩) (by show w.heap.size ≤ g4; have := HBG.out; omega) (.string (sigS K (linkS L))))
        rw [← HW.out] at HF1 HF3 H4W HOW HBW
        rw [← pairL_set (K.name, sigS K (linkS L))] at H4W
        clear HH HH2 hq0 hq1 hf0 hf1 hbx k0 k1
        obtain ⟨q0, q1, q2, q3, q4⟩ := HF1.out.cells
        obtain ⟨r0, r1, r2, r3, r4⟩ := HF3.out.cells
        have f0 := HF3.out.frozen 0
        have f1 := HF3.out.frozen 1
        have f2 := HF3.out.frozen 2
        have f3 := HF3.out.frozen 3
        have f4 := HF3.out.frozen 4
        go_wp2
        refine bodyPost_ret (v := .tuple #[.agg #[.string L.step, .slice B1 L.cmd.length d1, .slice B2 L.mats.length d2, .slice B3 L.prods.length d3, .slice (some ⟨g4, 0, none⟩) L.sigs.length d4], .int .i64 0]) (by simp [results, Tryd.results7, go_sem]; go_simp) rfl ?_
        have HZ := Lib.hid (HE2.out (.inl HF.out.2.2))
        refine ⟨_, by rw [HZ.out], ?_, ((((HBW.out.setCell (by simp <;> omega) _).setCell (by simp <;> omega) _).setCell (by simp <;> omega) _).setCell (by simp <;> omega) _).setCell (by simp <;> omega) _⟩
        rw [HZ.out, slL_ok, HF.out.1]
        exact sl_final (((((HOW.out.set (w.heap.size + 2) (by omega) 0 _).set (w.heap.size + 2) (by omega) 1 _).set (w.heap.size + 2) (by omega) 2 _).set (w.heap.size + 2) (by omega) 3 _).set (w.heap.size + 2) (by omega) 4 _)
          (ownsRow_setCell_below (ownsRow_setCell_below (ownsRow_setCell_below (ownsRow_setCell_below (ownsRow_setCell_below H4W.out hlow _) hlow _) hlow _) hlow _) hlow _) (by simp) HCP.out
      · have HF := Lib.hid (findI_none (k := K.name) (l := L.sigs) (by omega))
        obtain ⟨z, hzz⟩ : ∃ z, findI (keyIs K.name) L.sigs = z := ⟨_, rfl⟩
        rw [hzz] at HX hz
        clear hzz
        go_wp2_with fail
        refine HX.out.mono ?_
        rintro e w9 ⟨rfl, hb⟩
        have HS9 := Lib.hid (HS.out.keep hb)
        have HO9 := Lib.hid (HO.out.keep hb)
        have H49 := Lib.hid (own_below H4.out hb)
        have HB9 := Lib.hid (Nat.le_trans HB5.out hb.size)
        clear hb hx4
        have hbx := (HS9.out.b1.cells).2.2.2.2
        by_cases hful : 50 ≤ L.sigs.length
        · have HZ := Lib.hid (HE1.out HF.out hful)
          obtain ⟨r0, r1, r2, r3, r4⟩ := HS9.out.b3.cells
          have f0 := HS9.out.b3.frozen 0
          have f1 := HS9.out.b3.frozen 1
          have f2 := HS9.out.b3.frozen 2
          have f3 := HS9.out.b3.frozen 3
          have f4 := HS9.out.b3.frozen 4
          go_wp2
          refine bodyPost_ret (v := .tuple #[.agg #[.string ⟨#[]⟩, .slice none 0 0, .slice none 0 0, .slice none 0 0, .slice none 0 0], .int .i64 3]) (by simp [results, Tryd.results7, go_sem]; go_simp) rfl ?_
          refine ⟨_, by rw [HZ.out], ?_, ((((HS9.out.below.setCell (by simp <;> omega) _).setCell (by simp <;> omega) _).setCell (by simp <;> omega) _).setCell (by simp <;> omega) _).setCell (by simp <;> omega) _⟩
          rw [slL_no (by rw [HZ.out]; decide)]
          exact zero_link _
        · have HZ := Lib.hid (HE2.out (.inr (by omega)))
          have HP := Lib.hid (putSig_none (K.name, sigS K (linkS L)) HF.out)
          obtain ⟨i0, hi, hz0, hz1, hz2⟩ := info_parts info_sig
          obtain ⟨k0, k1, _, _⟩ := HS9.out.b4.two
          have HROW := Lib.hid (fun k hk => (H49.out.lt k hk).1)
          have hlow : w.heap.size + 2 < B := by have := HB4.out; omega
          go_wp2_with (at_builtin; refine wpList_append_own _ rfl _ _ 24 rfl B 47 i0 (.agg #[.string ⟨#[]⟩, .string ⟨#[]⟩]) 2 32 Tryd.underlying24 hi hz0 hz1 hz2 rfl (by decide) _ _ _ rfl (H49.out.alloc _) ⟨w9.heap.size, 0, none⟩ 1 1 [.string K.name, .string (sigS K (linkS L))] rfl ?qc1 ?qc2 ?qc3 ?qc4 ?qc5 ?qc6 ?qc7)
          case qc1 => rfl
          case qc2 =>
            intro j u hj
            match j, hj with
            | 0, hj => injection hj with hj; subst hj; rw [Addr.add_lit, Nat.zero_add]; exact (row_cells w9 _ _ _).1
            | 1, hj => injection hj with hj; subst hj; rw [Addr.add_lit, Nat.zero_add]; exact (row_cells w9 _ _ _).2
            | j + 2, hj => simp at hj
          case qc3 => intro u hu; simp at hu; rcases hu with rfl | rfl <;> rfl
          case qc4 => unfold maxLen; omega
          case qc5 => omega
          case qc6 => have := HB9.out; simp; omega
          intro v' w10 hown hgrow hnil
          rw [← show pairL (L.sigs ++ [(K.name, sigS K (linkS L))]) = pairL L.sigs ++ [.string K.name, .string (sigS K (linkS L))] from pairL_append _ _] at hown
          obtain ⟨B5, d5, rfl, hc5⟩ := own_form hown
          have H5 := Lib.hid hown
          have C5 := Lib.hid hc5
          have hr0 : some w.heap.size ≠ (Value.slice B4 L.sigs.length d4).ownBlock := fun e => by have := HROW.out _ e.symm; omega
          have hr2 : some (w.heap.size + 2) ≠ (Value.slice B4 L.sigs.length d4).ownBlock := fun e => by have := HROW.out _ e.symm; omega
          have HF1 := Lib.hid ((HS9.out.b1.alloc (.cells #[.string K.name, .string (sigS K (linkS L))] 47)).grown hgrow hr0)
          have HF3 := Lib.hid ((HS9.out.b3.alloc (.cells #[.string K.name, .string (sigS K (linkS L))] 47)).grown hgrow hr2)
          have HOW := Lib.hid (Owns.other (fun r hr => (HO9.out r hr).alloc _) hgrow HL.out HROW.out)
          have HBW := Lib.hid (Below.grown (HS9.out.below.alloc HS9.out.below.size (.cells #[.string K.name, .string (sigS K (linkS L))] 47)) hgrow (by have := HS9.out.below.size; simp; omega) (fun k hk => by have := HROW.out k hk; omega))
          clear hown hgrow hnil hc5 k0 k1 hbx hr0 hr2 hi hz0 hz1 hz2
          obtain ⟨q0, q1, q2, q3, q4⟩ := HF1.out.cells
          have p4 := HF1.out.frozen 4
          obtain ⟨r0, r1, r2, r3, r4⟩ := HF3.out.cells
          have f0 := HF3.out.frozen 0
          have f1 := HF3.out.frozen 1
          have f2 := HF3.out.frozen 2
          have f3 := HF3.out.frozen 3
          have f4 := HF3.out.frozen 4
          go_wp2
          refine bodyPost_ret (v := .tuple #[.agg #[.string L.step, .slice B1 L.cmd.length d1, .slice B2 L.mats.length d2, .slice B3 L.prods.length d3, .slice B5 (L.sigs.length + 1) d5], .int .i64 0]) (by simp [results, Tryd.results7, go_sem]; go_simp) rfl ?_
          refine ⟨_, by rw [HZ.out], ?_, (((((HBW.out.setCell (by simp <;> omega) _).setCell (by simp <;> omega) _).setCell (by simp <;> omega) _).setCell (by simp <;> omega) _).setCell (by simp <;> omega) _).setCell (by simp <;> omega) _⟩
          rw [HZ.out, slL_ok, HP.out]
          have hk0 : w.heap.size < B := by omega
          exact sl_final ((((((HOW.out.set w.heap.size (by omega) 4 _).set (w.heap.size + 2) (by omega) 0 _).set (w.heap.size + 2) (by omega) 1 _).set (w.heap.size + 2) (by omega) 2 _).set (w.heap.size + 2) (by omega) 3 _).set (w.heap.size + 2) (by omega) 4 _)
            (ownsRow_setCell_below (ownsRow_setCell_below (ownsRow_setCell_below (ownsRow_setCell_below (ownsRow_setCell_below (ownsRow_setCell_below H5.out hk0 _) hlow _) hlow _) hlow _) hlow _) hlow _) (by simp) ⟨HCP.out.1, HCP.out.2.1, HCP.out.2.2.1, C5.out⟩
end Go.Proofs.YtnidamdfdlkoiaaDoor.A
