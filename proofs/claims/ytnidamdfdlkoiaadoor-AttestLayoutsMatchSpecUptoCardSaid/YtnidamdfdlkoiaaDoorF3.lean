/- How layouts read as data. -/
import Derived.Test.YtnidamdfdlkoiaaDoorF1
import Derived.Test.YtnidamdfdlkoiaaDoorG1
namespace Go.Proofs.YtnidamdfdlkoiaaDoor.A
open Go.RowKit Go.ChangeShapes Go.WideShapes Go.Deep Go.WideElems

theorem list_of {α : Type} [Inhabited α] {len : Nat} {p : Nat → α → Prop} (h : ∀ i, i < len → ∃ a, p i a) : ∃ l : List α, l.length = len ∧ ∀ i a, l[i]? = some a → p i a := by
  have h2 : ∀ i, ∃ a, i < len → p i a := fun i => by
    by_cases hi : i < len
    · obtain ⟨a, ha⟩ := h i hi; exact ⟨a, fun _ => ha⟩
    · exact ⟨default, fun h => absurd h hi⟩
  obtain ⟨f, hf⟩ := Classical.axiomOfChoice h2
  have hlen : ((List.range len).map f).length = len := by simp
  refine ⟨(List.range len).map f, hlen, fun i a ha => ?_⟩
  have hil : i < len := by have := (List.getElem?_eq_some_iff.1 ha).1; omega
  have hfa : f i = a := by simpa [hil] using ha
  rw [← hfa]; exact hf i hil
theorem add_off (ad : Addr) (m j : Nat) (h : 0 < j) : ad.add (m + j) = ⟨(ad.add m).block, (ad.add m).off + j, none⟩ := by
  unfold Addr.add
  by_cases h : m = 0
  · rw [if_neg (by omega), if_pos h]; simp; try omega
  · rw [if_neg (by omega), if_neg h]; simp; try omega
section
variable {H : Type} {enc : TypeId × Value → H} {P : Program} {w : World} {base : Nat} {spare : Nat → Bool} {held : Bool}
theorem field_int {t : TypeId} {n : Nat} {c : Value} {y : DataW H × List MemPlace} (ht : P.underlying t = some (.int .i64)) (h : DataW.trod enc P w base spare held n t [c] = some y) : ∃ z : Int, c = .int .i64 z := by
  obtain ⟨z, h1, _, _⟩ := DataW.trod_int ht h
  exact ⟨z, by simpa using h1⟩
theorem field_bool {t : TypeId} {n : Nat} {c : Value} {y : DataW H × List MemPlace} (ht : P.underlying t = some .bool) (h : DataW.trod enc P w base spare held n t [c] = some y) : ∃ z : Bool, c = .bool z := by
  obtain ⟨z, h1, _⟩ := DataW.trod_bool ht h
  exact ⟨z, by simpa using h1⟩
/-- a slice of structs reads as a list, when each struct does -/
theorem field_list {α : Type} [Inhabited α] {t e : TypeId} {fs : Array Field} {n : Nat} {c : Value} {y : DataW H × List MemPlace} (p : Nat → Addr → List Value → α → Prop)
    (ht : P.underlying t = some (.slice e)) (he : P.underlying e = some (.struct fs)) (hone : oneCellFields P fs = true) (hC : P.cellsOf e = fs.size)
    (hp : ∀ i ad cs (d : DataW H), FieldsRead enc P w base (fun _ => true) held fs cs d → (∀ j, j < fs.size → w.cell? (ad.add (i * fs.size + j)) = cs[j]?) → Rows.uptoBulk d ≤ 1048576 → ∃ a, p i ad cs a)
    (h : DataW.trod enc P w base (fun _ => true) held n t [c] = some y) (hb : Rows.uptoBulk y.1 ≤ 1048576) :
    ∃ (A : Option Addr) (l : List α) (k : Nat), c = .slice A l.length k ∧ l.length ≤ k ∧ l.length ≤ 1048576 ∧ ∀ (i : Nat) (a : α), l[i]? = some a → ∃ ad cs, A = some ad ∧ p i ad cs a := by
  obtain ⟨A, len, k, D, rfl, hk, hbl, hi⟩ := field_structs ht he hone hC h
  obtain ⟨l, hl, hpl⟩ := list_of (len := len) (p := fun i a => ∃ ad cs, A = some ad ∧ p i ad cs a) (fun i hil => by
    obtain ⟨ad, cs, hA, hf, hc, hbd⟩ := hi i hil
    obtain ⟨a, ha⟩ := hp i ad cs (D i) hf hc (by omega)
    exact ⟨a, ad, cs, hA, ha⟩)
  refine ⟨A, l, k, by rw [hl], by omega, by omega, hpl⟩
end

section
variable {H : Type} {enc : TypeId × Value → H} {w : World} {base : Nat} {held : Bool}
instance : Inhabited KeyD := ⟨⟨⟨#[]⟩, ⟨#[]⟩, ⟨#[]⟩⟩⟩
instance : Inhabited RuleD := ⟨⟨0, ⟨#[]⟩, ⟨#[]⟩, false⟩⟩
instance : Inhabited StepD := ⟨⟨⟨#[]⟩, [], 0, [], [], []⟩⟩
set_option maxRecDepth 100000 in
/-- keys -/
theorem field_keys {n : Nat} {c : Value} {y : DataW H × List MemPlace} (h : DataW.trod enc Tryd.prog w base (fun _ => true) held n 38 [c] = some y) (hb : Rows.uptoBulk y.1 ≤ 1048576) :
    ∃ A l k, c = .slice A l.length k ∧ RdK w A l ∧ l.length ≤ k ∧ l.length ≤ 1048576 ∧ ∀ a ∈ l, a.Small := by
  obtain ⟨A, l, k, e, hk, hl, hp⟩ := field_list (α := KeyD) (fun i ad cs a => w.cell? (ad.add (i * 3)) = some (.string a.name) ∧ w.cell? ⟨(ad.add (i * 3)).block, (ad.add (i * 3)).off + 1, none⟩ = some (.string a.secret) ∧ w.cell? ⟨(ad.add (i * 3)).block, (ad.add (i * 3)).off + 2, none⟩ = some (.string a.pub) ∧ a.Small)
    Tryd.underlying38 Tryd.underlying28 (by kernel_rfl) (by kernel_rfl) (fun i ad cs d hd hc hbd => by
      obtain ⟨hcl, ds, n, rfl, hdl, hf⟩ := hd
      obtain ⟨c0, y0, hc0, hd0, ht0⟩ := hf 0 _ rfl
      obtain ⟨c1, y1, hc1, hd1, ht1⟩ := hf 1 _ rfl
      obtain ⟨c2, y2, hc2, hd2, ht2⟩ := hf 2 _ rfl
      have b0 := bulk_part (List.mem_of_getElem? hd0)
      have b1 := bulk_part (List.mem_of_getElem? hd1)
      have b2 := bulk_part (List.mem_of_getElem? hd2)
      obtain ⟨s0, rfl, e0⟩ := field_string Tryd.underlying9 ht0
      obtain ⟨s1, rfl, e1⟩ := field_string Tryd.underlying9 ht1
      obtain ⟨s2, rfl, e2⟩ := field_string Tryd.underlying9 ht2
      have z0 := string_size e0
      have z1 := string_size e1
      have z2 := string_size e2
      refine ⟨⟨s0, s1, s2⟩, ?_, ?_, ?_, by show s0.size ≤ _; omega, by show s1.size ≤ _; omega, by show s2.size ≤ _; omega⟩
      · exact (hc 0 (by show 0 < 3; decide)).trans hc0
      · have := (hc 1 (by show 1 < 3; decide)).trans hc1
        rwa [add_off _ _ _ (by decide)] at this
      · have := (hc 2 (by show 2 < 3; decide)).trans hc2
        rwa [add_off _ _ _ (by decide)] at this) h hb
  refine ⟨A, l, k, e, fun i a ha => ?_, hk, hl, fun a ha => ?_⟩
  · obtain ⟨ad, cs, hA, h0, h1, h2, _⟩ := hp i a ha
    exact ⟨ad, hA, h0, h1, h2⟩
  · obtain ⟨i, hi⟩ := List.mem_iff_getElem?.1 ha
    obtain ⟨ad, cs, hA, _, _, _, hs⟩ := hp i a hi
    exact hs
set_option maxRecDepth 100000 in
/-- rules -/
theorem field_rules {n : Nat} {c : Value} {y : DataW H × List MemPlace} (h : DataW.trod enc Tryd.prog w base (fun _ => true) held n 79 [c] = some y) (hb : Rows.uptoBulk y.1 ≤ 1048576) :
    ∃ A l k, c = .slice A l.length k ∧ RdR w A l ∧ l.length ≤ k ∧ l.length ≤ 1048576 ∧ ∀ a ∈ l, a.Small := by
  obtain ⟨A, l, k, e, hk, hl, hp⟩ := field_list (α := RuleD) (fun i ad cs a => w.cell? (ad.add (i * 4)) = some (.int .i64 a.kind) ∧ w.cell? ⟨(ad.add (i * 4)).block, (ad.add (i * 4)).off + 1, none⟩ = some (.string a.pat) ∧ w.cell? ⟨(ad.add (i * 4)).block, (ad.add (i * 4)).off + 2, none⟩ = some (.string a.step) ∧ w.cell? ⟨(ad.add (i * 4)).block, (ad.add (i * 4)).off + 3, none⟩ = some (.bool a.of) ∧ a.Small)
    Tryd.underlying79 Tryd.underlying83 (by kernel_rfl) (by kernel_rfl) (fun i ad cs d hd hc hbd => by
      obtain ⟨hcl, ds, n, rfl, hdl, hf⟩ := hd
      obtain ⟨c0, y0, hc0, hd0, ht0⟩ := hf 0 _ rfl
      obtain ⟨c1, y1, hc1, hd1, ht1⟩ := hf 1 _ rfl
      obtain ⟨c2, y2, hc2, hd2, ht2⟩ := hf 2 _ rfl
      obtain ⟨c3, y3, hc3, hd3, ht3⟩ := hf 3 _ rfl
      have b1 := bulk_part (List.mem_of_getElem? hd1)
      have b2 := bulk_part (List.mem_of_getElem? hd2)
      obtain ⟨s0, rfl⟩ := field_int Tryd.underlying3 ht0
      obtain ⟨s1, rfl, e1⟩ := field_string Tryd.underlying9 ht1
      obtain ⟨s2, rfl, e2⟩ := field_string Tryd.underlying9 ht2
      obtain ⟨s3, rfl⟩ := field_bool Tryd.underlying4 ht3
      have z1 := string_size e1
      have z2 := string_size e2
      refine ⟨⟨s0, s1, s2, s3⟩, ?_, ?_, ?_, ?_, by show s1.size ≤ _; omega, by show s2.size ≤ _; omega⟩
      · exact (hc 0 (by show 0 < 4; decide)).trans hc0
      · have := (hc 1 (by show 1 < 4; decide)).trans hc1
        rwa [add_off _ _ _ (by decide)] at this
      · have := (hc 2 (by show 2 < 4; decide)).trans hc2
        rwa [add_off _ _ _ (by decide)] at this
      · have := (hc 3 (by show 3 < 4; decide)).trans hc3
        rwa [add_off _ _ _ (by decide)] at this) h hb
  refine ⟨A, l, k, e, fun i a ha => ?_, hk, hl, fun a ha => ?_⟩
  · obtain ⟨ad, cs, hA, h0, h1, h2, h3, _⟩ := hp i a ha
    exact ⟨ad, hA, h0, h1, h2, h3⟩
  · obtain ⟨i, hi⟩ := List.mem_iff_getElem?.1 ha
    obtain ⟨ad, cs, hA, _, _, _, _, hs⟩ := hp i a hi
    exact hs
set_option maxRecDepth 100000 in
/-- steps -/
theorem field_steps {n : Nat} {c : Value} {y : DataW H × List MemPlace} (h : DataW.trod enc Tryd.prog w base (fun _ => true) held n 39 [c] = some y) (hb : Rows.uptoBulk y.1 ≤ 1048576) :
    ∃ A l k, c = .slice A l.length k ∧ RdSt w A l ∧ l.length ≤ k ∧ l.length ≤ 1048576 ∧ ∀ a ∈ l, a.Small := by
  obtain ⟨A, l, k, e, hk, hl, hp⟩ := field_list (α := StepD) (fun i ad cs a => ∃ A1 A2 A3 A4 c1 c2 c3 c4, StepR w a A1 A2 A3 A4 c1 c2 c3 c4 ∧ w.cell? (ad.add (i * 6)) = some (.string a.name) ∧ w.cell? ⟨(ad.add (i * 6)).block, (ad.add (i * 6)).off + 1, none⟩ = some (.slice A1 a.keys.length c1) ∧ w.cell? ⟨(ad.add (i * 6)).block, (ad.add (i * 6)).off + 2, none⟩ = some (.int .i64 a.need) ∧
      w.cell? ⟨(ad.add (i * 6)).block, (ad.add (i * 6)).off + 3, none⟩ = some (.slice A2 a.cmd.length c2) ∧ w.cell? ⟨(ad.add (i * 6)).block, (ad.add (i * 6)).off + 4, none⟩ = some (.slice A3 a.mats.length c3) ∧ w.cell? ⟨(ad.add (i * 6)).block, (ad.add (i * 6)).off + 5, none⟩ = some (.slice A4 a.prods.length c4) ∧ a.Small)
    Tryd.underlying39 Tryd.underlying81 (by kernel_rfl) (by kernel_rfl) (fun i ad cs d hd hc hbd => by
      obtain ⟨hcl, ds, n, rfl, hdl, hf⟩ := hd
      obtain ⟨c0, y0, hc0, hd0, ht0⟩ := hf 0 _ rfl
      obtain ⟨c1, y1, hc1, hd1, ht1⟩ := hf 1 _ rfl
      obtain ⟨c2, y2, hc2, hd2, ht2⟩ := hf 2 _ rfl
      obtain ⟨c3, y3, hc3, hd3, ht3⟩ := hf 3 _ rfl
      obtain ⟨c4, y4, hc4, hd4, ht4⟩ := hf 4 _ rfl
      obtain ⟨c5, y5, hc5, hd5, ht5⟩ := hf 5 _ rfl
      have b0 := bulk_part (List.mem_of_getElem? hd0)
      have b1 := bulk_part (List.mem_of_getElem? hd1)
      have b3 := bulk_part (List.mem_of_getElem? hd3)
      have b4 := bulk_part (List.mem_of_getElem? hd4)
      have b5 := bulk_part (List.mem_of_getElem? hd5)
      obtain ⟨s0, rfl, e0⟩ := field_string Tryd.underlying9 ht0
      have z0 := string_size e0
      obtain ⟨A1, l1, k1, rfl, r1, g1, n1, m1⟩ := field_strings Tryd.underlying22 Tryd.underlying9 (by kernel_rfl) ht1
      obtain ⟨s2, rfl⟩ := field_int Tryd.underlying3 ht2
      obtain ⟨A2, l2, k2, rfl, r2, g2, n2, m2⟩ := field_strings Tryd.underlying22 Tryd.underlying9 (by kernel_rfl) ht3
      obtain ⟨A3, l3, k3, rfl, r3, g3, n3, m3⟩ := field_rules ht4 (by omega)
      obtain ⟨A4, l4, k4, rfl, r4, g4, n4, m4⟩ := field_rules ht5 (by omega)
      refine ⟨⟨s0, l1, s2, l2, l3, l4⟩, A1, A2, A3, A4, k1, k2, k3, k4, ⟨r1, r2, r3, r4, g1, g2, g3, g4⟩, ?_, ?_, ?_, ?_, ?_, ?_, ⟨by show s0.size ≤ _; omega, fun s hs => by have := m1 s hs; omega, fun s hs => by have := m2 s hs; omega, m3, m4, by show l1.length ≤ _; omega, by show l2.length ≤ _; omega, n3, n4⟩⟩
      · exact (hc 0 (by show 0 < 6; decide)).trans hc0
      · have := (hc 1 (by show 1 < 6; decide)).trans hc1
        rwa [add_off _ _ _ (by decide)] at this
      · have := (hc 2 (by show 2 < 6; decide)).trans hc2
        rwa [add_off _ _ _ (by decide)] at this
      · have := (hc 3 (by show 3 < 6; decide)).trans hc3
        rwa [add_off _ _ _ (by decide)] at this
      · have := (hc 4 (by show 4 < 6; decide)).trans hc4
        rwa [add_off _ _ _ (by decide)] at this
      · have := (hc 5 (by show 5 < 6; decide)).trans hc5
        rwa [add_off _ _ _ (by decide)] at this) h hb
  refine ⟨A, l, k, e, fun i a ha => ?_, hk, hl, fun a ha => ?_⟩
  · obtain ⟨ad, cs, hA, A1, A2, A3, A4, c1, c2, c3, c4, hr, h0, h1, h2, h3, h4, h5, _⟩ := hp i a ha
    exact ⟨ad, A1, A2, A3, A4, c1, c2, c3, c4, hA, hr, h0, h1, h2, h3, h4, h5⟩
  · obtain ⟨i, hi⟩ := List.mem_iff_getElem?.1 ha
    obtain ⟨ad, cs, hA, A1, A2, A3, A4, c1, c2, c3, c4, hr, _, _, _, _, _, _, hs⟩ := hp i a hi
    exact hs
end
set_option maxRecDepth 100000 in
/-- a layout that comes in -/
theorem read_layout {H : Type} {enc : TypeId × Value → H} {w : World} {b0 : Nat} {held : Bool} {v : Value} {d : DataW H} {p : List MemPlace} (hv : Value.okWide Tryd.prog w .any b0 41 v) (h : DataW.Trod enc Tryd.prog w 0 (fun _ => true) held 41 v d p) (hb : Rows.uptoBulk d ≤ 1048576) :
    ∃ Y : LayoutD, RdLay w v Y ∧ Y.Small := by
  obtain ⟨cs, rfl, ⟨hcl, ds, n, rfl, hdl, hf⟩⟩ := param_fields Tryd.underlying41 (by kernel_rfl) (by kernel_rfl) hv h
  obtain ⟨c0, y0, hc0, hd0, ht0⟩ := hf 0 _ rfl
  obtain ⟨c1, y1, hc1, hd1, ht1⟩ := hf 1 _ rfl
  obtain ⟨c2, y2, hc2, hd2, ht2⟩ := hf 2 _ rfl
  obtain ⟨c3, y3, hc3, hd3, ht3⟩ := hf 3 _ rfl
  have b0 := bulk_part (List.mem_of_getElem? hd0)
  have b2 := bulk_part (List.mem_of_getElem? hd2)
  have b3 := bulk_part (List.mem_of_getElem? hd3)
  obtain ⟨s0, rfl, e0⟩ := field_string Tryd.underlying9 ht0
  have z0 := string_size e0
  obtain ⟨s1, rfl⟩ := field_int Tryd.underlying3 ht1
  obtain ⟨A2, l2, k2, rfl, r2, g2, n2, m2⟩ := field_keys ht2 (by omega)
  obtain ⟨A3, l3, k3, rfl, r3, g3, n3, m3⟩ := field_steps ht3 (by omega)
  have hcs : cs = [.string s0, .int .i64 s1, .slice A2 l2.length k2, .slice A3 l3.length k3] := by
    match cs, hcl, hc0, hc1, hc2, hc3 with
    | [u0, u1, u2, u3], _, hc0, hc1, hc2, hc3 =>
      simp at hc0 hc1 hc2 hc3
      rw [hc0, hc1, hc2, hc3]
  subst hcs
  exact ⟨⟨s0, s1, l2, l3⟩, ⟨A2, A3, k2, k3, rfl, r2, r3, g2, g3⟩, ⟨by show s0.size ≤ _; omega, m2, m3, n2, n3⟩⟩
end Go.Proofs.YtnidamdfdlkoiaaDoor.A
