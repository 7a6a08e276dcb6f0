/- How links and keys read as data, and what their bulk bounds; what a law's row asks behind the walk. -/
import Derived.Test.YtnidamdfdlkoiaaDoorRows
import Derived.Test.YtnidamdfdlkoiaaDoorA8
import Derived.Test.YtnidamdfdlkoiaaDoorB8
import Derived.ProofKit
import Derived.OpenShut
import Derived.Deep.Slices
import Derived.Deep.Fields
import Derived.ChangeSame
import Derived.WideKeyArgs
import Derived.SliceStrings
namespace Go.Proofs.YtnidamdfdlkoiaaDoor.A
open Go.RowKit Go.ChangeShapes Go.WideShapes Go.Deep Go.WideElems

section
variable {H : Type}
theorem bulk_one (d : DataW H) : 1 ≤ Rows.uptoBulk d := by
  cases d with
  | lit l => cases l <;> simp [Rows.uptoBulk]
  | _ => simp [Rows.uptoBulk]
theorem bulk_mem {d : DataW H} {l : List (DataW H)} (h : d ∈ l) : Rows.uptoBulk d ≤ Rows.uptoBulkAll l := by
  induction l with
  | nil => cases h
  | cons x r ih =>
    simp only [Rows.uptoBulkAll]
    rcases List.mem_cons.1 h with e | e
    · subst e; omega
    · have := ih e; omega
theorem bulk_length (l : List (DataW H)) : l.length ≤ Rows.uptoBulkAll l := by
  induction l with
  | nil => simp [Rows.uptoBulkAll]
  | cons x r ih => have := bulk_one x; simp only [Rows.uptoBulkAll, List.length_cons]; omega
theorem bulk_string (b : List UInt8) : b.length ≤ Rows.uptoBulk (DataW.lit (H := H) (.string b)) := by simp [Rows.uptoBulk]
theorem bulk_elem {d : DataW H} {l r : List (DataW H)} (h : d ∈ l) : Rows.uptoBulk d ≤ Rows.uptoBulk (.slice l r) := by
  have := bulk_mem h; simp only [Rows.uptoBulk]; omega
theorem bulk_len {l r : List (DataW H)} : l.length ≤ Rows.uptoBulk (.slice l r) := by
  have := bulk_length l; simp only [Rows.uptoBulk]; omega
theorem bulk_part {d : DataW H} {l : List (DataW H)} (h : d ∈ l) : Rows.uptoBulk d ≤ Rows.uptoBulk (.agg l) := by
  have := bulk_mem h; simp only [Rows.uptoBulk]; omega
end

section
variable {H : Type} {enc : TypeId × Value → H} {P : Program} {w : World} {base : Nat} {spare : Nat → Bool} {held : Bool}
/-- the cells of a struct of one-cell fields, each with its reading -/
def FieldsRead (enc : TypeId × Value → H) (P : Program) (w : World) (base : Nat) (spare : Nat → Bool) (held : Bool) (fs : Array Field) (cs : List Value) (d : DataW H) : Prop :=
  cs.length = fs.size ∧ ∃ (ds : List (DataW H)) (n : Nat), d = .agg ds ∧ ds.length = fs.size ∧ ∀ (j : Nat) (f : Field), fs[j]? = some f → ∃ c y, cs[j]? = some c ∧ ds[j]? = some y.1 ∧ DataW.trod enc P w base spare held n f.type [c] = some y
theorem fields_of_trod {e : TypeId} {fs : Array Field} {fuel : Nat} {cs : List Value} {x : DataW H × List MemPlace} (he : P.underlying e = some (.struct fs)) (hone : oneCellFields P fs = true) (hC : P.cellsOf e = fs.size)
    (h : DataW.trod enc P w base spare held fuel e cs = some x) : FieldsRead enc P w base spare held fs cs x.1 := by
  obtain ⟨ys, n, _, rfl, hlen, hyl, hf⟩ := DataW.trod_struct he h
  refine ⟨hlen.trans hC, ys.map (·.1), n, rfl, by rw [List.length_map]; exact hyl, fun j f hj => ?_⟩
  obtain ⟨ho, hk⟩ := hone_of hone j f hj
  have hjl : j < fs.size := (Array.getElem?_eq_some_iff.1 hj).1
  have hcl : j < cs.length := by omega
  have h1 := hf j f hj
  rw [ho, hk, List.drop_eq_getElem_cons hcl] at h1
  have hys : ys[j]? = some (ys[j]'(by omega)) := List.getElem?_eq_getElem (by omega)
  exact ⟨_, _, List.getElem?_eq_getElem hcl, by rw [List.getElem?_map, hys]; rfl, h1.trans hys⟩
/-- a parameter that is such a struct -/
theorem param_fields {r : Reach} {b0 : Nat} {t : TypeId} {fs : Array Field} {v : Value} {d : DataW H} {p : List MemPlace} (hs : P.underlying t = some (.struct fs)) (hone : oneCellFields P fs = true) (hC : P.cellsOf t = fs.size)
    (hv : Value.okWide P w r b0 t v) (h : DataW.Trod enc P w base spare held t v d p) : ∃ cs, v = .agg cs.toArray ∧ FieldsRead enc P w base spare held fs cs d := by
  obtain ⟨cs, rfl, _⟩ := okWide_struct hs hv
  obtain ⟨fuel, hf⟩ := h
  exact ⟨cs.toList, by simp, fields_of_trod (x := (d, p)) hs hone hC (by simpa [Value.cells] using hf)⟩
/-- a field that is a text -/
theorem field_string {t : TypeId} {n : Nat} {c : Value} {y : DataW H × List MemPlace} (ht : P.underlying t = some .string) (h : DataW.trod enc P w base spare held n t [c] = some y) : ∃ s : ByteArray, c = .string s ∧ y.1 = .lit (.string s.data.toList) := by
  obtain ⟨s, h1, h2, _⟩ := DataW.trod_string ht h
  exact ⟨s, by simpa using h1, by rw [h2]⟩
theorem string_size {y : DataW H} {s : ByteArray} (h : y = .lit (.string s.data.toList)) : s.size ≤ Rows.uptoBulk y := by
  have h2 := bulk_string (H := H) s.data.toList
  rw [h]
  simpa using h2
/-- a field that is a slice of texts -/
theorem field_strings {t e : TypeId} {n : Nat} {c : Value} {y : DataW H × List MemPlace} (ht : P.underlying t = some (.slice e)) (he : P.underlying e = some .string) (hc : P.cellsOf e = 1)
    (h : DataW.trod enc P w base (fun _ => true) held n t [c] = some y) : ∃ A l k, c = .slice A l.length k ∧ RdS w A l ∧ l.length ≤ k ∧ l.length ≤ Rows.uptoBulk y.1 ∧ ∀ s ∈ l, s.size ≤ Rows.uptoBulk y.1 := by
  rcases open_strings ht he hc h with ⟨h1, _⟩ | ⟨a, len, cap, ss, h1, _, hl, _, hz, rfl, hcell, _⟩
  · exact ⟨none, [], 0, by simpa using h1, fun k s h => by simp at h, Nat.le_refl _, Nat.zero_le _, fun s h => by cases h⟩
  · have hlen : (ss.take len).length = len := by rw [List.length_take, hz]; simp; omega
    refine ⟨some a, ss.take len, cap, by rw [hlen]; simpa using h1, fun k s hk => ⟨a, rfl, ?_⟩, by rw [hlen]; exact hl, ?_, fun s hs => ?_⟩
    · rw [List.getElem?_take] at hk
      split at hk
      · have hkl := (List.getElem?_eq_some_iff.1 hk).1
        rw [hcell k hkl]
        simp [hk]
      · cases hk
    · rw [show (ss.take len).length = (strs (ss.take len) : List (DataW H)).length from by simp [strs]]
      exact bulk_len
    · refine Nat.le_trans ?_ (bulk_elem (d := .lit (.string s.data.toList)) (by unfold strs; exact List.mem_map_of_mem hs))
      exact string_size rfl
/-- the elements of a slice of structs -/
theorem field_structs {t e : TypeId} {fs : Array Field} {n : Nat} {c : Value} {y : DataW H × List MemPlace} (ht : P.underlying t = some (.slice e)) (he : P.underlying e = some (.struct fs)) (hone : oneCellFields P fs = true) (hC : P.cellsOf e = fs.size)
    (h : DataW.trod enc P w base (fun _ => true) held n t [c] = some y) :
    ∃ (A : Option Addr) (len k : Nat) (D : Nat → DataW H), c = .slice A len k ∧ len ≤ k ∧ len ≤ Rows.uptoBulk y.1 ∧ ∀ i, i < len → ∃ ad cs, A = some ad ∧ FieldsRead enc P w base (fun _ => true) held fs cs (D i) ∧ (∀ j, j < fs.size → w.cell? (ad.add (i * fs.size + j)) = cs[j]?) ∧ Rows.uptoBulk (D i) ≤ Rows.uptoBulk y.1 := by
  rcases open_slice ht h with ⟨h1, _⟩ | ⟨a, len, cap, m, n', D, Pl, h1, _, hl, _, hm, rfl, hi⟩
  · exact ⟨none, 0, 0, fun _ => .nil, by simpa using h1, Nat.le_refl _, Nat.zero_le _, fun i hi => by omega⟩
  · refine ⟨some a, len, cap, D, by simpa using h1, hl, ?_, fun i hil => ?_⟩
    · have := bulk_len (H := H) (l := (List.range len).map D) (r := (List.range (m - len)).map fun j => D (len + j))
      simpa using this
    · have hmm : m = cap := by simpa using hm
      obtain ⟨cs, hc, ht'⟩ := hi i (by omega)
      rw [hC] at hc
      obtain ⟨_, _, hat⟩ := World.cells?_some hc
      refine ⟨a, cs, rfl, fields_of_trod he hone hC ht', fun j hj => ?_, bulk_elem (List.mem_map_of_mem (List.mem_range.2 hil))⟩
      rw [← Go.Deep.add_add]
      exact hat j hj
end
/-- a slice of pairs of texts -/
theorem field_pairs {H : Type} {enc : TypeId × Value → H} {P : Program} {w : World} {base : Nat} {held : Bool} {t e : TypeId} {f0 f1 : Field} {n : Nat} {c : Value} {y : DataW H × List MemPlace} (ht : P.underlying t = some (.slice e)) (he : P.underlying e = some (.struct #[f0, f1])) (hone : oneCellFields P #[f0, f1] = true) (hC : P.cellsOf e = 2)
    (h0 : P.underlying f0.type = some .string) (h1 : P.underlying f1.type = some .string) (h : DataW.trod enc P w base (fun _ => true) held n t [c] = some y) :
    ∃ A l k, c = .slice A l.length k ∧ RdA w A l ∧ l.length ≤ k ∧ l.length ≤ Rows.uptoBulk y.1 ∧ ∀ a ∈ l, a.1.size ≤ Rows.uptoBulk y.1 ∧ a.2.size ≤ Rows.uptoBulk y.1 := by
  obtain ⟨A, len, k, D, rfl, hk, hb, hi⟩ := field_structs ht he hone hC h
  have each : ∀ i, i < len → ∃ p : ByteArray × ByteArray, (∃ ad, A = some ad ∧ w.cell? (ad.add (i * 2)) = some (.string p.1) ∧ w.cell? ⟨(ad.add (i * 2)).block, (ad.add (i * 2)).off + 1, none⟩ = some (.string p.2)) ∧ p.1.size ≤ Rows.uptoBulk y.1 ∧ p.2.size ≤ Rows.uptoBulk y.1 := by
    intro i hil
    obtain ⟨ad, cs, hA, ⟨_, ds, n', hd, _, hf⟩, hc, hbd⟩ := hi i hil
    obtain ⟨c0, y0, hc0, hd0, ht0⟩ := hf 0 f0 rfl
    obtain ⟨c1, y1, hc1, hd1, ht1⟩ := hf 1 f1 rfl
    obtain ⟨s0, rfl, e0⟩ := field_string h0 ht0
    obtain ⟨s1, rfl, e1⟩ := field_string h1 ht1
    have b0 := bulk_part (List.mem_of_getElem? hd0)
    have b1 := bulk_part (List.mem_of_getElem? hd1)
    rw [← hd] at b0 b1
    have z0 := string_size e0
    have z1 := string_size e1
    refine ⟨(s0, s1), ⟨ad, hA, (hc 0 (by show 0 < 2; decide)).trans hc0, ?_⟩, by show s0.size ≤ _; omega, by show s1.size ≤ _; omega⟩
    have := (hc 1 (by show 1 < 2; decide)).trans hc1
    rwa [show i * (#[f0, f1] : Array Field).size + 1 = i * 2 + 1 from rfl, show ad.add (i * 2 + 1) = ⟨(ad.add (i * 2)).block, (ad.add (i * 2)).off + 1, none⟩ from by
      unfold Addr.add
      by_cases h : i * 2 = 0
      · rw [if_neg (by omega), if_pos h]; simp; try omega
      · rw [if_neg (by omega), if_neg h]; simp; try omega] at this
  have he2 : ∀ i, ∃ p : ByteArray × ByteArray, i < len → (∃ ad, A = some ad ∧ w.cell? (ad.add (i * 2)) = some (.string p.1) ∧ w.cell? ⟨(ad.add (i * 2)).block, (ad.add (i * 2)).off + 1, none⟩ = some (.string p.2)) ∧ p.1.size ≤ Rows.uptoBulk y.1 ∧ p.2.size ≤ Rows.uptoBulk y.1 := by
    intro i
    by_cases h : i < len
    · obtain ⟨p, hp⟩ := each i h; exact ⟨p, fun _ => hp⟩
    · exact ⟨(⟨#[]⟩, ⟨#[]⟩), fun h2 => absurd h2 h⟩
  obtain ⟨f, hfp⟩ := Classical.axiomOfChoice he2
  have hlen : ((List.range len).map f).length = len := by simp
  refine ⟨A, (List.range len).map f, k, by rw [hlen], fun i a ha => ?_, by rw [hlen]; exact hk, by rw [hlen]; exact hb, fun a ha => ?_⟩
  · have hil : i < len := by have := (List.getElem?_eq_some_iff.1 ha).1; omega
    have hfa : f i = a := by simpa [hil] using ha
    rw [← hfa]
    exact (hfp i hil).1
  · obtain ⟨i, hi, rfl⟩ := List.mem_map.1 ha
    exact (hfp i (List.mem_range.1 hi)).2

set_option maxRecDepth 100000 in
/-- a link that comes in -/
theorem read_link {H : Type} {enc : TypeId × Value → H} {w : World} {b0 : Nat} {held : Bool} {v : Value} {d : DataW H} {p : List MemPlace} (hv : Value.okWide Tryd.prog w .any b0 26 v) (h : DataW.Trod enc Tryd.prog w 0 (fun _ => true) held 26 v d p) (hb : Rows.uptoBulk d ≤ 1048576) :
    ∃ L : LinkD, RdLink w v L ∧ L.Small := by
  obtain ⟨cs, rfl, ⟨hcl, ds, n, rfl, hdl, hf⟩⟩ := param_fields Tryd.underlying26 (by kernel_rfl) (by kernel_rfl) hv h
  obtain ⟨c0, y0, hc0, hd0, ht0⟩ := hf 0 _ rfl
  obtain ⟨c1, y1, hc1, hd1, ht1⟩ := hf 1 _ rfl
  obtain ⟨c2, y2, hc2, hd2, ht2⟩ := hf 2 _ rfl
  obtain ⟨c3, y3, hc3, hd3, ht3⟩ := hf 3 _ rfl
  obtain ⟨c4, y4, hc4, hd4, ht4⟩ := hf 4 _ rfl
  have b0 := bulk_part (List.mem_of_getElem? hd0)
  have b1 := bulk_part (List.mem_of_getElem? hd1)
  have b2 := bulk_part (List.mem_of_getElem? hd2)
  have b3 := bulk_part (List.mem_of_getElem? hd3)
  have b4 := bulk_part (List.mem_of_getElem? hd4)
  obtain ⟨s0, rfl, e0⟩ := field_string Tryd.underlying9 ht0
  have z0 := string_size e0
  obtain ⟨A1, l1, k1, rfl, r1, g1, n1, m1⟩ := field_strings Tryd.underlying22 Tryd.underlying9 (by kernel_rfl) ht1
  obtain ⟨A2, l2, k2, rfl, r2, g2, n2, m2⟩ := field_pairs Tryd.underlying23 Tryd.underlying53 (by kernel_rfl) (by kernel_rfl) Tryd.underlying9 Tryd.underlying9 ht2
  obtain ⟨A3, l3, k3, rfl, r3, g3, n3, m3⟩ := field_pairs Tryd.underlying23 Tryd.underlying53 (by kernel_rfl) (by kernel_rfl) Tryd.underlying9 Tryd.underlying9 ht3
  obtain ⟨A4, l4, k4, rfl, r4, g4, n4, m4⟩ := field_pairs Tryd.underlying24 Tryd.underlying47 (by kernel_rfl) (by kernel_rfl) Tryd.underlying9 Tryd.underlying9 ht4
  have hcs : cs = [.string s0, .slice A1 l1.length k1, .slice A2 l2.length k2, .slice A3 l3.length k3, .slice A4 l4.length k4] := by
    match cs, hcl, hc0, hc1, hc2, hc3, hc4 with
    | [u0, u1, u2, u3, u4], _, hc0, hc1, hc2, hc3, hc4 =>
      simp at hc0 hc1 hc2 hc3 hc4
      rw [hc0, hc1, hc2, hc3, hc4]
  subst hcs
  exact ⟨⟨s0, l1, l2, l3, l4⟩, ⟨A1, A2, A3, A4, k1, k2, k3, k4, rfl, r1, r2, r3, r4, g1, g2, g3, g4⟩,
    ⟨by show s0.size ≤ _; omega, fun s hs => by have := m1 s hs; omega, fun a ha => by have := m2 a ha; omega, fun a ha => by have := m3 a ha; omega, fun a ha => by have := m4 a ha; omega, by show l1.length ≤ _; omega, by show l2.length ≤ _; omega, by show l3.length ≤ _; omega, by show l4.length ≤ _; omega⟩⟩
set_option maxRecDepth 100000 in
/-- a key that comes in -/
theorem read_key {H : Type} {enc : TypeId × Value → H} {w : World} {b0 : Nat} {held : Bool} {v : Value} {d : DataW H} {p : List MemPlace} (hv : Value.okWide Tryd.prog w .any b0 28 v) (h : DataW.Trod enc Tryd.prog w 0 (fun _ => true) held 28 v d p) (hb : Rows.uptoBulk d ≤ 1048576) :
    ∃ K : KeyD, v = K.val ∧ K.Small := by
  obtain ⟨cs, rfl, ⟨hcl, ds, n, rfl, hdl, hf⟩⟩ := param_fields Tryd.underlying28 (by kernel_rfl) (by kernel_rfl) hv h
  obtain ⟨c0, y0, hc0, hd0, ht0⟩ := hf 0 _ rfl
  obtain ⟨c1, y1, hc1, hd1, ht1⟩ := hf 1 _ rfl
  obtain ⟨c2, y2, hc2, hd2, ht2⟩ := hf 2 _ rfl
  have b0 := bulk_part (List.mem_of_getElem? hd0)
  have b1 := bulk_part (List.mem_of_getElem? hd1)
  have b2 := bulk_part (List.mem_of_getElem? hd2)
  obtain ⟨s0, rfl, e0⟩ := field_string Tryd.underlying9 ht0
  obtain ⟨s1, rfl, e1⟩ := field_string Tryd.underlying9 ht1
  obtain ⟨s2, rfl, e2⟩ := field_string Tryd.underlying9 ht2
  have z0 := string_size e0
  have z1 := string_size e1
  have z2 := string_size e2
  have hcs : cs = [.string s0, .string s1, .string s2] := by
    match cs, hcl, hc0, hc1, hc2 with
    | [u0, u1, u2], _, hc0, hc1, hc2 =>
      simp at hc0 hc1 hc2
      rw [hc0, hc1, hc2]
  subst hcs
  exact ⟨⟨s0, s1, s2⟩, rfl, by show s0.size ≤ _; omega, by show s1.size ≤ _; omega, by show s2.size ≤ _; omega⟩
/-- an argument reads behind the call as it did -/
theorem still_reads {H : Type} {enc : TypeId × Value → H} {P : Program} {t : TypeId} (hl : laidOutB P = true) (hr : P.readableRec t = true) (hrow : t < P.types.size) {W W' : World} {v : Value} {d : DataW H} {ps : List MemPlace} {sp : Nat → Bool}
    (h : DataW.Trod enc P W 0 (fun _ => true) true t v d ps) (hb : Below W.heap.size W W') (hlt : ∀ x ∈ ps, x.block < W.heap.size) (hs : ∀ x ∈ ps, sp x.block = true) : DataW.Trod enc P W' 0 sp true t v d ps :=
  Trod_stays hl hr hrow h (fun x hx => hb.same (hlt x hx)) hs
/-- what the row of a law asks: it answered yes, and below the heap's old size nothing has turned -/
theorem law_post {H : Type} {enc : TypeId × Value → H} {P : Program} {f : Func} {s : ChangeSpec} {W W' : World} {args : Array Value} {tb : TypeId} {ds gs : List (DataW H)} {before q : List MemPlace}
    (hW : DataW.Whole enc P f.params.toList s.vars false W args.toList ds gs before) (hvn : s.vars = []) (hfn : s.fn H (ds ++ gs) = { results := [.lit (.bool true)], args := ds })
    (htb : f.resultTypes = #[tb]) (hub : P.underlying tb = some .bool)
    (hargs : ∀ sp : Nat → Bool, (∀ p ∈ q, sp p.block = true) → DataW.TrodAll enc P W' 0 sp true f.params.toList args.toList ds q) (hq : before = q) (hb : Below W.heap.size W W') :
    s.post enc P f false true false false W args (.bool true) W' := by
  subst hq
  have hres : ∀ (b : Nat) (sp : Nat → Bool) (hd : Bool), DataW.TrodAll enc P W' b sp hd f.resultTypes.toList ((Value.bool true).resultList f.resultTypes.size) (s.fn H (ds ++ gs)).results [] := by
    intro b sp hd
    rw [hfn, htb]
    exact trodAll_mk1 (shut_bool hub true)
  refine ⟨ds, gs, before, [], before, [], hW, hres _ _ _, ?_, ?_, World.keptBut_mono (fun p hp => ⟨hp, ?_⟩) (hb.frame (· ∈ before)), fun h => by cases h⟩
  · rw [hfn]; exact hargs _ (fun p hp => by simpa using hW.lt p hp)
  · rw [hvn, hfn]; rfl
  · exact .inr (by simpa using hp)
end Go.Proofs.YtnidamdfdlkoiaaDoor.A
