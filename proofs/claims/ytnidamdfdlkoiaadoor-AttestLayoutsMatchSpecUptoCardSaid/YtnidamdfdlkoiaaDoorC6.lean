/- LinkText of both. -/
import Derived.Test.YtnidamdfdlkoiaaDoorC5
namespace Go.Proofs.YtnidamdfdlkoiaaDoor.A
open Go.RowKit

theorem flat_le {α : Type} (f : α → List UInt8) (b : Nat) : ∀ l : List α, (∀ x ∈ l, (f x).length ≤ b) → (l.flatMap f).length ≤ l.length * b
  | [], _ => by simp
  | x :: r, h => by
    have h1 := h x (by simp)
    have h2 := flat_le f b r (fun y hy => h y (by simp [hy]))
    rw [List.flatMap_cons, List.length_append, List.length_cons, Nat.add_mul]
    omega
theorem ba_len (s : ByteArray) : s.data.toList.length = s.size := by simp
theorem wordP_len (s : ByteArray) : (wordP s).length = s.size + 6 := by
  unfold wordP; rw [ba_len, ByteArray.size_append, ByteArray.size_append]; have h1 : kWord.size = 5 := rfl; have h2 : kNl.size = 1 := rfl; omega
theorem stepP_len (s : ByteArray) : (stepP s).length = s.size + 6 := by
  unfold stepP; rw [ba_len, ByteArray.size_append, ByteArray.size_append]; have h1 : kStep.size = 5 := rfl; have h2 : kNl.size = 1 := rfl; omega
theorem artP_len (k : ByteArray) (a : ByteArray × ByteArray) : (artP k a).length = k.size + a.1.size + a.2.size + 2 := by
  unfold artP; rw [ba_len, ByteArray.size_append, ByteArray.size_append, ByteArray.size_append, ByteArray.size_append]; have h1 : kSp.size = 1 := rfl; have h2 : kNl.size = 1 := rfl; omega
theorem small_text {L : LinkD} (h : L.Small) : (linkL L).length ≤ 100000000000000 := by
  have h1 := flat_le wordP 1048582 L.cmd (fun x hx => by rw [wordP_len]; have := h.cmd x hx; omega)
  have h2 := flat_le (artP kMat) 2097163 L.mats (fun x hx => by rw [artP_len]; have := h.mats x hx; have h1 : kMat.size = 9 := rfl; omega)
  have h3 := flat_le (artP kProd) 2097163 L.prods (fun x hx => by rw [artP_len]; have := h.prods x hx; have h1 : kProd.size = 8 := rfl; omega)
  have h0 := h.step
  obtain ⟨l1, l2, l3, _⟩ := h.lens
  have e1 : L.cmd.length * 1048582 ≤ 1048576 * 1048582 := Nat.mul_le_mul_right _ l1
  have e2 : L.mats.length * 2097163 ≤ 1048576 * 2097163 := Nat.mul_le_mul_right _ l2
  have e3 : L.prods.length * 2097163 ≤ 1048576 * 2097163 := Nat.mul_le_mul_right _ l3
  unfold linkL
  rw [List.length_append, List.length_append, List.length_append, stepP_len]
  omega
/-- what LinkText gives -/
def textV (z : Int) (L : LinkD) : ByteArray := if z = 0 then linkS L else ⟨#[]⟩
theorem box5 {w wr : World} {a b c d e : Value} {t : TypeId} (h : BoxAt w (.cells #[a, b, c, d, e] t) wr) : wr.cell? ⟨w.heap.size, 0, none⟩ = some a ∧ wr.cell? ⟨w.heap.size, 1, none⟩ = some b ∧ wr.cell? ⟨w.heap.size, 2, none⟩ = some c ∧ wr.cell? ⟨w.heap.size, 3, none⟩ = some d ∧ wr.cell? ⟨w.heap.size, 4, none⟩ = some e := by
  have h1 := (Below.block h w.heap.size (by simp)).trans (heap_alloc_new w (.cells #[a, b, c, d, e] t))
  refine ⟨?_, ?_, ?_, ?_, ?_⟩ <;> simp [World.cell?, h1]

set_option maxHeartbeats 1000000 in
set_option maxRecDepth 100000 in
theorem linkTextE_any (L : LinkD) (v : Value) (w : World) (hv : RdLink w v L) (hs : L.Small) :
    Calls Tryd.prog 5 #[v] w fun e w' => e = .returned (.tuple #[.string (textV (linkE L) L), .int .i64 (linkE L)]) ∧ Below w.heap.size w w' := by
  have HR := Lib.hid (fun W (hb : Below w.heap.size w W) => checkLink_any L v W (hv.below hb) hs)
  have HT := Lib.hid (fun W (hb : Below w.heap.size w W) => linkText_any L v W (hv.below hb) hs (by have := small_text hs; omega))
  obtain ⟨z, hz⟩ : ∃ z, linkE L = z := ⟨_, rfl⟩
  rw [hz] at HR ⊢
  have HV : Hid (z = 0 → textV z L = linkS L) := Lib.hid (fun h => if_pos h)
  have HV2 : Hid (z ≠ 0 → textV z L = ⟨#[]⟩) := Lib.hid (fun h => if_neg h)
  generalize textV z L = tx at *
  obtain ⟨A1, A2, A3, A4, c1, c2, c3, c4, h⟩ := hv
  have hval := h.val
  clear h hz hs
  have HB0 := Lib.hid (BoxAt.new w (.cells #[.string L.step, .slice A1 L.cmd.length c1, .slice A2 L.mats.length c2, .slice A3 L.prods.length c3, .slice A4 L.sigs.length c4] 26))
  subst hval
  by_cases hz0 : z = 0
  · subst hz0
    have HV := Lib.hid (HV.out rfl)
    go_enter Tryd.func5, Tryd.ntmps5
    go_wp2_with fail
    refine (HR.out _ HB0.out.below).mono ?_
    rintro e w1 ⟨rfl, hb⟩
    have HB1 := Lib.hid (HB0.out.trans hb)
    obtain ⟨k0, k1, k2, k3, k4⟩ := box5 HB1.out
    clear hb
    go_wp2_with fail
    refine (HT.out _ HB1.out.below).mono ?_
    rintro e w2 ⟨rfl, hb⟩
    have HB2 := Lib.hid (HB1.out.trans hb)
    clear hb
    go_wp2
    refine bodyPost_ret (v := .tuple #[.string (linkS L), .int .i64 0]) (by simp [results, Tryd.results5, go_sem]) rfl ?_
    exact ⟨by simp [HV.out], HB2.out.below⟩
  · have hne : (z != 0) = true := by simpa using hz0
    have HV := Lib.hid (HV2.out hz0)
    go_enter Tryd.func5, Tryd.ntmps5
    go_wp2_with fail
    refine (HR.out _ HB0.out.below).mono ?_
    rintro e w1 ⟨rfl, hb⟩
    have HB1 := Lib.hid (HB0.out.trans hb)
    clear hb
    go_wp2
    refine bodyPost_ret (v := .tuple #[.string ⟨#[]⟩, .int .i64 z]) (by simp [results, Tryd.results5, go_sem]) rfl ?_
    exact ⟨by rw [HV.out], HB1.out.below⟩

set_option maxHeartbeats 1000000 in
set_option maxRecDepth 100000 in
theorem linkTextE8_any (L : LinkD) (v : Value) (w : World) (hv : RdLink w v L) (hs : L.Small) :
    Calls Tryd.prog 6 #[v] w fun e w' => e = .returned (.tuple #[.string (textV (linkE L) L), .int .i64 (linkE L)]) ∧ Below w.heap.size w w' := by
  have HR := Lib.hid (fun W (hb : Below w.heap.size w W) => checkLink8_any L v W (hv.below hb) hs)
  have HT := Lib.hid (fun W (hb : Below w.heap.size w W) => linkText8_any L v W (hv.below hb) hs (by have := small_text hs; omega))
  obtain ⟨z, hz⟩ : ∃ z, linkE L = z := ⟨_, rfl⟩
  rw [hz] at HR ⊢
  have HV : Hid (z = 0 → textV z L = linkS L) := Lib.hid (fun h => if_pos h)
  have HV2 : Hid (z ≠ 0 → textV z L = ⟨#[]⟩) := Lib.hid (fun h => if_neg h)
  generalize textV z L = tx at *
  obtain ⟨A1, A2, A3, A4, c1, c2, c3, c4, h⟩ := hv
  have hval := h.val
  clear h hz hs
  have HB0 := Lib.hid (BoxAt.new w (.cells #[.string L.step, .slice A1 L.cmd.length c1, .slice A2 L.mats.length c2, .slice A3 L.prods.length c3, .slice A4 L.sigs.length c4] 26))
  subst hval
  by_cases hz0 : z = 0
  · subst hz0
    have HV := Lib.hid (HV.out rfl)
    go_enter Tryd.func6, Tryd.ntmps6
    go_wp2_with fail
    refine (HR.out _ HB0.out.below).mono ?_
    rintro e w1 ⟨rfl, hb⟩
    have HB1 := Lib.hid (HB0.out.trans hb)
    obtain ⟨k0, k1, k2, k3, k4⟩ := box5 HB1.out
    clear hb
    go_wp2_with fail
    refine (HT.out _ HB1.out.below).mono ?_
    rintro e w2 ⟨rfl, hb⟩
    have HB2 := Lib.hid (HB1.out.trans hb)
    clear hb
    go_wp2
    refine bodyPost_ret (v := .tuple #[.string (linkS L), .int .i64 0]) (by simp [results, Tryd.results6, go_sem]) rfl ?_
    exact ⟨by simp [HV.out], HB2.out.below⟩
  · have hne : (z != 0) = true := by simpa using hz0
    have HV := Lib.hid (HV2.out hz0)
    go_enter Tryd.func6, Tryd.ntmps6
    go_wp2_with fail
    refine (HR.out _ HB0.out.below).mono ?_
    rintro e w1 ⟨rfl, hb⟩
    have HB1 := Lib.hid (HB0.out.trans hb)
    clear hb
    go_wp2
    refine bodyPost_ret (v := .tuple #[.string ⟨#[]⟩, .int .i64 z]) (by simp [results, Tryd.results6, go_sem]) rfl ?_
    exact ⟨by rw [HV.out], HB1.out.below⟩
end Go.Proofs.YtnidamdfdlkoiaaDoor.A
