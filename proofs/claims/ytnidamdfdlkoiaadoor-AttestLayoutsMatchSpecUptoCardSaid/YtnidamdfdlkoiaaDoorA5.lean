/- A number in base 16, as the library writes it. -/
import Derived.Test.YtnidamdfdlkoiaaDoorA4
namespace Go.Proofs.YtnidamdfdlkoiaaDoor.A
open Go.RowKit

/-- the one place of the library's table that base 16 reads -/
def Tab (w : World) : Prop := w.cell? ⟨2, 15, none⟩ = some (.int .u8 4)
theorem Tab.below {w w' : World} (h : Tab w) (hb : Below w.heap.size w w') : Tab w' := (hb.cell (block_lt_of_cell h)).trans h

set_option maxHeartbeats 400000 in
theorem trailing16 (w : World) (h : Tab w) : Calls Tryd.prog 98 #[.int .u64 16] w fun e w' => e = .returned (.int .i64 4) ∧ w = w' := by
  unfold Tab at h
  have hx : IntKind.u64.wrap (Go.bits .and .u64 16 (IntKind.u64.wrap (-16)) * 285870213051353865) / 288230376151711744 = 15 := by decide +kernel
  go_enter Tryd.func98, Tryd.ntmps98
  go_wp2
  go_ret
  exact ⟨rfl, rfl⟩

set_option maxHeartbeats 400000 in
theorem trailing (w : World) (h : Tab w) : Calls Tryd.prog 92 #[.int .u64 16] w fun e w' => e = .returned (.int .i64 4) ∧ w = w' := by
  have HC := Lib.hid (trailing16 w h)
  clear h
  go_enter Tryd.func92, Tryd.ntmps92
  go_wp2_with (go_at_call 98; refine HC.out.mono ?_; rintro e w' ⟨rfl, rfl⟩)
  go_ret
  exact ⟨rfl, rfl⟩

set_option maxHeartbeats 400000 in
theorem power16 (w : World) : Calls Tryd.prog 91 #[.int .i64 16] w fun e w' => e = .returned (.bool true) ∧ w = w' := by
  go_enter Tryd.func91, Tryd.ntmps91
  go_wp2
  go_ret
  exact ⟨rfl, rfl⟩

def hex36 : ByteArray := ⟨#[48, 49, 50, 51, 52, 53, 54, 55, 56, 57, 97, 98, 99, 100, 101, 102, 103, 104, 105, 106, 107, 108, 109, 110, 111, 112, 113, 114, 115, 116, 117, 118, 119, 120, 121, 122]⟩
theorem dig36_at (d : Nat) : ∀ h : d < (⟨#[48, 49, 50, 51, 52, 53, 54, 55, 56, 57, 97, 98, 99, 100, 101, 102, 103, 104, 105, 106, 107, 108, 109, 110, 111, 112, 113, 114, 115, 116, 117, 118, 119, 120, 121, 122]⟩ : ByteArray).size, (⟨#[48, 49, 50, 51, 52, 53, 54, 55, 56, 57, 97, 98, 99, 100, 101, 102, 103, 104, 105, 106, 107, 108, 109, 110, 111, 112, 113, 114, 115, 116, 117, 118, 119, 120, 121, 122]⟩ : ByteArray)[d]'h = hex36.data.getD d 0 := by
  intro h
  have h2 : hex36.data.getD d 0 = hex36.data[d]'h := by rw [Array.getD_eq_getD_getElem?, Array.getElem?_eq_getElem]; rfl
  exact h2.symm
/-- j digits of n are written from the end on; m is what is left -/
def BitsAt (n : Nat) (w : World) (j m : Nat) (wr : World) : Prop :=
  ∃ cs, wr.heap[w.heap.size]? = some (.cells cs 131 (0, 0)) ∧ cs.size = 65 ∧ m = n / 16 ^ j ∧ cs.toList.drop (65 - j) = (hexN n j).map byteV ∧ Below w.heap.size w wr ∧ w.heap.size + 1 ≤ wr.heap.size
theorem size_zeros65 : Tryd.zeroCells131.size = 65 := by kernel_rfl
theorem bitsAt_start (n : Nat) (w : World) : BitsAt n w 0 n (w.alloc (.cells Tryd.zeroCells131 131)) :=
  ⟨_, heap_alloc_new w _, size_zeros65, by simp, by rw [List.drop_of_length_le (by simp [size_zeros65])]; rfl, (Below.refl _ _).alloc (Nat.le_refl _) _, by simp⟩
theorem dig36 : ∀ d, d < 16 → hex36.data.getD d 0 = dig d := by decide
theorem hexN_cons (n k : Nat) : hexN n (k + 1) = dig (n / 16 ^ k % 16) :: hexN n k := by
  induction k generalizing n with
  | zero => simp [hexN]
  | succ k ih => rw [hexN, ih, hexN, Nat.div_div_eq_div_mul, ← Nat.pow_succ']; rfl
theorem bitsAt_step {n : Nat} {w wr : World} {j m : Nat} (h : BitsAt n w j m wr) (hj : j < 65) : BitsAt n w (j + 1) (m / 16) (wr.setCell ⟨w.heap.size, 64 - j, none⟩ (byteV (dig (m % 16)))) := by
  obtain ⟨cs, hc, hz, hm, hd, hb, hsz⟩ := h
  refine ⟨cs.setIfInBounds (64 - j) (byteV (dig (m % 16))), ?_, by simpa using hz, ?_, ?_, hb.setCell (by simp) _, by simpa using hsz⟩
  · simp [World.setCell, Array.getElem?_modify, hc]
  · rw [hm, Nat.pow_succ, Nat.div_div_eq_div_mul]
  · rw [hexN_cons, List.map_cons, ← hm, ← hd, Array.toList_setIfInBounds, show 65 - (j + 1) = 64 - j from by omega]
    rw [List.drop_eq_getElem_cons (by simp; omega), List.getElem_set_self, List.drop_set_of_lt (by omega), show 64 - j + 1 = 65 - j from by omega]
theorem bitsAt_lt {n : Nat} {w wr : World} {j m : Nat} (h : BitsAt n w j m wr) (hn : (n : Int) < 18446744073709551616) (hm : 16 ≤ m) : j + 1 < 16 := by
  obtain ⟨_, _, _, e, _⟩ := h
  rcases Nat.lt_or_ge (j + 1) 16 with hlt | hge
  · exact hlt
  · have h1 : 16 * 16 ^ j ≤ n := (Nat.le_div_iff_mul_le (Nat.pos_of_ne_zero (by simp))).1 (e ▸ hm)
    have h2 : 16 ^ 16 ≤ 16 ^ (j + 1) := Nat.pow_le_pow_right (by decide) hge
    rw [Nat.pow_succ] at h2
    omega
theorem bitsAt_le {n : Nat} {w wr : World} {j m : Nat} (h : BitsAt n w j m wr) : m ≤ n := by
  obtain ⟨_, _, _, e, _⟩ := h
  rw [e]
  exact Nat.div_le_self _ _

set_option maxRecDepth 100000 in
theorem slice65 (W : World) (g j : Nat) (hj : j < 16) : (Instr.sliceAt 131 (.pointer (some ⟨g, 0, none⟩)) (some (.int .i64 ((64 - j : Nat) : Int))) none none).run Tryd.prog W = .ok (.slice (some ⟨g, 64 - j, none⟩) (j + 1) (j + 1)) W := by
  have hal : Tryd.prog.arrayLen 131 = 65 := by simp [Program.arrayLen, Tryd.underlying131]
  have hel : Tryd.prog.elem 131 = 5 := by simp [Program.elem, Tryd.underlying131]
  rw [run_sliceAt_array_l W 131 ⟨g, 0, none⟩ (by simp [Program.arrayLen, Program.elem, Tryd.underlying131]) .i64 _ (by omega) (by rw [hal]; omega), hal, hel, Tryd.sizeOf5]
  simp only [Result.andThen_ok, slicedAt, Int.toNat_natCast]
  rw [if_neg (by omega), show 65 - (64 - j) = j + 1 from by omega]
  congr 3
  unfold Addr.add
  rw [if_neg (by omega)]
  simp
/-- what is written reads as the digits -/
theorem bitsAt_text {n : Nat} {w wr : World} {j m : Nat} (h : BitsAt n w (j + 1) m wr) (hj : j < 16) : (convert 71 9 (.slice (some ⟨w.heap.size, 64 - j, none⟩) (j + 1) (j + 1))).run Tryd.prog wr = .ok (.string ⟨(hexN n (j + 1)).toArray⟩) wr := by
  obtain ⟨cs, hc, hz, hm, hd, hb, hsz⟩ := h
  have hn : strOfNums ((hexN n (j + 1)).map fun c => (c.toNat : Int)) = ⟨(hexN n (j + 1)).toArray⟩ := by
    unfold strOfNums
    simp [Function.comp_def]
  rw [← hn]
  refine run_convert_bytes_arg wr 71 5 Tryd.underlying71 Tryd.underlying5 w.heap.size (64 - j) (j + 1) (j + 1) _ (by simp [hexN_length]) (fun i hi => ?_) 9 Tryd.underlying9
  rw [cell_of_row wr _ _ cs _ _ hc]
  have h2 : (cs.toList.drop (65 - (j + 1)))[i]? = ((hexN n (j + 1)).map byteV)[i]? := by rw [hd]
  rw [List.getElem?_drop, show 65 - (j + 1) + i = 64 - j + i from by omega, Array.getElem?_toList] at h2
  rw [h2]
  have hl : i < (hexN n (j + 1)).length := by rw [hexN_length]; omega
  simp [List.getElem?_eq_getElem hl, List.getD_eq_getElem?_getD, byteV]
def TextPost (n : Nat) (w : World) (e : Ending) (w' : World) : Prop :=
  ∃ d, 1 ≤ d ∧ d ≤ 16 ∧ n < 16 ^ d ∧ e = .returned (.tuple #[.slice none 0 0, .string ⟨(hexN n d).toArray⟩]) ∧ Below w.heap.size w w'
theorem bitsAt_small {n : Nat} {w wr : World} {j m : Nat} (h : BitsAt n w (j + 1) (m / 16) wr) (hm : m < 16) : n < 16 ^ (j + 1) ∧ Below w.heap.size w wr := by
  obtain ⟨_, _, _, e, _, hb, _⟩ := h
  refine ⟨?_, hb⟩
  rw [Nat.div_eq_of_lt hm] at e
  exact (Nat.div_eq_zero_iff_lt (Nat.pos_of_ne_zero (by simp))).1 e.symm

set_option maxRecDepth 100000 in
set_option maxHeartbeats 1000000 in
theorem bits16 (n : Nat) (hn : (n : Int) < 18446744073709551616) (w : World) (h : Tab w) :
    Calls Tryd.prog 82 #[.slice none 0 0, .int .u64 n, .int .i64 16, .bool false, .bool false] w (TextPost n w) := by
  have HT := Lib.hid h
  have HN := Lib.hid hn
  clear h hn
  go_enter Tryd.func82, Tryd.ntmps82
  go_wp2_with (first
    | (go_at_call 91; refine (power16 _).mono ?_; rintro e w' ⟨rfl, rfl⟩)
    | (go_at_call 92; refine (trailing _ ?_).mono ?_; exact HT.out.below ((Below.refl _ _).alloc (Nat.le_refl _) _); rintro e w' ⟨rfl, rfl⟩))
  go_loopw [1, 13] (fun u i wr => ∃ j m : Nat, j < 16 ∧ u = .int .u64 m ∧ i = .int .i64 (65 - (j : Int)) ∧ BitsAt n w j m wr) (fun u _ _ => (intOf u).toNat)
  case atStart => exact ⟨0, n, by omega, rfl, rfl, bitsAt_start n w⟩
  case round =>
    obtain ⟨j, m, hj, rfl, rfl, HS⟩ := hrel
    have hmn := bitsAt_le HS
    have HM := Lib.hid hmn
    clear hmn
    by_cases hm : 16 ≤ m
    · have HJ := Lib.hid (bitsAt_lt HS HN.out hm)
      have HS1 := Lib.hid (bitsAt_step HS (by omega))
      have hge : decide ((16 : Int) ≤ (m : Int)) = true := by simp; omega
      obtain ⟨d, hd⟩ : ∃ d, d = m % 16 := ⟨_, rfl⟩
      have hd2 := and15 (m : Int) (by omega) (by have := HM.out; have := HN.out; omega)
      rw [Int.toNat_natCast, ← hd] at hd2
      have hd3 : d < 16 := by omega
      have hd4 := dig36_at d
      rw [dig36 d hd3] at hd4
      rw [← hd] at HS1
      clear hd
      obtain ⟨cs, hc, hz, hrest⟩ := HS
      have hcell : wr.cell? ⟨w.heap.size, 64 - j, none⟩ = some (cs[64 - j]'(by omega)) := (cell_of_row wr _ _ cs _ _ hc).trans (Array.getElem?_eq_getElem _)
      generalize cs[64 - j]'(by omega) = v0 at hcell
      have hfr : wr.frozen? ⟨w.heap.size, 64 - j, none⟩ = false := by simp [World.frozen?, hc]
      have hidx : (65 : Int) - (j : Int) - 1 = ((64 - j : Nat) : Int) := by omega
      have hi0 : decide ((64 - j : Nat) < 65) = true := by simp; omega
      clear hc hz hrest
      go_wp2
      go_roundw
      case rel => exact ⟨j + 1, m / 16, by have := HJ.out; omega, by go_num, by go_num, HS1.out⟩
      case measure => simp [intOf]; omega
    · have HS1 := Lib.hid (bitsAt_step HS (by omega))
      have hge : decide ((16 : Int) ≤ (m : Int)) = false := by simp; omega
      have hm16 : m % 16 = m := Nat.mod_eq_of_lt (by omega)
      rw [hm16] at HS1
      have hd3 : m < 16 := by omega
      have hd4 := dig36_at m
      rw [dig36 m hd3] at hd4
      obtain ⟨cs, hc, hz, hrest⟩ := HS
      have HR := Lib.hid hrest
      have hcell : wr.cell? ⟨w.heap.size, 64 - j, none⟩ = some (cs[64 - j]'(by omega)) := (cell_of_row wr _ _ cs _ _ hc).trans (Array.getElem?_eq_getElem _)
      generalize cs[64 - j]'(by omega) = v0 at hcell
      have hfr : wr.frozen? ⟨w.heap.size, 64 - j, none⟩ = false := by simp [World.frozen?, hc]
      have hidx : (65 : Int) - (j : Int) - 1 = ((64 - j : Nat) : Int) := by omega
      have hi0 : decide ((64 - j : Nat) < 65) = true := by simp; omega
      have hsl := fun W => slice65 W w.heap.size j hj
      have hcv := bitsAt_text HS1.out hj
      have HE := Lib.hid (bitsAt_small HS1.out hd3)
      clear hc hz hrest hm16
      generalize hw2 : wr.setCell ⟨w.heap.size, 64 - j, none⟩ (byteV (dig m)) = w2 at hcv HE HS1
      replace hw2 : wr.setCell ⟨w.heap.size, 64 - j, none⟩ (.int .u8 (dig m).toNat) = w2 := hw2
      go_wp2
      go_ret2
      exact ⟨j + 1, by omega, by omega, HE.out.1, rfl, HE.out.2⟩
end Go.Proofs.YtnidamdfdlkoiaaDoor.A
