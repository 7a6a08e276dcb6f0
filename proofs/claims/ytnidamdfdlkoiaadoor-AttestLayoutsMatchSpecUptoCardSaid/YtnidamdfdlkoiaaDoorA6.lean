/- The program's Sum64 returns the reference's. -/
import Derived.Test.YtnidamdfdlkoiaaDoorA5
import Derived.Test.YtnidamdfdlkoiaaDoorShelf
import Derived.Lib.Repeat
namespace Go.Proofs.YtnidamdfdlkoiaaDoor.A
open Go.RowKit

def StrPost (n : Nat) (w : World) (e : Ending) (w' : World) : Prop :=
  ∃ d, 1 ≤ d ∧ d ≤ 16 ∧ n < 16 ^ d ∧ e = .returned (.string ⟨(hexN n d).toArray⟩) ∧ Below w.heap.size w w'

set_option maxRecDepth 100000 in
set_option maxHeartbeats 400000 in
theorem format16i (n : Nat) (hn : (n : Int) < 18446744073709551616) (w : World) (h : Tab w) :
    Calls Tryd.prog 83 #[.int .u64 n, .int .i64 16] w (StrPost n w) := by
  have HC := Lib.hid (bits16 n hn w h)
  clear hn h
  go_enter Tryd.func83, Tryd.ntmps83
  go_wp2_with (go_at_call 82; refine HC.out.mono ?_; rintro e w' ⟨d, h1, h2, h3, rfl, hb⟩; have HB := Lib.hid hb; have H3 := Lib.hid h3; clear hb h3)
  go_ret
  exact ⟨d, h1, h2, H3.out, rfl, HB.out⟩

set_option maxHeartbeats 400000 in
theorem format16 (n : Nat) (hn : (n : Int) < 18446744073709551616) (w : World) (h : Tab w) :
    Calls Tryd.prog 77 #[.int .u64 n, .int .i64 16] w (StrPost n w) := by
  have HC := Lib.hid (format16i n hn w h)
  clear hn h
  go_enter Tryd.func77, Tryd.ntmps77
  go_wp2_with (go_at_call 83; refine HC.out.mono ?_; rintro e w' ⟨d, h1, h2, h3, rfl, hb⟩; have HB := Lib.hid hb; have H3 := Lib.hid h3; clear hb h3)
  go_ret
  exact ⟨d, h1, h2, H3.out, rfl, HB.out⟩

theorem hexN_zero (k : Nat) : hexN 0 k = List.replicate k 48 := by
  induction k with
  | zero => rfl
  | succ k ih => rw [hexN, Nat.zero_div, ih, List.replicate_succ']; rfl
theorem hexN_pad (n d e : Nat) (h : n < 16 ^ d) : hexN n (e + d) = List.replicate e 48 ++ hexN n d := by
  induction d generalizing n with
  | zero =>
    have h0 : n = 0 := by simp at h; omega
    subst h0
    simp [hexN_zero, hexN]
  | succ d ih =>
    rw [← Nat.add_assoc, hexN, ih (n / 16) (by rw [Nat.div_lt_iff_lt_mul (by decide)]; rw [Nat.pow_succ] at h; exact h), hexN, List.append_assoc]
theorem repeat_zero (c : Nat) : Lib.repeatL [48] c = List.replicate c 48 := by
  induction c with
  | zero => rfl
  | succ c ih => rw [Lib.repeatL, ih]; rfl
theorem pad16 {n d : Nat} (h1 : d ≤ 16) (h : n < 16 ^ d) : Lib.repeatL [48] (16 - d) ++ hexN n d = hexN n 16 := by
  rw [repeat_zero, ← hexN_pad n d _ h, Nat.sub_add_cancel h1]
theorem ba_append (a b : List UInt8) : (⟨a.toArray⟩ : ByteArray) ++ ⟨b.toArray⟩ = ⟨(a ++ b).toArray⟩ := by
  apply ByteArray.ext
  simp [ByteArray.data_append]

set_option maxRecDepth 100000 in
set_option maxHeartbeats 1000000 in
theorem sum64_any (s : ByteArray) (w : World) (hs : s.size ≤ maxLen) (h : Tab w) :
    Calls Tryd.prog 70 #[.string s] w fun e w' => e = .returned (.string (sumS s)) ∧ Below w.heap.size w w' := by
  unfold maxLen at hs
  have HT := Lib.hid h
  clear h
  go_enter Tryd.func70, Tryd.ntmps70
  go_wp2
  go_loop [3, 8] (fun h i => ∃ k : Nat, k ≤ s.size ∧ i = .int .i64 k ∧ ∃ q, h = .int .u64 q ∧ Hid (q = fnvI (s.data.toList.take k))) (fun _ i => s.size - (intOf i).toNat)
  case atStart => exact ⟨0, Nat.zero_le _, rfl, _, rfl, rfl⟩
  case round =>
    obtain ⟨k, hk, rfl, q, rfl, HQ⟩ := hrel
    by_cases hlt : k < s.size
    · go_wp2
      go_round
      case rel => exact ⟨k + 1, by omega, by go_num, _, rfl, Lib.hid (by rw [HQ.out, take_get s k hlt, fnvI_snoc]; rfl)⟩
      case measure => simp [intOf]; omega
    · have hr := fnvI_range (s.data.toList.take k)
      rw [← HQ.out] at hr
      obtain ⟨n, rfl⟩ := Int.eq_ofNat_of_zero_le hr.1
      have HR := Lib.hid hr.2
      clear hr
      go_wp2_with fail
      refine (format16 n HR.out _ HT.out).mono ?_
      rintro e w1 ⟨d, h1, h2, h3, rfl, hb⟩
      have HB := Lib.hid hb
      have H3 := Lib.hid h3
      clear hb h3
      have hsz : (⟨(hexN n d).toArray⟩ : ByteArray).size = d := by rw [ByteArray.size]; simp [hexN_length]
      generalize hy : (⟨(hexN n d).toArray⟩ : ByteArray) = y at hsz ⊢
      have HY := Lib.hid hy
      have hsz2 : (16 : Int) - (y.size : Int) = ((16 - d : Nat) : Int) := by rw [hsz]; omega
      have hx : y.size ≤ 16 := by omega
      have hx2 : (⟨(Lib.repeatL [48] (16 - d)).toArray⟩ : ByteArray).size + y.size ≤ 9223372036854775807 := by
        rw [show (⟨(Lib.repeatL [48] (16 - d)).toArray⟩ : ByteArray).size = (Lib.repeatL [48] (16 - d)).length from by rw [ByteArray.size]; simp, repeat_zero, List.length_replicate]; omega
      have HF : Hid ((⟨(Lib.repeatL [48] (16 - d)).toArray⟩ : ByteArray) ++ y = sumS s) := by
        rw [← HY.out, ba_append, pad16 h2 H3.out]
        unfold sumS sumL
        rw [← Int.toNat_natCast n]
        have := HQ.out
        rw [List.take_of_length_le (by simp; omega)] at this
        rw [← this]
        exact Lib.hid rfl
      clear hsz hy
      go_wp2_with fail
      refine (Tryd.strings_Repeat ⟨#[48]⟩ (16 - d) _ (by omega) (by simp [ByteArray.size]; omega)).mono ?_
      rintro e w2 ⟨rfl, hb2⟩
      have HB2 := Lib.hid hb2
      clear hb2
      generalize hz : (⟨(Lib.repeatL (⟨#[48]⟩ : ByteArray).data.toList (16 - d)).toArray⟩ : ByteArray) = z at *
      go_wp2
      go_ret
      refine ⟨?_, HB.out.trans (HB2.out.mono HB.out.size)⟩
      exact congrArg (fun b => Ending.returned (.string b)) HF.out
end Go.Proofs.YtnidamdfdlkoiaaDoor.A
