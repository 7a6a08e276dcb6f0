/- The sums: what the reference's and the program's Sum64 return. -/
import Derived.Test.YtnidamdfdlkoiaaDoorA3
import Derived.Laws.AppendOwn
import Derived.Laws.BytesArg
import Derived.Laws.BytesString
import Derived.OwnWalk
import Derived.Laws.BitsLemmas
import Derived.Laws.Shifts
import Derived.Maps.AppendAt
namespace Go.Proofs.YtnidamdfdlkoiaaDoor.A
open Go.RowKit

/-- one step of the sum, as the code says it; the sum of bytes -/
def fnv1 (h : Int) (c : UInt8) : Int := IntKind.u64.wrap (Go.bits .xor .u64 h (IntKind.u64.wrap (c.toNat : Int)) * 1099511628211)
def fnvI (l : List UInt8) : Int := l.foldl fnv1 14695981039346656037
/-- k digits of a number, the highest first -/
def hexC : ByteArray := ⟨#[48, 49, 50, 51, 52, 53, 54, 55, 56, 57, 97, 98, 99, 100, 101, 102]⟩
def dig (n : Nat) : UInt8 := hexC.data.getD n 0
def hexN (n : Nat) : Nat → List UInt8
  | 0 => []
  | k + 1 => hexN (n / 16) k ++ [dig (n % 16)]
def sumL (l : List UInt8) : List UInt8 := hexN (fnvI l).toNat 16
def sumS (s : ByteArray) : ByteArray := ⟨(sumL s.data.toList).toArray⟩

theorem fnvI_snoc (l : List UInt8) (c : UInt8) : fnvI (l ++ [c]) = fnv1 (fnvI l) c := by unfold fnvI; rw [List.foldl_append]; rfl

theorem take_get (s : ByteArray) (k : Nat) (h : k < s.size) : s.data.toList.take (k + 1) = s.data.toList.take k ++ [s[k]] := by
  rw [List.take_succ_eq_append_getElem (by simpa using h)]; rfl

theorem dig_at (d : Nat) : ∀ h : d < (⟨#[48, 49, 50, 51, 52, 53, 54, 55, 56, 57, 97, 98, 99, 100, 101, 102]⟩ : ByteArray).size, (⟨#[48, 49, 50, 51, 52, 53, 54, 55, 56, 57, 97, 98, 99, 100, 101, 102]⟩ : ByteArray)[d]'h = dig d := by
  intro h
  have h2 : hexC.data.getD d 0 = hexC.data[d]'h := by rw [Array.getD_eq_getD_getElem?, Array.getElem?_eq_getElem]; rfl
  exact h2.symm
theorem fnv1_range (h : Int) (c : UInt8) : 0 ≤ fnv1 h c ∧ fnv1 h c < 18446744073709551616 := by
  unfold fnv1
  generalize Go.bits .xor .u64 h (IntKind.u64.wrap (c.toNat : Int)) * 1099511628211 = z
  simp [IntKind.wrap, IntKind.signed, IntKind.bits]
  omega
theorem fnvI_range (l : List UInt8) : 0 ≤ fnvI l ∧ fnvI l < 18446744073709551616 := by
  rcases List.eq_nil_or_concat l with rfl | ⟨l, c, rfl⟩
  · decide
  · rw [List.concat_eq_append, fnvI_snoc]; exact fnv1_range _ _
theorem and15 (z : Int) (h0 : 0 ≤ z) (h1 : z < 18446744073709551616) : Go.bits .and .u64 z 15 = ((z.toNat % 16 : Nat) : Int) := by
  rw [u64_and z 15 h0 h1 (by omega) (by omega)]
  congr 1
  exact Nat.and_two_pow_sub_one_eq_mod _ 4
theorem div16 (q : Int) (h0 : 0 ≤ q) (e : Nat) : (q / 2 ^ (4 * e)).toNat = q.toNat / 16 ^ e := by
  obtain ⟨n, rfl⟩ := Int.eq_ofNat_of_zero_le h0
  rw [show ((2 : Int) ^ (4 * e)) = ((16 ^ e : Nat) : Int) from by rw [Int.pow_mul]; norm_cast]
  rw [← Int.natCast_ediv, Int.toNat_natCast, Int.toNat_natCast]
theorem hexN_length (n k : Nat) : (hexN n k).length = k := by induction k generalizing n with
  | zero => rfl
  | succ k ih => simp [hexN, ih]
theorem info_u8 : (Tryd.prog.info? 5).map (fun i => (i.zero, i.size, i.bytes)) = some (some (.int .u8 0), 1, 1) := by kernel_rfl
theorem own_bytes {P : Program} {w : World} {base : Nat} {e' src dst e : TypeId} {v : Value} {l : List UInt8} (hs : P.underlying src = some (.slice e)) (he : P.underlying e = some (.int .u8)) (hd : P.underlying dst = some .string)
    (h : w.ownsRow base e' 1 v l.length (l.map byteV)) : (convert src dst v).run P w = .ok (.string ⟨l.toArray⟩) w := by
  have hn : strOfNums (l.map fun c => (c.toNat : Int)) = ⟨l.toArray⟩ := by
    unfold strOfNums
    simp [Function.comp_def]
  rcases h.2 with ⟨rfl, h0⟩ | ⟨g, cap, cur, rfl, _⟩
  · obtain rfl : l = [] := List.eq_nil_of_length_eq_zero h0
    exact run_convert_bytes_nil w src e hs he 0 0 dst hd
  · rw [← hn]
    refine run_convert_bytes_arg w src e hs he g 0 l.length cap _ (by simp) (fun i hi => ?_) dst hd
    have hc := h.cells (g := g) rfl i (byteV (l[i])) (by simp [List.getElem?_eq_getElem hi])
    have ha : (⟨g, 0, none⟩ : Addr).add i = ⟨g, 0 + i, none⟩ := by unfold Addr.add; split <;> simp_all
    rw [ha] at hc
    rw [hc]
    simp [byteV, List.getD_eq_getElem?_getD, List.getElem?_eq_getElem hi]
theorem own_base {w : World} {base : Nat} {e : TypeId} {size n : Nat} {v : Value} {xs : List Value} (h : w.ownsRow base e size v n xs) : ∀ k, v.ownBlock = some k → base ≤ k := by
  intro k hk
  rcases h.2 with ⟨rfl, _⟩ | ⟨g, cap, cur, rfl, hb, _⟩
  · simp [Value.ownBlock] at hk
  · simp [Value.ownBlock] at hk; omega
theorem hexN_step (n j : Nat) (h : j < 16) : hexN (n / 16 ^ (16 - (j + 1))) (j + 1) = hexN (n / 16 ^ (16 - j)) j ++ [dig ((n / 16 ^ (15 - j)) % 16)] := by
  rw [show 16 - (j + 1) = 15 - j from by omega, show 16 - j = (15 - j) + 1 from by omega]
  rw [hexN, Nat.pow_succ, Nat.div_div_eq_div_mul]

set_option maxRecDepth 100000 in
set_option maxHeartbeats 1000000 in
theorem sum8_any (s : ByteArray) (w : World) (hs : s.size ≤ maxLen) :
    Calls Tryd.prog 71 #[.string s] w fun e w' => e = .returned (.string (sumS s)) ∧ Below w.heap.size w w' := by
  unfold maxLen at hs
  go_enter Tryd.func71, Tryd.ntmps71
  go_wp2
  go_loop [3, 4] (fun h i => ∃ k : Nat, k ≤ s.size ∧ i = .int .i64 k ∧ ∃ q, h = .int .u64 q ∧ Hid (q = fnvI (s.data.toList.take k))) (fun _ i => s.size - (intOf i).toNat)
  case atStart => exact ⟨0, Nat.zero_le _, rfl, _, rfl, rfl⟩
  case round =>
    obtain ⟨k, hk, rfl, q, rfl, HQ⟩ := hrel
    by_cases hlt : k < s.size
    · go_wp2
      go_round
      case rel => exact ⟨k + 1, by omega, by go_num, _, rfl, Lib.hid (by rw [HQ.out, take_get s k hlt, fnvI_snoc]; rfl)⟩
      case measure => simp [intOf]; omega
    · go_wp2
      go_loopw [5, 6] (fun v i wr => ∃ j : Nat, j ≤ 16 ∧ i = .int .i64 (60 - 4 * (j : Int)) ∧ Hid (wr.ownsRow w.heap.size 5 1 v j ((hexN (q.toNat / 16 ^ (16 - j)) j).map byteV)) ∧ Hid (Below w.heap.size w wr)) (fun _ i _ => (intOf i + 4).toNat)
      case atStart => exact ⟨0, by omega, rfl, Lib.hid ⟨by simp [hexN], .inl ⟨rfl, rfl⟩⟩, Lib.hid (Below.refl _ _)⟩
      case round =>
        obtain ⟨j, hj, rfl, HO, HB⟩ := hrel
        by_cases hjl : j < 16
        · have hr := fnvI_range (s.data.toList.take k)
          rw [← HQ.out] at hr
          have HR := Lib.hid hr
          have hz0 : 0 ≤ q / 2 ^ (60 - 4 * j) := Int.ediv_nonneg hr.1 (Int.pow_nonneg (by decide))
          have hz1 : q / 2 ^ (60 - 4 * j) < 18446744073709551616 := by have := Int.ediv_le_self (2 ^ (60 - 4 * j)) hr.1; omega
          obtain ⟨d, hd⟩ : ∃ d, d = (q / 2 ^ (60 - 4 * j)).toNat % 16 := ⟨_, rfl⟩
          have hd2 := and15 _ hz0 hz1
          rw [← hd] at hd2
          have hd3 : d < 16 := by omega
          have hd4 := dig_at d
          have HD := Lib.hid hd
          clear hd hz0 hz1 hr
          have hj4 : 4 * (j : Int) ≤ 60 := by omega
          obtain ⟨i0, hi, hz0, hz1, hz2⟩ := info_parts info_u8
          go_wp2_with (at_builtin; refine wpList_append_own _ rfl _ _ 71 rfl w.heap.size 5 i0 (.int .u8 0) 1 1 Tryd.underlying71 hi hz0 hz1 hz2 rfl (by decide) _ j _ rfl (HO.out.alloc _) ⟨wr.heap.size, 0, none⟩ 1 1 [byteV (dig d)] rfl rfl (cell_one_new _ _ _) ?c2 ?c3 ?c4 ?c5 ?_; (case c2 => intro u hu; simp at hu; subst hu; rfl); (case c3 => unfold maxLen; omega); (case c4 => omega); (case c5 => have := HB.out.size; simp; omega); intro v1 w1 hown1 hg1 hn1; have HO1 := Lib.hid hown1; have HG1 := Lib.hid hg1; clear hown1 hg1 hn1)
          go_roundw
          case rel =>
            refine ⟨j + 1, by omega, by go_num, ?_, ((HB.out.alloc HB.out.size _).grown HG1.out (by have := HB.out.size; simp; omega) (own_base HO.out))⟩
            have h2 := HD.out
            rw [show 60 - 4 * j = 4 * (15 - j) from by omega, div16 _ HR.out.1] at h2
            rw [hexN_step _ _ hjl, List.map_append, ← h2]
            exact HO1.out
          case measure => simp [intOf]; omega
        · have hj16 : j = 16 := by omega
          subst hj16
          have hcv := own_bytes (P := Tryd.prog) Tryd.underlying71 Tryd.underlying5 Tryd.underlying9 (l := hexN (q.toNat / 16 ^ (16 - 16)) 16) (by rw [hexN_length]; exact HO.out)
          have hres : (⟨(hexN (q.toNat / 16 ^ (16 - 16)) 16).toArray⟩ : ByteArray) = sumS s := by
            unfold sumS sumL
            rw [HQ.out, List.take_of_length_le (by simp; omega)]
            simp
          rw [hres] at hcv
          clear hres
          go_wp2
          go_ret
          exact ⟨rfl, HB.out⟩
end Go.Proofs.YtnidamdfdlkoiaaDoor.A
