/- Keys: equal of two sums. -/
import Derived.Test.YtnidamdfdlkoiaaDoorB6
import Derived.Stop.BytesEq
namespace Go.Proofs.YtnidamdfdlkoiaaDoor.A
open Go.RowKit

/-- two texts are the same sum -/
def eqB (a b : ByteArray) : Bool := sumB a && sumB b && (a.data.toList == b.data.toList)
theorem eqB_left {a b : ByteArray} (h : sumB a = false) : eqB a b = false := by simp [eqB, h]
theorem eqB_right {a b : ByteArray} (h : sumB b = false) : eqB a b = false := by simp [eqB, h]
theorem eqB_both {a b : ByteArray} (h : sumB a = true) (h2 : sumB b = true) : eqB a b = (a.data.toList == b.data.toList) := by simp [eqB, h, h2]
theorem sum_len {a : ByteArray} (h : sumB a = true) : a.data.toList.length = 16 := by
  unfold sumB at h
  have := (Bool.and_eq_true_iff.1 h).2
  simpa using this
set_option maxRecDepth 100000 in
theorem eql_sums (a b : ByteArray) (ha : sumB a = true) (hb : sumB b = true) (w : World) :
    (binOp .eql 93 (.agg (a.data.toList.map byteV).toArray) (.agg (b.data.toList.map byteV).toArray)).run Tryd.prog w = .ok (.bool (a.data.toList == b.data.toList)) w :=
  run_eql_bytes w 93 5 16 Tryd.underlying93 Tryd.underlying5 (fun w => by kernel_rfl) _ _ (sum_len ha) (sum_len hb)

/-- what the box of a sum holds, behind a call -/
theorem sum_keep {w1 w2 : World} {o cs xs : _} (h : (w1.alloc (.cells o 93)).heap[w1.heap.size]? = some (.cells cs 93 (0, 0))) (hb : Below ((w1.alloc (.cells o 93)).setRow w1.heap.size xs).heap.size ((w1.alloc (.cells o 93)).setRow w1.heap.size xs) w2) :
    w2.heap[w1.heap.size]? = some (.cells xs 93 (0, 0)) ∧ w1.heap.size < w2.heap.size := by
  have hs : ((w1.alloc (.cells o 93)).setRow w1.heap.size xs).heap.size = w1.heap.size + 1 := by simp [World.setRow]
  exact ⟨(hb.block _ (by rw [hs]; omega)).trans (setRow_heap _ _ _ _ _ _ h), by have := hb.size; rw [hs] at this; omega⟩
theorem sum_below {B : Nat} {w w1 w2 : World} {o xs : _} (h : Below B w w1) (hB : B ≤ w1.heap.size) (hb : Below ((w1.alloc (.cells o 93)).setRow w1.heap.size xs).heap.size ((w1.alloc (.cells o 93)).setRow w1.heap.size xs) w2) : Below B w w2 := by
  have hs : ((w1.alloc (.cells o 93)).setRow w1.heap.size xs).heap.size = w1.heap.size + 1 := by simp [World.setRow]
  exact (below_setRow (h.alloc hB _) hB _).trans (hb.mono (by rw [hs]; omega))

set_option maxHeartbeats 1000000 in
set_option maxRecDepth 100000 in
theorem equal_any (s t : ByteArray) (w : World) (hs : s.size ≤ maxLen) (ht : t.size ≤ maxLen) :
    Calls Tryd.prog 69 #[.string s, .string t] w fun e w' => e = .returned (.bool (eqB s t)) ∧ Below w.heap.size w w' := by
  have HC := Lib.hid (sumOf_any s w hs)
  have HD := Lib.hid (fun W => sumOf_any t W ht)
  clear hs ht
  go_enter Tryd.func69, Tryd.ntmps69
  go_wp2_with fail
  refine HC.out.mono ?_
  rintro e w1 ⟨xs, rfl, ⟨hz, h1⟩, hx, hb⟩
  have HB := Lib.hid hb
  have HZ := Lib.hid hz
  have H1 := Lib.hid h1
  have HX := Lib.hid hx
  clear hb hz h1 hx
  go_wp2_with (refine wpList_store_row rfl 93 _ _ rfl w1.heap.size xs rfl rfl _ zeros16 (heap_alloc_new _ _) (by rw [HZ.out]; kernel_rfl) HZ.out.symm H1.out ?_)
  refine (HD.out _).mono ?_
  rintro e w2 ⟨ys, rfl, ⟨hz, h1⟩, hx, hb⟩
  have HK := Lib.hid (sum_keep (heap_alloc_new _ _) hb)
  have HB2 := Lib.hid (sum_below HB.out HB.out.size hb)
  have HZ2 := Lib.hid hz
  have H12 := Lib.hid h1
  have HX2 := Lib.hid hx
  have HL2 := Lib.hid ((heap_alloc_old w2 (.cells zeros16 93) HK.out.2).trans HK.out.1)
  have HR2 := Lib.hid ((setRow_other (w2.alloc (.cells zeros16 93)) w2.heap.size w1.heap.size ys (by have := HK.out.2; omega)).trans HL2.out)
  have HN2 := Lib.hid (setRow_heap _ _ _ ys _ _ (heap_alloc_new w2 (.cells zeros16 93)))
  clear hb hz h1 hx
  cases ha : sumB s with
  | false =>
    have HE := Lib.hid (eqB_left (b := t) ha)
    clear ha
    go_wp2_with (refine wpList_store_row rfl 93 _ _ rfl w2.heap.size ys rfl rfl _ zeros16 (heap_alloc_new _ _) (by rw [HZ2.out]; kernel_rfl) HZ2.out.symm H12.out ?_)
    go_ret
    exact ⟨ret_bool HE.out.symm, below_setRow (HB2.out.alloc HB2.out.size _) HB2.out.size _⟩
  | true =>
    cases hb : sumB t with
    | false =>
      have HE := Lib.hid (eqB_right (a := s) hb)
      clear ha hb
      go_wp2_with (refine wpList_store_row rfl 93 _ _ rfl w2.heap.size ys rfl rfl _ zeros16 (heap_alloc_new _ _) (by rw [HZ2.out]; kernel_rfl) HZ2.out.symm H12.out ?_)
      go_ret
      exact ⟨ret_bool HE.out.symm, below_setRow (HB2.out.alloc HB2.out.size _) HB2.out.size _⟩
    | true =>
      have HE := Lib.hid (eqB_both ha hb)
      have HQ := eql_sums s t ha hb
      have hxs : xs = (s.data.toList.map byteV).toArray := HX.out ha
      have hys : ys = (t.data.toList.map byteV).toArray := HX2.out hb
      subst hxs
      subst hys
      clear ha hb
      go_wp2_with (first
        | (refine wpList_store_row rfl 93 _ _ rfl w2.heap.size (t.data.toList.map byteV).toArray rfl rfl _ zeros16 (heap_alloc_new _ _) (by rw [HZ2.out]; kernel_rfl) HZ2.out.symm H12.out ?_)
        | (refine BigFrame.wpList_want (by rfl) fun K hK => wp_load_row 93 _ rfl w1.heap.size rfl _ (s.data.toList.map byteV).toArray _ _ HR2.out Tryd.underlying93 rfl (by rw [HZ.out]; kernel_rfl) (hK _ _ ?_))
        | (refine BigFrame.wpList_want (by rfl) fun K hK => wp_load_row 93 _ rfl w2.heap.size rfl _ (t.data.toList.map byteV).toArray _ _ HN2.out Tryd.underlying93 rfl (by rw [HZ2.out]; kernel_rfl) (hK _ _ ?_)))
      go_ret
      exact ⟨ret_bool (by rw [HE.out, Bool.eq_iff_iff]; simp), below_setRow (HB2.out.alloc HB2.out.size _) HB2.out.size _⟩
end Go.Proofs.YtnidamdfdlkoiaaDoor.A
