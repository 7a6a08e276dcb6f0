/- The checks of sums. -/
import Derived.Test.YtnidamdfdlkoiaaDoorA2
import Derived.Laws.Rows
import Derived.Laws.Tables
import Derived.Laws.CopyOwn
namespace Go.Proofs.YtnidamdfdlkoiaaDoor.A
open Go.RowKit

/-- a digit of a sum -/
def hxB (c : UInt8) : Bool := (48 ≤ c && c ≤ 57) || (97 ≤ c && c ≤ 102)
def sumB (s : ByteArray) : Bool := s.data.toList.all hxB && decide (s.size = 16)
theorem hxB_iff (c : UInt8) : hxB c = true ↔ (48 ≤ (c.toNat : Int) ∧ (c.toNat : Int) ≤ 57) ∨ (97 ≤ (c.toNat : Int) ∧ (c.toNat : Int) ≤ 102) := by
  unfold hxB
  simp [UInt8.le_iff_toNat_le]
  omega

set_option maxHeartbeats 1000000 in
theorem isHex16 (s : ByteArray) (w : World) (hs : s.size ≤ maxLen) :
    Calls Tryd.prog 56 #[.string s, .int .i64 16] w fun e w' => e = .returned (.bool (sumB s)) ∧ w = w' := by
  unfold maxLen at hs
  go_enter Tryd.func56, Tryd.ntmps56
  go_wp2
  go_loop [5] (fun i => ∃ k : Nat, k ≤ s.size ∧ i = .int .i64 k ∧ (s.data.toList.take k).all hxB = true) (fun i => s.size - (intOf i).toNat)
  case atStart => exact ⟨0, Nat.zero_le _, rfl, rfl⟩
  case round =>
    obtain ⟨k, hk, rfl, hall⟩ := hrel
    have HA := Lib.hid hall
    clear hall
    by_cases hlt : k < s.size
    · go_wp2
      all_goals first
        | (go_ret; exact ⟨ret_bool (by
            have hn : hxB s[k] = false := by rw [← Bool.not_eq_true, hxB_iff]; simp at *; omega
            unfold sumB; rw [all_of_no s hxB k hlt hn]; rfl), rfl⟩)
        | (go_round
           case rel => exact ⟨k + 1, by omega, by go_num, by
            have hn : hxB s[k] = true := by rw [hxB_iff]; simp at *; omega
            rw [all_take_succ s hxB k hlt, HA.out, hn]; rfl⟩
           case measure => simp [intOf]; omega)
    · have HZ := Lib.hid (all_take_all s hxB k (by omega) HA.out)
      go_wp2
      all_goals
        go_ret
        exact ⟨ret_bool (by unfold sumB; rw [HZ.out]; simp only [Bool.true_and, Int.cast_ofNat_Int]; rw [Bool.eq_iff_iff]; simp; omega), rfl⟩

set_option maxHeartbeats 1000000 in
theorem isSum8_any (s : ByteArray) (w : World) (hs : s.size ≤ maxLen) :
    Calls Tryd.prog 35 #[.string s] w fun e w' => e = .returned (.bool (sumB s)) ∧ w = w' := by
  have HC := Lib.hid (isHex16 s w hs)
  clear hs
  go_enter Tryd.func35, Tryd.ntmps35
  go_wp2_with (go_at_call 56; refine HC.out.mono ?_; rintro e w' ⟨rfl, rfl⟩)
  go_ret
  exact ⟨rfl, rfl⟩

def SumPost (s : ByteArray) (w : World) (e : Ending) (w' : World) : Prop :=
  ∃ xs, e = .returned (.tuple #[.agg xs, .bool (sumB s)]) ∧ (xs.size = 16 ∧ xs.all (·.oneCell') = true) ∧ (sumB s = true → xs = (s.data.toList.map fun b => Value.int .u8 b.toNat).toArray) ∧ Below w.heap.size w w'

theorem info_sum : (Tryd.prog.info? 93).map (·.size) = some 16 := by kernel_rfl
def zeros16 : Array Value := #[.int .u8 0, .int .u8 0, .int .u8 0, .int .u8 0, .int .u8 0, .int .u8 0, .int .u8 0, .int .u8 0, .int .u8 0, .int .u8 0, .int .u8 0, .int .u8 0, .int .u8 0, .int .u8 0, .int .u8 0, .int .u8 0]
def byteV (b : UInt8) : Value := .int .u8 b.toNat
/-- what holds while the digits are copied -/
def SumAt (s : ByteArray) (w : World) (k : Nat) (wr : World) : Prop :=
  ∃ cs, wr.heap[w.heap.size + 1]? = some (.cells cs 93 (0, 0)) ∧ cs.size = 16 ∧ cs.all (·.oneCell') = true ∧ (∀ j, j < k → cs[j]? = (s.data.toList[j]?).map byteV) ∧ wr.heap[w.heap.size]? = some (.cells zeros16 93 (0, 0)) ∧ Below w.heap.size w wr ∧ w.heap.size + 2 ≤ wr.heap.size

theorem sumAt_start (s : ByteArray) (w : World) : SumAt s w 0 ((w.alloc (.cells zeros16 93)).alloc (.cells zeros16 93)) :=
  ⟨zeros16, heap_alloc2_new w _ _, rfl, by decide +kernel, fun j h => by omega, heap_alloc2_old w _ _, ((Below.refl _ _).alloc (Nat.le_refl _) _).alloc (by simp) _, by simp⟩
theorem all_set {cs : Array Value} {k : Nat} {v : Value} (h : cs.all (·.oneCell') = true) (hv : v.oneCell' = true) : (cs.setIfInBounds k v).all (·.oneCell') = true := by
  rw [Array.all_eq_true] at h ⊢
  intro i hi
  rw [Array.getElem_setIfInBounds (by simpa using hi)]
  split
  · exact hv
  · exact h i (by simpa using hi)
theorem sumAt_step {s : ByteArray} {w wr : World} {k : Nat} (h : SumAt s w k wr) (hk : k < s.size) (h16 : s.size = 16) : SumAt s w (k + 1) (wr.setCell ⟨w.heap.size + 1, k, none⟩ (byteV s[k])) := by
  obtain ⟨cs, hc, hz, h1, hp, h0, hb, hsz⟩ := h
  refine ⟨cs.setIfInBounds k (byteV s[k]), ?_, by simpa using hz, all_set h1 rfl, ?_, ?_, hb.setCell (by simp) _, by simpa using hsz⟩
  · simp [World.setCell, Array.getElem?_modify, hc]
  · intro j hj
    by_cases e : j = k
    · subst e
      rw [Array.getElem?_setIfInBounds_self_of_lt (by omega), List.getElem?_eq_getElem (by simpa using hk)]
      rfl
    · rw [Array.getElem?_setIfInBounds_ne (by omega)]
      exact hp j (by omega)
  · rw [heap_setCell_other _ _ _ _ (by simp)]
    exact h0
theorem sumAt_end {s : ByteArray} {cs : Array Value} (h16 : s.size = 16) (hz : cs.size = 16) (hp : ∀ j, j < 16 → cs[j]? = (s.data.toList[j]?).map byteV) : cs = (s.data.toList.map byteV).toArray := by
  apply Array.ext_getElem?
  intro j
  by_cases hj : j < 16
  · rw [hp j hj]; simp
  · have : s.data.toList.length = 16 := by simpa using h16
    rw [Array.getElem?_eq_none (by omega), Array.getElem?_eq_none (by simp at *; omega)]
theorem results_sum (tmps : Array Value) (w : World) (g : Nat) (cs : Array Value) (b : Bool) (h2 : tmps.getD 2 undef = .pointer (some ⟨g, 0, none⟩)) (h3 : tmps.getD 3 undef = .bool b) (hg : w.heap[g]? = some (.cells cs 93 (0, 0))) (hz : cs.size = 16) :
    (results Tryd.f54 tmps).run Tryd.prog w = .ok (.tuple #[.agg cs, .bool b]) w := by
  have h2' : tmps[2]?.getD undef = .pointer (some ⟨g, 0, none⟩) := by simpa using h2
  have h3' : tmps[3]?.getD undef = .bool b := by simpa using h3
  simp [results, Tryd.results54, h2', h3', asAddr, run_loadVar_row w g 93 93 cs (0, 0) _ hg Tryd.underlying93 rfl (by rw [hz]; kernel_rfl)]

set_option maxHeartbeats 2000000 in
theorem sumOf_any (s : ByteArray) (w : World) (hs : s.size ≤ maxLen) :
    Calls Tryd.prog 54 #[.string s] w (SumPost s w) := by
  unfold maxLen at hs
  by_cases h16 : s.size = 16
  · have h1 : ((s.size : Int) != 16) = false := by simp; omega
    have H16 := Lib.hid h16
    clear h16
    go_enter Tryd.func54, Tryd.ntmps54
    go_wp2
    go_loopw [13] (fun i wr => ∃ k : Nat, k ≤ s.size ∧ i = .int .i64 k ∧ Hid ((s.data.toList.take k).all hxB = true) ∧ SumAt s w k wr) (fun i _ => s.size - (intOf i).toNat)
    case atStart => exact ⟨0, Nat.zero_le _, rfl, rfl, sumAt_start s w⟩
    case round =>
      obtain ⟨k, hk, rfl, HA, HS⟩ := hrel
      by_cases hlt : k < s.size
      · have hk16 : k < 16 := by have := H16.out; omega
        have HN := Lib.hid (sumAt_step HS hlt H16.out)
        obtain ⟨cs, hc, hz, h1c, hp, h0, hb, hsz⟩ := HS
        have HZ := Lib.hid hz
        have H1 := Lib.hid h1c
        have HC := Lib.hid hc
        have H0 := Lib.hid h0
        have HB := Lib.hid hb
        have hcell : wr.cell? ⟨w.heap.size + 1, k, none⟩ = some (cs[k]'(by omega)) := (cell_of_row wr _ k cs _ _ hc).trans (Array.getElem?_eq_getElem _)
        generalize cs[k]'(by omega) = v0 at hcell
        have hfr : wr.frozen? ⟨w.heap.size + 1, k, none⟩ = false := by simp [World.frozen?, hc]
        clear hc hz hp h0 hb h1c
        go_wp2_with (first
          | (refine wpList_load_row rfl 93 _ rfl (w.heap.size + 1) rfl _ cs _ _ HC.out Tryd.underlying93 rfl (by rw [HZ.out]; kernel_rfl) ?_)
          | (refine wpList_store_row rfl 93 _ _ rfl w.heap.size cs rfl rfl _ zeros16 H0.out (by rw [HZ.out]; kernel_rfl) HZ.out.symm H1.out ?_))
        all_goals first
          | (refine bodyPost_ret (results_sum _ _ w.heap.size cs false rfl rfl (setRow_heap _ _ _ _ _ _ H0.out) HZ.out) rfl ?_
             have hn : hxB s[k] = false := by rw [← Bool.not_eq_true, hxB_iff]; simp at *; omega
             have hno : sumB s = false := by unfold sumB; rw [all_of_no s hxB k hlt hn]; rfl
             exact ⟨cs, by rw [hno], ⟨HZ.out, H1.out⟩, fun h => absurd (hno.symm.trans h) (by simp), below_setRow HB.out (Nat.le_refl _) _⟩)
          | (go_roundw
             case rel => exact ⟨k + 1, by omega, by go_num, by
              have hn : hxB s[k] = true := by rw [hxB_iff]; simp at *; omega
              exact Lib.hid (by rw [all_take_succ s hxB k hlt, HA.out, hn]; rfl), HN.out⟩
             case measure => simp [intOf]; omega)
      · have HY := Lib.hid (all_take_all s hxB k (by omega) HA.out)
        obtain ⟨cs, hc, hz, h1c, hp, h0, hb, hsz⟩ := HS
        have hk16 : k = 16 := by have := H16.out; omega
        have HE := Lib.hid (sumAt_end H16.out hz (fun j hj => hp j (by omega)))
        have HZ := Lib.hid hz
        have H1 := Lib.hid h1c
        have HC := Lib.hid hc
        have H0 := Lib.hid h0
        have HB := Lib.hid hb
        clear hc hz hp h0 hb h1c hk16
        go_wp2_with (first
          | (refine wpList_load_row rfl 93 _ rfl (w.heap.size + 1) rfl _ cs _ _ HC.out Tryd.underlying93 rfl (by rw [HZ.out]; kernel_rfl) ?_)
          | (refine wpList_store_row rfl 93 _ _ rfl w.heap.size cs rfl rfl _ zeros16 H0.out (by rw [HZ.out]; kernel_rfl) HZ.out.symm H1.out ?_))
        refine bodyPost_ret (results_sum _ _ w.heap.size cs true rfl rfl (setRow_heap _ _ _ _ _ _ H0.out) HZ.out) rfl ?_
        have hyes : sumB s = true := by unfold sumB; rw [HY.out, H16.out]; rfl
        exact ⟨cs, by rw [hyes], ⟨HZ.out, H1.out⟩, fun _ => HE.out, below_setRow HB.out (Nat.le_refl _) _⟩
  · have h1 : ((s.size : Int) != 16) = true := by simp; omega
    go_enter Tryd.func54, Tryd.ntmps54
    go_wp2
    have hno : sumB s = false := by unfold sumB; simp [h16]
    refine bodyPost_ret (v := .tuple #[.agg (List.replicate 16 (Value.int .u8 0)).toArray, .bool false]) (by simp [results, Tryd.results54, go_sem]) rfl ⟨_, by rw [hno], ⟨by simp, by decide +kernel⟩, ?_, ((Below.refl _ _).alloc (Nat.le_refl _) _).alloc (by simp) _⟩
    rw [hno]
    intro h
    cases h

set_option maxHeartbeats 1000000 in
theorem isSum_any (s : ByteArray) (w : World) (hs : s.size ≤ maxLen) :
    Calls Tryd.prog 29 #[.string s] w fun e w' => e = .returned (.bool (sumB s)) ∧ Below w.heap.size w w' := by
  have HC := Lib.hid (sumOf_any s w hs)
  clear hs
  go_enter Tryd.func29, Tryd.ntmps29
  go_wp2_with (first
    | (go_at_call 54; refine HC.out.mono ?_; rintro e w' ⟨xs, rfl, ⟨hz, h1⟩, _, hb⟩; have HB := Lib.hid hb; have HZ := Lib.hid hz; have H1 := Lib.hid h1; clear hb hz h1)
    | (refine wpList_store_row rfl 93 _ _ rfl w'.heap.size xs rfl rfl _ zeros16 (heap_alloc_new _ _) (by rw [HZ.out]; kernel_rfl) HZ.out.symm H1.out ?_))
  go_ret
  exact ⟨rfl, below_setRow (HB.out.alloc HB.out.size _) HB.out.size _⟩
end Go.Proofs.YtnidamdfdlkoiaaDoor.A
