/- slices.Clone at texts, artifacts and signatures. -/
import Derived.Test.YtnidamdfdlkoiaaDoorC4
import Derived.Laws.AppendOwn
import Derived.Lib.SliceRun
namespace Go.Proofs.YtnidamdfdlkoiaaDoor.A
open Go.RowKit

theorem info_str : (Tryd.prog.info? 9).map (fun i => (i.zero, i.size, i.bytes)) = some (some (.string ⟨#[]⟩), 1, 16) := by kernel_rfl
theorem info_art : (Tryd.prog.info? 53).map (fun i => (i.zero, i.size, i.bytes)) = some (some (.agg #[.string ⟨#[]⟩, .string ⟨#[]⟩]), 2, 32) := by kernel_rfl
theorem info_sig : (Tryd.prog.info? 47).map (fun i => (i.zero, i.size, i.bytes)) = some (some (.agg #[.string ⟨#[]⟩, .string ⟨#[]⟩]), 2, 32) := by kernel_rfl
/-- the cells of a list of texts, of pairs -/
def strL (l : List ByteArray) : List Value := l.map Value.string
def pairL : List (ByteArray × ByteArray) → List Value
  | [] => []
  | a :: r => .string a.1 :: .string a.2 :: pairL r
theorem strL_length (l : List ByteArray) : (strL l).length = l.length := by simp [strL]
theorem pairL_length (l : List (ByteArray × ByteArray)) : (pairL l).length = l.length * 2 := by
  induction l with
  | nil => rfl
  | cons a r ih => simp [pairL, ih]; omega
theorem pairL_append (l m : List (ByteArray × ByteArray)) : pairL (l ++ m) = pairL l ++ pairL m := by
  induction l with
  | nil => rfl
  | cons a r ih => simp [pairL, ih]
theorem pairL_get {l : List (ByteArray × ByteArray)} {k : Nat} {a : ByteArray × ByteArray} (h : l[k]? = some a) : (pairL l)[k * 2]? = some (.string a.1) ∧ (pairL l)[k * 2 + 1]? = some (.string a.2) := by
  induction l generalizing k with
  | nil => simp at h
  | cons b r ih =>
    cases k with
    | zero =>
      obtain rfl : b = a := by simpa using h
      exact ⟨rfl, rfl⟩
    | succ k =>
      have := ih (k := k) (by simpa using h)
      rw [show (k + 1) * 2 = k * 2 + 1 + 1 from by omega]
      exact this
theorem pairL_at {l : List (ByteArray × ByteArray)} {j : Nat} {u : Value} (h : (pairL l)[j]? = some u) : ∃ k a, l[k]? = some a ∧ ((j = k * 2 ∧ u = .string a.1) ∨ (j = k * 2 + 1 ∧ u = .string a.2)) := by
  have hj : j < l.length * 2 := by rw [← pairL_length]; exact (List.getElem?_eq_some_iff.1 h).1
  obtain ⟨a, ha⟩ : ∃ a, l[j / 2]? = some a := ⟨_, List.getElem?_eq_getElem (by omega)⟩
  have hg := pairL_get ha
  refine ⟨j / 2, a, ha, ?_⟩
  rcases (show j = j / 2 * 2 ∨ j = j / 2 * 2 + 1 from by omega) with e | e
  · rw [e, hg.1] at h
    exact .inl ⟨e, by injection h with h; exact h.symm⟩
  · rw [e, hg.2] at h
    exact .inr ⟨e, by injection h with h; exact h.symm⟩
theorem add_succ (ad : Addr) (m : Nat) : ad.add (m + 1) = ⟨(ad.add m).block, (ad.add m).off + 1, none⟩ := by
  unfold Addr.add
  by_cases h : m = 0
  · subst h; simp
  · rw [if_neg (by omega), if_neg h]; simp; omega
theorem strL_one {l : List ByteArray} : ∀ u ∈ strL l, u.oneCell' = true := by
  intro u hu
  obtain ⟨x, _, rfl⟩ := List.mem_map.1 hu
  rfl
theorem pairL_one {l : List (ByteArray × ByteArray)} : ∀ u ∈ pairL l, u.oneCell' = true := by
  intro u hu
  obtain ⟨j, hj, rfl⟩ := List.mem_iff_getElem.1 hu
  obtain ⟨k, a, _, h | h⟩ := pairL_at (List.getElem?_eq_getElem hj) <;> (rw [h.2]; rfl)
theorem RdS.news {w : World} {ad : Addr} {l : List ByteArray} (h : RdS w (some ad) l) : ∀ j u, (strL l)[j]? = some u → w.cell? (ad.add j) = some u := by
  intro j u hj
  unfold strL at hj
  rw [List.getElem?_map, Option.map_eq_some_iff] at hj
  obtain ⟨s, hs, rfl⟩ := hj
  obtain ⟨ad', e, hc⟩ := h j s hs
  obtain rfl : ad = ad' := by injection e
  exact hc
theorem RdA.news {w : World} {ad : Addr} {l : List (ByteArray × ByteArray)} (h : RdA w (some ad) l) : ∀ j u, (pairL l)[j]? = some u → w.cell? (ad.add j) = some u := by
  intro j u hj
  obtain ⟨k, a, ha, h1 | h1⟩ := pairL_at hj
  · obtain ⟨ad', e, hc, _⟩ := h k a ha
    obtain rfl : ad = ad' := by injection e
    rw [h1.1, h1.2, hc]
  · obtain ⟨ad', e, _, hc⟩ := h k a ha
    obtain rfl : ad = ad' := by injection e
    rw [h1.1, h1.2, add_succ, hc]
theorem cell_take {w : World} {g : Nat} {cur : Array Value} {e : TypeId} {m j : Nat} {xs : List Value} {u : Value} (hg : w.heap[g]? = some (.cells cur e (0, 0))) (ht : cur.toList.take m = xs) (hj : xs[j]? = some u) : w.cell? ⟨g, j, none⟩ = some u := by
  rw [cell_of_row w g j cur _ _ hg]
  rw [← ht, List.getElem?_take] at hj
  split at hj
  · simpa using hj
  · cases hj
theorem own_rdS {w : World} {base n : Nat} {e : TypeId} {v : Value} {l : List ByteArray} (h : w.ownsRow base e 1 v n (strL l)) (hn : n = l.length) : ∃ A c, v = .slice A l.length c ∧ RdS w A l ∧ c ≤ maxLen := by
  subst hn
  rcases h.2 with ⟨rfl, h0⟩ | ⟨g, cap, cur, rfl, _, hg, _, hm, _, ht⟩
  · obtain rfl : l = [] := List.eq_nil_of_length_eq_zero h0
    exact ⟨none, 0, rfl, fun k s hs => by simp at hs, Nat.zero_le _⟩
  · refine ⟨_, _, rfl, fun k s hs => ⟨_, rfl, ?_⟩, hm⟩
    rw [Addr.add_lit, Nat.zero_add]
    exact cell_take hg ht (by unfold strL; rw [List.getElem?_map, hs]; rfl)
theorem own_rdA {w : World} {base n : Nat} {e : TypeId} {v : Value} {l : List (ByteArray × ByteArray)} (h : w.ownsRow base e 2 v n (pairL l)) (hn : n = l.length) : ∃ A c, v = .slice A l.length c ∧ RdA w A l ∧ c ≤ maxLen := by
  subst hn
  rcases h.2 with ⟨rfl, h0⟩ | ⟨g, cap, cur, rfl, _, hg, _, hm, _, ht⟩
  · obtain rfl : l = [] := List.eq_nil_of_length_eq_zero h0
    exact ⟨none, 0, rfl, fun k s hs => by simp at hs, Nat.zero_le _⟩
  · refine ⟨_, _, rfl, fun k s hs => ⟨_, rfl, ?_, ?_⟩, hm⟩
    · rw [Addr.add_lit, Nat.zero_add]
      exact cell_take hg ht (pairL_get hs).1
    · rw [Addr.add_lit, Nat.zero_add]
      exact cell_take hg ht (pairL_get hs).2

/-- what a clone of texts, of pairs is -/
def CloneS (w : World) (l : List ByteArray) (e : Ending) (w' : World) : Prop := ∃ v, e = .returned v ∧ w'.ownsRow w.heap.size 9 1 v l.length (strL l) ∧ Below w.heap.size w w'
def CloneA (w : World) (t : TypeId) (l : List (ByteArray × ByteArray)) (e : Ending) (w' : World) : Prop := ∃ v, e = .returned v ∧ w'.ownsRow w.heap.size t 2 v l.length (pairL l) ∧ Below w.heap.size w w'

set_option maxHeartbeats 2000000 in
set_option maxRecDepth 100000 in
theorem cloneS (A : Option Addr) (c : Nat) (l : List ByteArray) (w : World) (hl : l.length ≤ 1048576) (h : RdS w A l) :
    Calls Tryd.prog 20 #[.slice A l.length c] w (CloneS w l) := by
  obtain ⟨i0, hi, hz0, hz1, hz2⟩ := info_parts info_str
  have q22 : ∀ (w : World) (a : Option Addr) (n c n' c' : Nat), (binOp .eql 22 (.slice a n c) (.slice none n' c')).run Tryd.prog w = .ok (.bool a.isNone) w := fun w a n c n' c' => Lib.run_eql_slice_nil w _ _ a n c n' c' Tryd.underlying22
  have u22 : ∀ w, Sem.run Tryd.prog (underlying 22) w = .ok (TypeDesc.slice 9) w := run_underlying Tryd.underlying22
  cases A with
  | none =>
    have h0 : l = [] := by
      cases l with
      | nil => rfl
      | cons s r => obtain ⟨ad, e, _⟩ := h 0 s rfl; cases e
    subst h0
    clear h
    go_enter Tryd.func20, Tryd.ntmps20
    go_wp2
    go_ret
    exact ⟨_, rfl, ⟨rfl, .inl ⟨rfl, rfl⟩⟩, Below.refl _ _⟩
  | some ad =>
    have HN := Lib.hid (h.news)
    have HO := Lib.hid (strL_one (l := l))
    have HL := Lib.hid (strL_length l)
    clear h
    generalize hn : l.length = n at *
    have HQ := Lib.hid hn
    clear hn
    go_enter Tryd.func20, Tryd.ntmps20
    go_wp2_with (at_builtin; refine wpList_append_own _ rfl _ _ 22 rfl w.heap.size 9 i0 (.string ⟨#[]⟩) 1 16 Tryd.underlying22 hi hz0 hz1 hz2 rfl (by decide) _ _ _ rfl (World.ownsRow_made w #[] 0 (Nat.le_refl _) (Nat.zero_le _) rfl) ad n c (strL l) rfl ?qc1 ?qc2 ?qc3 ?qc4 ?qc5 ?qc6 ?qc7)
    case qc1 => first | exact HL.out | (have := HL.out; simp at this ⊢; omega) | (have := HL.out; omega)
    case qc2 =>
      intro j u hj
      exact (World.cell?_alloc_lt w _ _ (block_lt_of_cell (HN.out j u hj))).trans (HN.out j u hj)
    case qc3 => exact HO.out
    case qc4 => unfold maxLen; omega
    case qc5 => omega
    case qc6 => simp
    intro v' w1 hown hgrow hnil
    have HW := Lib.hid hown
    have HG := Lib.hid hgrow
    clear hown hgrow hnil
    go_wp2
    go_ret
    exact ⟨v', rfl, by rw [HQ.out]; simpa using HW.out, ((Below.refl _ w).alloc (Nat.le_refl _) _).grown HG.out (by simp) (by intro k hk; simp [Value.ownBlock] at hk; omega)⟩

set_option maxHeartbeats 2000000 in
set_option maxRecDepth 100000 in
theorem cloneArt (A : Option Addr) (c : Nat) (l : List (ByteArray × ByteArray)) (w : World) (hl : l.length ≤ 1048576) (h : RdA w A l) :
    Calls Tryd.prog 21 #[.slice A l.length c] w (CloneA w 53 l) := by
  obtain ⟨i0, hi, hz0, hz1, hz2⟩ := info_parts info_art
  have q22 : ∀ (w : World) (a : Option Addr) (n c n' c' : Nat), (binOp .eql 23 (.slice a n c) (.slice none n' c')).run Tryd.prog w = .ok (.bool a.isNone) w := fun w a n c n' c' => Lib.run_eql_slice_nil w _ _ a n c n' c' Tryd.underlying23
  have u22 : ∀ w, Sem.run Tryd.prog (underlying 23) w = .ok (TypeDesc.slice 53) w := run_underlying Tryd.underlying23
  cases A with
  | none =>
    have h0 : l = [] := by
      cases l with
      | nil => rfl
      | cons s r => obtain ⟨ad, e, _⟩ := h 0 s rfl; cases e
    subst h0
    clear h
    go_enter Tryd.func21, Tryd.ntmps21
    go_wp2
    go_ret
    exact ⟨_, rfl, ⟨rfl, .inl ⟨rfl, rfl⟩⟩, Below.refl _ _⟩
  | some ad =>
    have HN := Lib.hid (h.news)
    have HO := Lib.hid (pairL_one (l := l))
    have HL := Lib.hid (pairL_length l)
    clear h
    generalize hn : l.length = n at *
    have HQ := Lib.hid hn
    clear hn
    go_enter Tryd.func21, Tryd.ntmps21
    go_wp2_with (at_builtin; refine wpList_append_own _ rfl _ _ 23 rfl w.heap.size 53 i0 (.agg #[.string ⟨#[]⟩, .string ⟨#[]⟩]) 2 32 Tryd.underlying23 hi hz0 hz1 hz2 rfl (by decide) _ _ _ rfl (World.ownsRow_made w #[] 0 (Nat.le_refl _) (Nat.zero_le _) rfl) ad n c (pairL l) rfl ?qc1 ?qc2 ?qc3 ?qc4 ?qc5 ?qc6 ?qc7)
    case qc1 => first | exact HL.out | (have := HL.out; simp at this ⊢; omega) | (have := HL.out; omega)
    case qc2 =>
      intro j u hj
      exact (World.cell?_alloc_lt w _ _ (block_lt_of_cell (HN.out j u hj))).trans (HN.out j u hj)
    case qc3 => exact HO.out
    case qc4 => unfold maxLen; omega
    case qc5 => omega
    case qc6 => simp
    intro v' w1 hown hgrow hnil
    have HW := Lib.hid hown
    have HG := Lib.hid hgrow
    clear hown hgrow hnil
    go_wp2
    go_ret
    exact ⟨v', rfl, by rw [HQ.out]; simpa using HW.out, ((Below.refl _ w).alloc (Nat.le_refl _) _).grown HG.out (by simp) (by intro k hk; simp [Value.ownBlock] at hk; omega)⟩

set_option maxHeartbeats 2000000 in
set_option maxRecDepth 100000 in
theorem cloneSig (A : Option Addr) (c : Nat) (l : List (ByteArray × ByteArray)) (w : World) (hl : l.length ≤ 1048576) (h : RdA w A l) :
    Calls Tryd.prog 22 #[.slice A l.length c] w (CloneA w 47 l) := by
  obtain ⟨i0, hi, hz0, hz1, hz2⟩ := info_parts info_sig
  have q22 : ∀ (w : World) (a : Option Addr) (n c n' c' : Nat), (binOp .eql 24 (.slice a n c) (.slice none n' c')).run Tryd.prog w = .ok (.bool a.isNone) w := fun w a n c n' c' => Lib.run_eql_slice_nil w _ _ a n c n' c' Tryd.underlying24
  have u22 : ∀ w, Sem.run Tryd.prog (underlying 24) w = .ok (TypeDesc.slice 47) w := run_underlying Tryd.underlying24
  cases A with
  | none =>
    have h0 : l = [] := by
      cases l with
      | nil => rfl
      | cons s r => obtain ⟨ad, e, _⟩ := h 0 s rfl; cases e
    subst h0
    clear h
    go_enter Tryd.func22, Tryd.ntmps22
    go_wp2
    go_ret
    exact ⟨_, rfl, ⟨rfl, .inl ⟨rfl, rfl⟩⟩, Below.refl _ _⟩
  | some ad =>
    have HN := Lib.hid (h.news)
    have HO := Lib.hid (pairL_one (l := l))
    have HL := Lib.hid (pairL_length l)
    clear h
    generalize hn : l.length = n at *
    have HQ := Lib.hid hn
    clear hn
    go_enter Tryd.func22, Tryd.ntmps22
    go_wp2_with (at_builtin; refine wpList_append_own _ rfl _ _ 24 rfl w.heap.size 47 i0 (.agg #[.string ⟨#[]⟩, .string ⟨#[]⟩]) 2 32 Tryd.underlying24 hi hz0 hz1 hz2 rfl (by decide) _ _ _ rfl (World.ownsRow_made w #[] 0 (Nat.le_refl _) (Nat.zero_le _) rfl) ad n c (pairL l) rfl ?qc1 ?qc2 ?qc3 ?qc4 ?qc5 ?qc6 ?qc7)
    case qc1 => first | exact HL.out | (have := HL.out; simp at this ⊢; omega) | (have := HL.out; omega)
    case qc2 =>
      intro j u hj
      exact (World.cell?_alloc_lt w _ _ (block_lt_of_cell (HN.out j u hj))).trans (HN.out j u hj)
    case qc3 => exact HO.out
    case qc4 => unfold maxLen; omega
    case qc5 => omega
    case qc6 => simp
    intro v' w1 hown hgrow hnil
    have HW := Lib.hid hown
    have HG := Lib.hid hgrow
    clear hown hgrow hnil
    go_wp2
    go_ret
    exact ⟨v', rfl, by rw [HQ.out]; simpa using HW.out, ((Below.refl _ w).alloc (Nat.le_refl _) _).grown HG.out (by simp) (by intro k hk; simp [Value.ownBlock] at hk; omega)⟩
end Go.Proofs.YtnidamdfdlkoiaaDoor.A
