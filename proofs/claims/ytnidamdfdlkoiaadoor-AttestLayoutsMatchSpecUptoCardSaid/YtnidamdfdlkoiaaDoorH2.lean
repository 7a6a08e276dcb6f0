/- A builder's WriteString leaves what is no row of bytes as it was; a text that is being written behind other blocks; numbers in texts. -/
import Derived.Test.YtnidamdfdlkoiaaDoorH1
namespace Go.Proofs.YtnidamdfdlkoiaaDoor.A
open Go.RowKit Go.Sort

/-- block X is no row of bytes -/
def NoBytes (X : Nat) (w : World) : Prop := ∃ cs t fr, w.heap[X]? = some (.cells cs t fr) ∧ t ≠ 5
theorem NoBytes.lt {X : Nat} {w : World} (h : NoBytes X w) : X < w.heap.size := by obtain ⟨_, _, _, h, _⟩ := h; exact (Array.getElem?_eq_some_iff.1 h).1
theorem NoBytes.row {X : Nat} {w : World} {base n : Nat} {v : Value} {xs : List Value} (h : NoBytes X w) (ho : w.ownsRow base 5 1 v n xs) : v.ownBlock ≠ some X := by
  obtain ⟨cs, t, fr, hx, ht⟩ := h
  intro e
  rcases ho.2 with ⟨rfl, _⟩ | ⟨g, cap, cur, rfl, _, hg, _⟩
  · simp [Value.ownBlock] at e
  · obtain rfl : g = X := by simpa [Value.ownBlock] using e
    rw [hx] at hg
    injection hg with hg
    injection hg with _ h2 _
    exact ht h2
theorem copyCheck_all (B b : Nat) (bs : List Value) (w : World) (h : Lib.IsBuilder 73 5 B b bs w) :
    Calls Tryd.prog 58 #[.pointer (some ⟨b, 0, none⟩)] w fun e w' => e = .returned (.tuple #[]) ∧ (Lib.BuilderAt 73 5 B b (.pointer (some ⟨b, 0, none⟩)) bs w' ∧ Below B w w') ∧ ∀ X, X ≠ b → w'.heap[X]? = w.heap[X]? := by
  rcases h with h | h
  · refine (copyCheck_fresh b w h.cell0 h.shape h.frozen0).mono ?_
    rintro e w' ⟨rfl, rfl⟩
    exact ⟨rfl, ⟨h.used _, (Below.refl B w).setCell (p := ⟨b, 0, none⟩) h.1 _⟩, fun X hX => heap_setCell_other _ _ _ _ hX⟩
  · refine (copyCheck_used b w h.cell0).mono ?_
    rintro e w' ⟨rfl, rfl⟩
    exact ⟨rfl, ⟨h, Below.refl B _⟩, fun X _ => rfl⟩

set_option maxHeartbeats 1000000 in
set_option maxRecDepth 100000 in
theorem write_all (B b : Nat) (l : List UInt8) (s : ByteArray) (w : World) (h : Bld B b l w) (hlen : l.length + s.size ≤ 140737488355328) (hBw : B ≤ w.heap.size) :
    Calls Tryd.prog 41 #[.pointer (some ⟨b, 0, none⟩), .string s] w fun e w' => e = .returned (.tuple #[.int .i64 s.size, .nilIface]) ∧ Bld B b (l ++ s.data.toList) w' ∧ Below B w w' ∧ ∀ X, X ≠ b → NoBytes X w → w'.heap[X]? = w.heap[X]? := by
  obtain ⟨i0, hi, hz0, hz1, hz2⟩ := info_parts info_u8
  have HCC := Lib.hid (copyCheck_all B b _ w h)
  clear h
  have hbl : (Lib.byteCells l).length = l.length := by simp [Lib.byteCells]
  go_enter Tryd.func41, Tryd.ntmps41
  go_wp2_with (go_at_call 58; refine HCC.out.mono ?_)
  rintro e w1 ⟨rfl, ⟨h1, hb1⟩, hx1⟩
  have HX1 := Lib.hid hx1
  clear hx1
  obtain ⟨hB, v, hbk, hown, hne⟩ := h1
  have c0 : w1.cell? ⟨b, 0, none⟩ = some (.pointer (some ⟨b, 0, none⟩)) := by rw [Lib.cell_of_heap hbk]; rfl
  have c1 : w1.cell? ⟨b, 1, none⟩ = some v := by rw [Lib.cell_of_heap hbk]; rfl
  go_wp2_with (at_builtin; refine Lib.wpList_append_own_string _ rfl _ _ 71 9 rfl B 5 i0 Tryd.underlying71 Tryd.underlying9 hi hz0 hz1 hz2 _ _ _ rfl hown s rfl ?c3 ?c4 ?c5 ?_)
  case c3 => rw [hbl]; unfold maxLen; omega
  case c4 => rw [hbl]; omega
  case c5 => have := hb1.size; omega
  intro v' w2 hown' hgrow _
  have hlt : b < w1.heap.size := by
    rcases Nat.lt_or_ge b w1.heap.size with h' | h'
    · exact h'
    · simp [Array.getElem?_eq_none h'] at hbk
  have hb2 : w2.heap[b]? = some (.cells #[.pointer (some ⟨b, 0, none⟩), v] 73 (0, 0)) := by
    rw [hgrow.block b hlt (fun e => hne e.symm)]
    exact hbk
  have d0 : w2.cell? ⟨b, 0, none⟩ = some (.pointer (some ⟨b, 0, none⟩)) := by rw [Lib.cell_of_heap hb2]; rfl
  have d1 : w2.cell? ⟨b, 1, none⟩ = some v := by rw [Lib.cell_of_heap hb2]; rfl
  have f1 : w2.frozen? ⟨b, 1, none⟩ = false := Lib.frozen_of_heap hb2 1
  obtain ⟨ao, n', cap, rfl⟩ : ∃ ao n' cap, v' = .slice ao n' cap := by
    rcases hown'.2 with ⟨hv, _⟩ | ⟨g, cap, cur, hv, _⟩
    · exact ⟨_, _, _, hv⟩
    · exact ⟨_, _, _, hv⟩
  go_wp2
  go_ret2
  refine ⟨rfl, ?_, ?_, ?_⟩
  · refine Or.inr (Lib.BuilderAt.put (T := 73) (e := 5) hB hb2 (bs' := Lib.byteCells (l ++ s.data.toList)) ?_ (by decide))
    have e : Lib.byteCells (l ++ s.data.toList) = Lib.byteCells l ++ Lib.strCells s := by simp [Lib.byteCells, Lib.strCells]
    rw [e, List.length_append, hbl, show (Lib.strCells s).length = s.size from by simp [Lib.strCells]]
    exact hown'
  · exact (hb1.grown hgrow (by have := hb1.size; omega) (fun k hk => (hown.lt k hk).1)).setCell (p := ⟨b, 1, none⟩) hB _
  · intro X hX hN
    have e1 := HX1.out X hX
    have hN1 : NoBytes X w1 := by obtain ⟨cs, t, fr, hx, ht⟩ := hN; exact ⟨cs, t, fr, e1.trans hx, ht⟩
    exact (heap_setCell_other _ _ _ _ hX).trans ((hgrow.block X hN1.lt (fun e => hN1.row hown e.symm)).trans e1)

theorem Bld.later {B b : Nat} {l : List UInt8} {w w1 : World} (h : Bld B b l w) (hb : Below w.heap.size w w1) : Bld B b l w1 := by
  rcases h with h | h
  · obtain ⟨hB, v, hk, ho, hn⟩ := h
    exact Or.inl ⟨hB, v, (hb.block b (lt_of_block hk)).trans hk, own_below ho hb, hn⟩
  · obtain ⟨hB, v, hk, ho, hn⟩ := h
    exact Or.inr ⟨hB, v, (hb.block b (lt_of_block hk)).trans hk, own_below ho hb, hn⟩
/-- a text is being written, by a builder that was laid in world W0 -/
structure TxtG (W0 : World) (l : List UInt8) (wr : World) : Prop where
  bld : Bld W0.heap.size W0.heap.size l wr
  below : Below W0.heap.size W0 wr
section
variable {W0 wr w2 : World} {l l' : List UInt8} {g : Nat} {o : Obj}
theorem TxtG.new (W0 : World) : TxtG W0 [] (W0.alloc (.cells #[.pointer none, .slice none 0 0] 73)) := ⟨bld_new W0, (Below.refl _ _).alloc (Nat.le_refl _) _⟩
theorem TxtG.lt (h : TxtG W0 l wr) : W0.heap.size < wr.heap.size := h.bld.lt
theorem TxtG.later (h : TxtG W0 l wr) (hb : Below wr.heap.size wr w2) : TxtG W0 l w2 := ⟨h.bld.later hb, h.below.trans (hb.mono (Nat.le_of_lt h.lt))⟩
theorem TxtG.alloc (h : TxtG W0 l wr) (o : Obj) : TxtG W0 l (wr.alloc o) := h.later ((Below.refl _ _).alloc (Nat.le_refl _) _)
theorem TxtG.drew (h : TxtG W0 l wr) : TxtG W0 l wr.drew := h.later (Below.refl _ _).drew
theorem TxtG.old (h : TxtG W0 l wr) (hf : FiveAt g o W0) : FiveAt g o wr := hf.keep h.below
theorem TxtG.write (h : TxtG W0 l wr) (s : ByteArray) (he : l ++ s.data.toList = l') (hl : l'.length ≤ 140737488355328) :
    Calls Tryd.prog 41 #[.pointer (some ⟨W0.heap.size, 0, none⟩), .string s] wr fun e w' => e = .returned (.tuple #[.int .i64 s.size, .nilIface]) ∧ TxtG W0 l' w' ∧ ∀ X cs t, X ≠ W0.heap.size → t ≠ 5 → FiveAt X (.cells cs t) wr → FiveAt X (.cells cs t) w' := by
  subst he
  exact (write_all _ _ l s wr h.bld (by simpa using hl) (Nat.le_of_lt h.lt)).mono fun e w' ⟨he, hb, hB, hx⟩ => ⟨he, ⟨hb, h.below.trans hB⟩, fun X cs t hX ht hf => (hx X hX ⟨cs, t, (0, 0), hf, ht⟩).trans hf⟩
theorem TxtG.text (h : TxtG W0 l wr) :
    Calls Tryd.prog 44 #[.pointer (some ⟨W0.heap.size, 0, none⟩)] wr fun e w' => e = .returned (.string ⟨l.toArray⟩) ∧ Below W0.heap.size W0 w' :=
  (string_any _ _ l wr h.bld (Nat.le_of_lt h.lt)).mono fun e w' ⟨he, hB⟩ => ⟨he, h.below.trans hB⟩
end

/-- the table of powers lies -/
def Pow (w : World) : Prop := Lib.TabIs Tryd.prog w "internal/strconv.uint64pow10" .u64 Lib.pow10Tab
theorem gPow : Tryd.prog.globalNamed "internal/strconv.uint64pow10" = some 0 := by kernel_rfl
theorem Pow.below {w w' : World} (h : Pow w) (hb : Below w.heap.size w w') : Pow w' := by
  unfold Pow Lib.TabIs at *
  unfold World.var? at h ⊢
  rw [gPow] at h ⊢
  simp only [Option.bind_some] at h ⊢
  have hlt : 0 < w.heap.size := by
    rcases Nat.lt_or_ge 0 w.heap.size with h' | h'
    · exact h'
    · rw [Array.getElem?_eq_none h'] at h; cases h
  rw [hb.block _ hlt]; exact h
theorem grow_below (w : World) (os : Array Obj) : Below w.heap.size w (grow w os) := by
  refine ⟨rfl, rfl, rfl, by simp [grow], fun k hk => ?_⟩
  simp only [grow]
  rw [Array.getElem?_append_left hk]
theorem itoa_any (n : Int) (h0 : -9223372036854775808 ≤ n) (h1 : n ≤ 9223372036854775807) (w : World) (hp : Pow w) :
    Calls Tryd.prog 42 #[.int .i64 n] w fun e w' => e = .returned (.string (itoaB n)) ∧ Below w.heap.size w w' :=
  (Tryd.strconv_Itoa n h0 h1 w hp).mono fun e w' ⟨he, k, os, hw⟩ => ⟨he, by
    subst hw
    have := grow_below (w.drewN k) os
    have hs : (w.drewN k).heap.size = w.heap.size := rfl
    rw [hs] at this
    exact (below_drewN (Below.refl _ w) k).trans this⟩
end Go.Proofs.YtnidamdfdlkoiaaDoor.A
