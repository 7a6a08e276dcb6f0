/- Sign. -/
import Derived.Test.YtnidamdfdlkoiaaDoorC1
namespace Go.Proofs.YtnidamdfdlkoiaaDoor.A
open Go.RowKit

/-- two boxes of three and of two cells, one behind the other -/
def TwoAt (b : Nat) (x y z : Value) (t1 : TypeId) (u v : Value) (t2 : TypeId) (W : World) : Prop := W.heap[b]? = some (.cells #[x, y, z] t1) ∧ W.heap[b + 1]? = some (.cells #[u, v] t2)
section
variable {b : Nat} {x y z u v : Value} {t1 t2 : TypeId} {w W w1 : World}
theorem TwoAt.new (w : World) : TwoAt w.heap.size x y z t1 u v t2 ((w.alloc (.cells #[x, y, z] t1)).alloc (.cells #[u, v] t2)) := by
  refine ⟨?_, ?_⟩
  · rw [heap_alloc_old _ _ (by simp), heap_alloc_new]
  · have := heap_alloc_new (w.alloc (.cells #[x, y, z] t1)) (.cells #[u, v] t2)
    simpa using this
theorem TwoAt.lt (h : TwoAt b x y z t1 u v t2 W) : b + 1 < W.heap.size := (Array.getElem?_eq_some_iff.1 h.2).1
theorem TwoAt.keep (h : TwoAt b x y z t1 u v t2 W) (hb : Below W.heap.size W w1) : TwoAt b x y z t1 u v t2 w1 :=
  ⟨(hb.block b (by have := h.lt; omega)).trans h.1, (hb.block (b + 1) h.lt).trans h.2⟩
theorem TwoAt.drew (h : TwoAt b x y z t1 u v t2 W) : TwoAt b x y z t1 u v t2 W.drew := h
theorem TwoAt.box (h : TwoAt b x y z t1 u v t2 W) : W.cell? ⟨b, 0, none⟩ = some x ∧ W.cell? ⟨b, 1, none⟩ = some y ∧ W.cell? ⟨b, 2, none⟩ = some z := by
  have h1 := h.1
  refine ⟨?_, ?_, ?_⟩ <;> simp [World.cell?, h1]
theorem TwoAt.res (h : TwoAt b x y z t1 u v t2 W) : (W.cell? ⟨b + 1, 0, none⟩ = some u ∧ W.cell? ⟨b + 1, 1, none⟩ = some v) ∧ (W.frozen? ⟨b + 1, 0, none⟩ = false ∧ W.frozen? ⟨b + 1, 1, none⟩ = false) := by
  have h1 := h.2
  refine ⟨⟨?_, ?_⟩, ⟨?_, ?_⟩⟩ <;> simp [World.cell?, World.frozen?, h1]
theorem two_below (w : World) : Below w.heap.size w ((w.alloc (.cells #[x, y, z] t1)).alloc (.cells #[u, v] t2)) := ((Below.refl w.heap.size w).alloc (Nat.le_refl _) _).alloc (by simp) _
end

set_option maxHeartbeats 4000000 in
set_option maxRecDepth 100000 in
theorem signature8_any (K : KeyD) (t : ByteArray) (w : World) (hK : K.Small) (ht : t.size ≤ 1000000) :
    Calls Tryd.prog 52 #[K.val, .string t] w fun e w' => e = .returned (.agg #[.string K.name, .string (sigS K t)]) ∧ Below w.heap.size w w' := by
  have hz : (K.pub ++ kNl ++ t).size ≤ maxLen := by have := hK.pub; unfold szB at this; rw [ByteArray.size_append, ByteArray.size_append]; unfold maxLen; have : kNl.size = 1 := rfl; omega
  have HC := Lib.hid (fun W => sum8_any (K.pub ++ kNl ++ t) W hz)
  have hadd : ∀ W : World, (Op.stringOp .add K.pub ⟨#[10]⟩).run Tryd.prog W = .ok (.string (K.pub ++ ⟨#[10]⟩)) W := fun W => run_string_add_sum W _ _ (by have := hK.pub; unfold szB at this; have : (⟨#[10]⟩ : ByteArray).size = 1 := rfl; omega)
  have hadd2 : ∀ W : World, (Op.stringOp .add (K.pub ++ ⟨#[10]⟩) t).run Tryd.prog W = .ok (.string (K.pub ++ ⟨#[10]⟩ ++ t)) W := fun W => run_string_add_sum W _ _ (by have := hK.pub; unfold szB at this; rw [ByteArray.size_append]; have : (⟨#[10]⟩ : ByteArray).size = 1 := rfl; omega)
  clear hz hK
  unfold KeyD.val
  go_enter Tryd.func52, Tryd.ntmps52
  go_wp2_with fail
  first | go_region_with (go_at_call 71; refine (HC.out _).mono ?_; rintro e w1 ⟨rfl, hb⟩; obtain ⟨⟨k0, k2⟩, ⟨r0, r1⟩, ⟨f0, f1⟩, hb⟩ := two_boxes hb; have HB := Lib.hid hb; clear hb) | fail
  all_goals go_wp2
  all_goals
    refine bodyPost_ret (v := .agg #[.string K.name, .string (sumS (K.pub ++ kNl ++ t))]) (by simp [results, Tryd.results52, go_sem]; go_simp) rfl ?_
    exact ⟨rfl, (HB.out.setCell (by simp) _).setCell (by simp) _⟩

/-- what signing gives: z is the error -/
def signV (z : Int) (K : KeyD) (t : ByteArray) : Value := if z = 0 then .agg #[.string K.name, .string (sigS K t)] else .agg #[.string ⟨#[]⟩, .string ⟨#[]⟩]
theorem signV_ok (K : KeyD) (t : ByteArray) : signV 0 K t = .agg #[.string K.name, .string (sigS K t)] := if_pos rfl
theorem signV_no {z : Int} (K : KeyD) (t : ByteArray) (h : z ≠ 0) : signV z K t = .agg #[.string ⟨#[]⟩, .string ⟨#[]⟩] := if_neg h
theorem keyE_le {K : KeyD} {n : Nat} {sec : Bool} (h : keyE K n sec = 0) : n ≤ 1000000 := by
  unfold keyE at h
  split at h
  · simp at h
  · split at h
    · simp at h
    · split at h
      · simp at h
      · split at h
        · simp at h
        · omega
theorem ret_two {a b c : Value} (h : a = b) : Ending.returned (.tuple #[a, c]) = .returned (.tuple #[b, c]) := by rw [h]

set_option maxHeartbeats 4000000 in
set_option maxRecDepth 100000 in
theorem sign_any (K : KeyD) (t : ByteArray) (w : World) (hK : K.Small) (ht : t.size ≤ maxLen) (hT : Tab w) :
    Calls Tryd.prog 19 #[K.val, .string t] w fun e w' => e = .returned (.tuple #[signV (keyE K t.size true) K t, .int .i64 (keyE K t.size true)]) ∧ Below w.heap.size w w' := by
  have HE := Lib.hid (fun W (hb : Below w.heap.size w W) => checkKey_any K t true W hK ht (hT.below hb))
  have HC := Lib.hid (fun W (hb : Below w.heap.size w W) h => signature_any K t W hK (keyE_le (K := K) (sec := true) h) (hT.below hb))
  have HT2 := Lib.hid (TwoAt.new (x := .string K.name) (y := .string K.secret) (z := .string K.pub) (t1 := 28) (u := .string ⟨#[]⟩) (v := .string ⟨#[]⟩) (t2 := 47) w)
  have HB0 := Lib.hid (two_below (x := .string K.name) (y := .string K.secret) (z := .string K.pub) (t1 := 28) (u := .string ⟨#[]⟩) (v := .string ⟨#[]⟩) (t2 := 47) w)
  obtain ⟨z, hz⟩ : ∃ z, keyE K t.size true = z := ⟨_, rfl⟩
  rw [hz] at HE ⊢
  have HZ := Lib.hid hz
  clear hz hK ht hT
  unfold KeyD.val at *
  by_cases hz0 : z = 0
  · subst hz0
    have HC := Lib.hid (fun W hb => HC.out W hb HZ.out)
    rw [signV_ok]
    go_enter Tryd.func19, Tryd.ntmps19
    go_wp2_with fail
    refine (HE.out _ HB0.out).mono ?_
    rintro e w1 ⟨rfl, hb⟩
    have HT3 := Lib.hid (HT2.out.keep hb)
    have HB1 := Lib.hid (HB0.out.trans (hb.mono HB0.out.size))
    obtain ⟨k0, k1, k2⟩ := HT3.out.box
    clear hb
    go_wp2_with fail
    refine (HC.out _ HB1.out).mono ?_
    rintro e w2 ⟨rfl, hb⟩
    have HT4 := Lib.hid (HT3.out.keep hb)
    have HB2 := Lib.hid (HB1.out.trans (hb.mono HB1.out.size))
    obtain ⟨⟨r0, r1⟩, ⟨f0, f1⟩⟩ := HT4.out.res
    clear hb k0 k1 k2
    go_wp2
    refine bodyPost_ret (v := .tuple #[.agg #[.string K.name, .string (sigS K t)], .int .i64 0]) (by simp [results, Tryd.results19, go_sem]; go_simp) rfl ?_
    exact ⟨rfl, (HB2.out.setCell (by simp) _).setCell (by simp) _⟩
  · have hne : (z != 0) = true := by simpa using hz0
    rw [signV_no K t hz0]
    clear HC
    go_enter Tryd.func19, Tryd.ntmps19
    go_wp2_with fail
    refine (HE.out _ HB0.out).mono ?_
    rintro e w1 ⟨rfl, hb⟩
    have HT3 := Lib.hid (HT2.out.keep hb)
    have HB1 := Lib.hid (HB0.out.trans (hb.mono HB0.out.size))
    obtain ⟨⟨r0, r1⟩, ⟨f0, f1⟩⟩ := HT3.out.res
    clear hb
    go_wp2
    refine bodyPost_ret (v := .tuple #[.agg #[.string ⟨#[]⟩, .string ⟨#[]⟩], .int .i64 z]) (by simp [results, Tryd.results19, go_sem]; go_simp) rfl ?_
    exact ⟨rfl, (HB1.out.setCell (by simp) _).setCell (by simp) _⟩
end Go.Proofs.YtnidamdfdlkoiaaDoor.A
