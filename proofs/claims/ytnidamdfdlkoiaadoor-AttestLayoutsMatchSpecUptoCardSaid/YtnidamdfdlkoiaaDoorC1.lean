/- Signatures. -/
import Derived.Test.YtnidamdfdlkoiaaDoorB8
namespace Go.Proofs.YtnidamdfdlkoiaaDoor.A
open Go.RowKit

/-- the signature of a text -/
def sigS (K : KeyD) (t : ByteArray) : ByteArray := sumS (K.pub ++ kNl ++ t)
section
variable {w w1 : World} {x y z u v : Value} {t1 t2 : TypeId}
/-- what two boxes hold, behind a call -/
theorem two_boxes (hb : Below (((w.alloc (.cells #[x, y, z] t1)).alloc (.cells #[u, v] t2)).drew).heap.size (((w.alloc (.cells #[x, y, z] t1)).alloc (.cells #[u, v] t2)).drew) w1) :
    (w1.cell? ⟨w.heap.size, 0, none⟩ = some x ∧ w1.cell? ⟨w.heap.size, 2, none⟩ = some z) ∧ (w1.cell? ⟨w.heap.size + 1, 0, none⟩ = some u ∧ w1.cell? ⟨w.heap.size + 1, 1, none⟩ = some v) ∧
    (w1.frozen? ⟨w.heap.size + 1, 0, none⟩ = false ∧ w1.frozen? ⟨w.heap.size + 1, 1, none⟩ = false) ∧ Below w.heap.size w w1 := by
  have hs : (((w.alloc (.cells #[x, y, z] t1)).alloc (.cells #[u, v] t2)).drew).heap.size = w.heap.size + 2 := by simp
  have h0 := hb.block w.heap.size (by rw [hs]; omega)
  have h1 := hb.block (w.heap.size + 1) (by rw [hs]; omega)
  have e0 : (((w.alloc (.cells #[x, y, z] t1)).alloc (.cells #[u, v] t2)).drew).heap[w.heap.size]? = some (.cells #[x, y, z] t1) := by
    show ((w.alloc (.cells #[x, y, z] t1)).alloc (.cells #[u, v] t2)).heap[w.heap.size]? = _
    rw [heap_alloc_old _ _ (by simp), heap_alloc_new]
  have e1 : (((w.alloc (.cells #[x, y, z] t1)).alloc (.cells #[u, v] t2)).drew).heap[w.heap.size + 1]? = some (.cells #[u, v] t2) := by
    show ((w.alloc (.cells #[x, y, z] t1)).alloc (.cells #[u, v] t2)).heap[w.heap.size + 1]? = _
    have := heap_alloc_new (w.alloc (.cells #[x, y, z] t1)) (.cells #[u, v] t2)
    simpa using this
  rw [e0] at h0
  rw [e1] at h1
  refine ⟨⟨?_, ?_⟩, ⟨?_, ?_⟩, ⟨?_, ?_⟩, ?_⟩
  · simp [World.cell?, h0]
  · simp [World.cell?, h0]
  · simp [World.cell?, h1]
  · simp [World.cell?, h1]
  · simp [World.frozen?, h1]
  · simp [World.frozen?, h1]
  · exact (((Below.refl w.heap.size w).alloc (Nat.le_refl _) _).alloc (by simp) _).drew.trans (hb.mono (by rw [hs]; omega))
end

set_option maxHeartbeats 4000000 in
set_option maxRecDepth 100000 in
theorem signature_any (K : KeyD) (t : ByteArray) (w : World) (hK : K.Small) (ht : t.size ≤ 1000000) (hT : Tab w) :
    Calls Tryd.prog 50 #[K.val, .string t] w fun e w' => e = .returned (.agg #[.string K.name, .string (sigS K t)]) ∧ Below w.heap.size w w' := by
  have hz : (K.pub ++ kNl ++ t).size ≤ maxLen := by have := hK.pub; unfold szB at this; rw [ByteArray.size_append, ByteArray.size_append]; unfold maxLen; have : kNl.size = 1 := rfl; omega
  have HC := Lib.hid (fun W (hb : Below w.heap.size w W) => sum64_any (K.pub ++ kNl ++ t) W hz (hT.below hb))
  have hadd : ∀ W : World, (Op.stringOp .add K.pub ⟨#[10]⟩).run Tryd.prog W = .ok (.string (K.pub ++ ⟨#[10]⟩)) W := fun W => run_string_add_sum W _ _ (by have := hK.pub; unfold szB at this; have : (⟨#[10]⟩ : ByteArray).size = 1 := rfl; omega)
  have hadd2 : ∀ W : World, (Op.stringOp .add (K.pub ++ ⟨#[10]⟩) t).run Tryd.prog W = .ok (.string (K.pub ++ ⟨#[10]⟩ ++ t)) W := fun W => run_string_add_sum W _ _ (by have := hK.pub; unfold szB at this; rw [ByteArray.size_append]; have : (⟨#[10]⟩ : ByteArray).size = 1 := rfl; omega)
  have HB0 := Lib.hid ((((Below.refl w.heap.size w).alloc (Nat.le_refl _) (.cells #[.string K.name, .string K.secret, .string K.pub] 28)).alloc (by simp) (.cells #[.string ⟨#[]⟩, .string ⟨#[]⟩] 47)).drew)
  clear hz hT hK
  unfold KeyD.val
  go_enter Tryd.func50, Tryd.ntmps50
  go_wp2_with fail
  first | go_region_with (go_at_call 70; refine (HC.out _ HB0.out).mono ?_; rintro e w1 ⟨rfl, hb⟩; obtain ⟨⟨k0, k2⟩, ⟨r0, r1⟩, ⟨f0, f1⟩, hb⟩ := two_boxes hb; have HB := Lib.hid hb; clear hb) | fail
  all_goals go_wp2
  all_goals
    refine bodyPost_ret (v := .agg #[.string K.name, .string (sumS (K.pub ++ kNl ++ t))]) (by simp [results, Tryd.results50, go_sem]; go_simp) rfl ?_
    exact ⟨rfl, (HB.out.setCell (by simp) _).setCell (by simp) _⟩
end Go.Proofs.YtnidamdfdlkoiaaDoor.A
