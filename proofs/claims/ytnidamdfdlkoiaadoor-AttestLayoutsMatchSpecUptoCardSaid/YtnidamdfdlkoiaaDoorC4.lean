/- What the law asks besides: told. -/
import Derived.Test.YtnidamdfdlkoiaaDoorC3
namespace Go.Proofs.YtnidamdfdlkoiaaDoor.A
open Go.RowKit

def annB : ByteArray := ⟨#[97, 110, 110]⟩
def secB : ByteArray := ⟨#[115]⟩
def txtB : ByteArray := ⟨#[116]⟩
def annK : KeyD := ⟨annB, secB, pubS secB⟩
theorem ann_name : nameB annB = true := by decide
theorem ann_e (sec : Bool) : keyE annK txtB.size sec = 0 := by
  have ho : ownB annK = true := by
    show ((pubS secB).data.toList == (pubS secB).data.toList) = true
    exact beq_self_eq_true _
  rw [keyE_size (K := annK) (show nameB annK.name = true from ann_name) (sumB_sumS _) (fun _ => ho)]
  exact if_neg (by decide)
theorem ann_small : annK.Small := ⟨by show annB.size ≤ 1048576; decide, by show secB.size ≤ 1048576; decide, by show (pubS secB).size ≤ 1048576; rw [pubS_size]; decide⟩
theorem ann_signed : signedV (keyE annK txtB.size false) annK txtB (annB, sigS annK txtB) = true := by
  rw [ann_e]
  show (annB.toList == annB.toList && (sigS annK txtB).toList == (sigS annK txtB).toList) = true
  simp
theorem pub_not_empty (s : ByteArray) : ((pubS s).toList == ([] : List UInt8)) = false := by
  have h := pubS_size s
  rw [ByteArray.toList_eq]
  have : (pubS s).data.toList ≠ [] := fun h2 => by
    have h3 := congrArg List.length h2
    simp at h3
    simp [ByteArray.size, h3] at h
  simpa using this

set_option maxHeartbeats 4000000 in
set_option maxRecDepth 100000 in
theorem told_any (w : World) (hT : Tab w) :
    Calls Tryd.prog 12 #[] w fun e w' => e = .returned (.bool true) ∧ Below w.heap.size w w' := by
  have HN := Lib.hid (newKey_ok annB secB w ann_name (by decide) (by decide) (by decide) hT)
  have HS := Lib.hid (fun W (hb : Below w.heap.size w W) => sign_any annK txtB W ann_small (by unfold maxLen; decide) (hT.below hb))
  have HD := Lib.hid (fun W (hb : Below w.heap.size w W) => signed_any annK txtB (annB, sigS annK txtB) W ann_small (by unfold maxLen; decide) (hT.below hb))
  rw [ann_e true, signV_ok, show annK.name = annB from rfl] at HS
  rw [ann_signed, ann_e false] at HD
  have hpe := pub_not_empty secB
  go_enter Tryd.func12, Tryd.ntmps12
  go_wp2_with fail
  refine HN.out.mono ?_
  rintro e w1 ⟨rfl, hb⟩
  have HB1 := Lib.hid hb
  clear hb
  unfold KeyD.val
  dsimp only
  go_wp2_with fail
  refine (HS.out _ (HB1.out.alloc HB1.out.size _)).mono ?_
  rintro e w2 ⟨rfl, hb⟩
  have HX := Lib.hid ((BoxAt.new w1 (.cells #[.string annB, .string secB, .string (pubS secB)] 28)).trans hb)
  have HB2 := Lib.hid ((HB1.out.alloc HB1.out.size (.cells #[.string annB, .string secB, .string (pubS secB)] 28)).trans (hb.mono (HB1.out.alloc HB1.out.size _).size))
  have HX2 := Lib.hid (HX.out.alloc (.cells #[.string annB, .string (sigS annK txtB)] 47))
  obtain ⟨k0, k1, k2, _⟩ := keyS HX2.out
  clear hb
  go_wp2_with fail
  refine (HD.out _ (HB2.out.alloc HB2.out.size _)).mono ?_
  rintro e w3 ⟨rfl, hb⟩
  have HX3 := Lib.hid (HX2.out.trans hb)
  have HB3 := Lib.hid ((HB2.out.alloc HB2.out.size (.cells #[.string annB, .string (sigS annK txtB)] 47)).trans (hb.mono (HB2.out.alloc HB2.out.size _).size))
  clear k0 k1 k2
  obtain ⟨k0, k1, k2, _⟩ := keyS HX3.out
  obtain ⟨s0, s1⟩ := two_cell hb
  clear hb
  have ha : (annB.toList == [97, 110, 110]) = true := by rw [ByteArray.toList_eq]; decide
  go_wp2
  go_ret
  exact ⟨rfl, HB3.out⟩
end Go.Proofs.YtnidamdfdlkoiaaDoor.A
