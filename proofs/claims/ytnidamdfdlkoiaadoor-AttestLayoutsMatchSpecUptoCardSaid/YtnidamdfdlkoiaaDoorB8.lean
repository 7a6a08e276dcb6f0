/- Keys: their error, and their signatures. -/
import Derived.Test.YtnidamdfdlkoiaaDoorB7
import Derived.Deep.RegionHeld3
namespace Go.Proofs.YtnidamdfdlkoiaaDoor.A
open Go.RowKit

/-- go_simp's missing rule: an operation that was left out yields no bool -/
theorem yu : Go.yielded.match_1 (motive := fun _ => Option Bool) (some undef) (fun b => some b) (fun _ => none) = none := rfl
theorem hxB_dig : ∀ d, d < 16 → hxB (dig d) = true := by decide
theorem hxB_hexN (n k : Nat) : (hexN n k).all hxB = true := by
  induction k generalizing n with
  | zero => rfl
  | succ k ih => rw [hexN, List.all_append, ih, List.all_cons, hxB_dig _ (by omega)]; rfl
theorem sumB_sumS (s : ByteArray) : sumB (sumS s) = true := by
  unfold sumB sumS sumL
  have h : (hexN (fnvI s.data.toList).toNat 16).length = 16 := hexN_length _ _
  simp only [List.toList_toArray, hxB_hexN, Bool.true_and, decide_eq_true_eq]
  simpa [ByteArray.size] using h
/-- a key -/
structure KeyD where
  name : ByteArray
  secret : ByteArray
  pub : ByteArray
def KeyD.val (K : KeyD) : Value := .agg #[.string K.name, .string K.secret, .string K.pub]
structure KeyD.Small (K : KeyD) : Prop where
  name : szB 1048576 K.name
  secret : szB 1048576 K.secret
  pub : szB 1048576 K.pub
def kPub : ByteArray := ⟨#[112, 117, 98, 108, 105, 99, 58]⟩
def pubS (s : ByteArray) : ByteArray := sumS (kPub ++ s)
/-- the secret is the key's -/
def ownB (K : KeyD) : Bool := K.pub.data.toList == (pubS K.secret).data.toList
/-- the error of a key and of a text -/
def keyE (K : KeyD) (n : Nat) (sec : Bool) : Int :=
  if nameB K.name = false then 8 else if sumB K.pub = false then 2 else if (sec && !ownB K) = true then 2 else if 1000000 < n then 3 else 0
section
variable {K : KeyD} {n : Nat} {sec : Bool}
theorem keyE_name (h : nameB K.name = false) : keyE K n sec = 8 := by unfold keyE; rw [if_pos h]
theorem keyE_pub (h : nameB K.name = true) (h2 : sumB K.pub = false) : keyE K n sec = 2 := by unfold keyE; rw [if_neg (by simp [h]), if_pos h2]
theorem keyE_own (h : nameB K.name = true) (h2 : sumB K.pub = true) (h3 : ownB K = false) : keyE K n true = 2 := by unfold keyE; rw [if_neg (by simp [h]), if_neg (by simp [h2]), if_pos (by simp [h3])]
theorem keyE_size (h : nameB K.name = true) (h2 : sumB K.pub = true) (h3 : sec = true → ownB K = true) : keyE K n sec = if 1000000 < n then 3 else 0 := by
  unfold keyE; rw [if_neg (by simp [h]), if_neg (by simp [h2]), if_neg (by cases sec <;> simp at *; exact h3)]
theorem eqB_own (h2 : sumB K.pub = true) : eqB K.pub (pubS K.secret) = ownB K := eqB_both h2 (sumB_sumS _)
end

theorem sumS_size (s : ByteArray) : (sumS s).size = 16 := by
  show (sumS s).data.size = 16
  rw [← Array.length_toList]
  exact sum_len (sumB_sumS s)
theorem pubS_size (s : ByteArray) : (pubS s).size = 16 := sumS_size _

set_option maxHeartbeats 400000 in
theorem public_any (s : ByteArray) (w : World) (hs : szB 1048576 s) (hT : Tab w) :
    Calls Tryd.prog 57 #[.string s] w fun e w' => e = .returned (.string (pubS s)) ∧ Below w.heap.size w w' := by
  unfold szB at hs
  have hz : (kPub ++ s).size ≤ maxLen := by rw [ByteArray.size_append]; unfold maxLen; have : kPub.size = 7 := rfl; omega
  have HC := Lib.hid (sum64_any (kPub ++ s) w hz hT)
  clear hz hT
  go_enter Tryd.func57, Tryd.ntmps57
  go_wp2_with (go_at_call 70; refine HC.out.mono ?_; rintro e w' ⟨rfl, hb⟩; have HB := Lib.hid hb; clear hb)
  go_ret
  exact ⟨rfl, HB.out⟩

theorem keyS {w wr : World} {x y z : Value} {t : TypeId} (h : BoxAt w (.cells #[x, y, z] t) wr) : wr.cell? ⟨w.heap.size, 0, none⟩ = some x ∧ wr.cell? ⟨w.heap.size, 1, none⟩ = some y ∧ wr.cell? ⟨w.heap.size, 2, none⟩ = some z ∧ BoxAt w (.cells #[x, y, z] t) wr := by
  refine ⟨?_, ?_, ?_, h⟩
  · rw [h.boxed 0, World.cell?_alloc_at (hn := rfl)]; rfl
  · rw [h.boxed 1, World.cell?_alloc_at (hn := rfl)]; rfl
  · rw [h.boxed 2, World.cell?_alloc_at (hn := rfl)]; rfl
theorem BoxAt.drew {w wr : World} {bx : Obj} (h : BoxAt w bx wr) : BoxAt w bx wr.drew := Below.drew h

set_option maxHeartbeats 16000000 in
set_option maxRecDepth 100000 in
theorem checkKey_any (K : KeyD) (t : ByteArray) (sec : Bool) (w : World) (hK : K.Small) (ht : t.size ≤ maxLen) (hT : Tab w) :
    Calls Tryd.prog 49 #[K.val, .string t, .bool sec] w fun e w' => e = .returned (.int .i64 (keyE K t.size sec)) ∧ Below w.heap.size w w' := by
  have hn : K.name.size ≤ maxLen := by have := hK.name; unfold szB at this; unfold maxLen; omega
  have hp : K.pub.size ≤ maxLen := by have := hK.pub; unfold szB at this; unfold maxLen; omega
  have hpp : (pubS K.secret).size ≤ maxLen := by rw [pubS_size]; unfold maxLen; omega
  have HN := Lib.hid (fun W => isName_any K.name W hn)
  have HS := Lib.hid (fun W => isSum_any K.pub W hp)
  have HP := Lib.hid (fun W (hb : Below w.heap.size w W) => public_any K.secret W hK.secret (hT.below hb))
  have HE := Lib.hid (fun W => equal_any K.pub (pubS K.secret) W hp hpp)
  have HB0 := Lib.hid (BoxAt.new w (.cells #[.string K.name, .string K.secret, .string K.pub] 28))
  have HO := Lib.hid (fun h => eqB_own (K := K) h)
  clear hn hp hpp hT hK
  unfold maxLen at ht
  unfold KeyD.val
  have HX1 := Lib.hid (fun h => keyE_name (K := K) (n := t.size) (sec := sec) h)
  have HX2 := Lib.hid (fun h h2 => keyE_pub (K := K) (n := t.size) (sec := sec) h h2)
  have HX3 := Lib.hid (fun h h2 h3 => keyE_own (K := K) (n := t.size) h h2 h3)
  have HX4 := Lib.hid (fun h h2 h3 => keyE_size (K := K) (n := t.size) (sec := sec) h h2 h3)
  cases hn : nameB K.name with
  | false =>
    have HX := Lib.hid (HX1.out hn)
    rw [hn] at HN
    clear HX1 HX2 HX3 HX4 HO hn
    go_enter Tryd.func49, Tryd.ntmps49
    go_wp2_with (go_at_call 26; refine (HN.out _).mono ?_; rintro e w' ⟨rfl, rfl⟩)
    go_ret
    exact ⟨ret_int HX.out.symm, HB0.out.below⟩
  | true =>
    rw [hn] at HN
    cases hp : sumB K.pub with
    | false =>
      have HX := Lib.hid (HX2.out hn hp)
      rw [hp] at HS
      have hB := keyS HB0.out.drew
      clear HX1 HX2 HX3 HX4 HO hn hp
      go_enter Tryd.func49, Tryd.ntmps49
      go_wp2_with (go_at_call 26; refine (HN.out _).mono ?_; rintro e w' ⟨rfl, rfl⟩)
      have hyu := yu
      first | go_region_with (go_at_call 29; refine (HS.out _).mono ?_; rintro e w1 ⟨rfl, hb⟩; have HB1 := Lib.hid (hB.2.2.2.trans hb); clear hb) | fail
      all_goals go_wp2
      all_goals (go_ret; exact ⟨ret_int HX.out.symm, HB1.out.below⟩)
    | true =>
      rw [hp] at HS
      have hB := keyS HB0.out.drew
      cases sec with
      | false =>
        have HX := Lib.hid (HX4.out hn hp (by simp))
        clear HX1 HX2 HX3 HX4 HO hn hp
        go_enter Tryd.func49, Tryd.ntmps49
        go_wp2_with (go_at_call 26; refine (HN.out _).mono ?_; rintro e w' ⟨rfl, rfl⟩)
        have hyu := yu
        first | go_region_with (go_at_call 29; refine (HS.out _).mono ?_; rintro e w1 ⟨rfl, hb⟩; have HB1 := Lib.hid (hB.2.2.2.trans hb); clear hb) | fail
        all_goals go_wp2
        all_goals (go_ret; exact ⟨ret_int (by rw [HX.out]; first | exact (if_pos (by omega)).symm | exact (if_neg (by omega)).symm), HB1.out.below⟩)
      | true =>
        have HO := Lib.hid (HO.out hp)
        cases ho : ownB K with
        | false =>
          have HX := Lib.hid (HX3.out hn hp ho)
          rw [HO.out, ho] at HE
          clear HX1 HX2 HX3 HX4 HO hn hp ho
          go_enter Tryd.func49, Tryd.ntmps49
          go_wp2_with (go_at_call 26; refine (HN.out _).mono ?_; rintro e w' ⟨rfl, rfl⟩)
          first | go_region_held3 (fun w' => w'.cell? ⟨w.heap.size, 0, none⟩ = some (.string K.name) ∧ w'.cell? ⟨w.heap.size, 1, none⟩ = some (.string K.secret) ∧ w'.cell? ⟨w.heap.size, 2, none⟩ = some (.string K.pub) ∧ BoxAt w (.cells #[.string K.name, .string K.secret, .string K.pub] 28) w')
            (first
              | exact hB
              | (go_split_ands; exact keyS (BoxAt.trans (by assumption) hb))
              | (go_split_ands; exact keyS (by assumption)))
            (first
              | (go_at_call 29; refine (HS.out _).mono ?_; rintro e w1 ⟨rfl, hb⟩)
              | (go_at_call 57; go_split_ands; refine (HP.out _ (BoxAt.below (by assumption))).mono ?_; rintro e w1 ⟨rfl, hb⟩)
              | (go_at_call 69; refine (HE.out _).mono ?_; rintro e w1 ⟨rfl, hb⟩)) | fail
          go_wp2
          go_ret
          exact ⟨ret_int HX.out.symm, by go_split_ands; exact BoxAt.below (by assumption)⟩
        | true =>
          have HX := Lib.hid (HX4.out hn hp (fun _ => ho))
          rw [HO.out, ho] at HE
          clear HX1 HX2 HX3 HX4 HO hn hp ho
          go_enter Tryd.func49, Tryd.ntmps49
          go_wp2_with (go_at_call 26; refine (HN.out _).mono ?_; rintro e w' ⟨rfl, rfl⟩)
          first | go_region_held3 (fun w' => w'.cell? ⟨w.heap.size, 0, none⟩ = some (.string K.name) ∧ w'.cell? ⟨w.heap.size, 1, none⟩ = some (.string K.secret) ∧ w'.cell? ⟨w.heap.size, 2, none⟩ = some (.string K.pub) ∧ BoxAt w (.cells #[.string K.name, .string K.secret, .string K.pub] 28) w')
            (first
              | exact hB
              | (go_split_ands; exact keyS (BoxAt.trans (by assumption) hb))
              | (go_split_ands; exact keyS (by assumption)))
            (first
              | (go_at_call 29; refine (HS.out _).mono ?_; rintro e w1 ⟨rfl, hb⟩)
              | (go_at_call 57; go_split_ands; refine (HP.out _ (BoxAt.below (by assumption))).mono ?_; rintro e w1 ⟨rfl, hb⟩)
              | (go_at_call 69; refine (HE.out _).mono ?_; rintro e w1 ⟨rfl, hb⟩)) | fail
          go_wp2
          all_goals (go_ret; exact ⟨ret_int (by rw [HX.out]; first | exact (if_pos (by omega)).symm | exact (if_neg (by omega)).symm), by go_split_ands; exact BoxAt.below (by assumption)⟩)
end Go.Proofs.YtnidamdfdlkoiaaDoor.A
