/- The reference's check of keys. -/
import Derived.Test.YtnidamdfdlkoiaaDoorB8
namespace Go.Proofs.YtnidamdfdlkoiaaDoor.A
open Go.RowKit

theorem own_neq {K : KeyD} {b : Bool} (h : ownB K = b) : (K.pub.toList == (sumS (kPub ++ K.secret)).toList) = b := by
  rw [← h]; unfold ownB pubS; rw [ByteArray.toList_eq, ByteArray.toList_eq]

set_option maxHeartbeats 16000000 in
set_option maxRecDepth 100000 in
theorem keyFault_any (K : KeyD) (t : ByteArray) (sec : Bool) (w : World) (hK : K.Small) (ht : t.size ≤ maxLen) :
    Calls Tryd.prog 51 #[K.val, .string t, .bool sec] w fun e w' => e = .returned (.int .i64 (keyE K t.size sec)) ∧ Below w.heap.size w w' := by
  have hn : K.name.size ≤ maxLen := by have := hK.name; unfold szB at this; unfold maxLen; omega
  have hp : K.pub.size ≤ maxLen := by have := hK.pub; unfold szB at this; unfold maxLen; omega
  have hz : (kPub ++ K.secret).size ≤ maxLen := by have := hK.secret; unfold szB at this; rw [ByteArray.size_append]; unfold maxLen; have : kPub.size = 7 := rfl; omega
  have hadd : ∀ W : World, (Op.stringOp .add ⟨#[112, 117, 98, 108, 105, 99, 58]⟩ K.secret).run Tryd.prog W = .ok (.string (⟨#[112, 117, 98, 108, 105, 99, 58]⟩ ++ K.secret)) W := fun W => run_string_add_sum W _ _ (by have := hK.secret; unfold szB at this; have : (⟨#[112, 117, 98, 108, 105, 99, 58]⟩ : ByteArray).size = 7 := rfl; omega)
  have HN := Lib.hid (fun W => isName8_any K.name W hn)
  have HS := Lib.hid (fun W => isSum8_any K.pub W hp)
  have HP := Lib.hid (fun W => sum8_any (kPub ++ K.secret) W hz)
  have HB0 := Lib.hid (BoxAt.new w (.cells #[.string K.name, .string K.secret, .string K.pub] 28))
  clear hn hp hz hK
  unfold maxLen at ht
  unfold KeyD.val
  have HX1 := Lib.hid (fun h => keyE_name (K := K) (n := t.size) (sec := sec) h)
  have HX2 := Lib.hid (fun h h2 => keyE_pub (K := K) (n := t.size) (sec := sec) h h2)
  have HX3 := Lib.hid (fun h h2 h3 => keyE_own (K := K) (n := t.size) h h2 h3)
  have HX4 := Lib.hid (fun h h2 h3 => keyE_size (K := K) (n := t.size) (sec := sec) h h2 h3)
  cases hn : nameB K.name with
  | false =>
    have HX := Lib.hid (HX1.out hn)
    rw [hn] at HN
    clear HX1 HX2 HX3 HX4 hn
    go_enter Tryd.func51, Tryd.ntmps51
    go_wp2_with (go_at_call 32; refine (HN.out _).mono ?_; rintro e w' ⟨rfl, rfl⟩)
    go_ret
    exact ⟨ret_int HX.out.symm, HB0.out.below⟩
  | true =>
    rw [hn] at HN
    cases hp : sumB K.pub with
    | false =>
      have HX := Lib.hid (HX2.out hn hp)
      rw [hp] at HS
      have hB := keyS HB0.out.drew
      have HB1 := Lib.hid hB.2.2.2
      clear HX1 HX2 HX3 HX4 hn hp
      go_enter Tryd.func51, Tryd.ntmps51
      go_wp2_with (go_at_call 32; refine (HN.out _).mono ?_; rintro e w' ⟨rfl, rfl⟩)
      have hyu := yu
      first | go_region_with (go_at_call 35; refine (HS.out _).mono ?_; rintro e w1 ⟨rfl, rfl⟩) | fail
      all_goals go_wp2
      all_goals (go_ret; exact ⟨ret_int HX.out.symm, HB1.out.below⟩)
    | true =>
      rw [hp] at HS
      have hB := keyS HB0.out.drew
      have HB1 := Lib.hid hB.2.2.2
      cases sec with
      | false =>
        have HX := Lib.hid (HX4.out hn hp (by simp))
        clear HX1 HX2 HX3 HX4 hn hp
        go_enter Tryd.func51, Tryd.ntmps51
        go_wp2_with (go_at_call 32; refine (HN.out _).mono ?_; rintro e w' ⟨rfl, rfl⟩)
        have hyu := yu
        first | go_region_with (go_at_call 35; refine (HS.out _).mono ?_; rintro e w1 ⟨rfl, rfl⟩) | fail
        all_goals go_wp2
        all_goals (go_ret; exact ⟨ret_int (by rw [HX.out]; first | exact (if_pos (by omega)).symm | exact (if_neg (by omega)).symm), HB1.out.below⟩)
      | true =>
        cases ho : ownB K with
        | false =>
          have HX := Lib.hid (HX3.out hn hp ho)
          have hq := own_neq ho
          clear HX1 HX2 HX3 HX4 hn hp ho
          go_enter Tryd.func51, Tryd.ntmps51
          go_wp2_with (go_at_call 32; refine (HN.out _).mono ?_; rintro e w' ⟨rfl, rfl⟩)
          first | go_region_held3 (fun w' => w'.cell? ⟨w.heap.size, 0, none⟩ = some (.string K.name) ∧ w'.cell? ⟨w.heap.size, 1, none⟩ = some (.string K.secret) ∧ w'.cell? ⟨w.heap.size, 2, none⟩ = some (.string K.pub) ∧ BoxAt w (.cells #[.string K.name, .string K.secret, .string K.pub] 28) w')
            (first
              | exact hB
              | (go_split_ands; exact keyS (BoxAt.trans (by assumption) hb))
              | (go_split_ands; exact keyS (by assumption)))
            (first
              | (go_at_call 35; refine (HS.out _).mono ?_; rintro e w1 ⟨rfl, rfl⟩)
              | (go_at_call 71; refine (HP.out _).mono ?_; rintro e w1 ⟨rfl, hb⟩)) | fail
          go_wp2
          go_ret
          exact ⟨ret_int HX.out.symm, by go_split_ands; exact BoxAt.below (by assumption)⟩
        | true =>
          have HX := Lib.hid (HX4.out hn hp (fun _ => ho))
          have hq := own_neq ho
          clear HX1 HX2 HX3 HX4 hn hp ho
          go_enter Tryd.func51, Tryd.ntmps51
          go_wp2_with (go_at_call 32; refine (HN.out _).mono ?_; rintro e w' ⟨rfl, rfl⟩)
          first | go_region_held3 (fun w' => w'.cell? ⟨w.heap.size, 0, none⟩ = some (.string K.name) ∧ w'.cell? ⟨w.heap.size, 1, none⟩ = some (.string K.secret) ∧ w'.cell? ⟨w.heap.size, 2, none⟩ = some (.string K.pub) ∧ BoxAt w (.cells #[.string K.name, .string K.secret, .string K.pub] 28) w')
            (first
              | exact hB
              | (go_split_ands; exact keyS (BoxAt.trans (by assumption) hb))
              | (go_split_ands; exact keyS (by assumption)))
            (first
              | (go_at_call 35; refine (HS.out _).mono ?_; rintro e w1 ⟨rfl, rfl⟩)
              | (go_at_call 71; refine (HP.out _).mono ?_; rintro e w1 ⟨rfl, hb⟩)) | fail
          go_wp2
          all_goals (go_ret; exact ⟨ret_int (by rw [HX.out]; first | exact (if_pos (by omega)).symm | exact (if_neg (by omega)).symm), by go_split_ands; exact BoxAt.below (by assumption)⟩)
end Go.Proofs.YtnidamdfdlkoiaaDoor.A
