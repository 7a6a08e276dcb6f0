/- The reference's check of artifacts. -/
import Derived.Test.YtnidamdfdlkoiaaDoorB1
namespace Go.Proofs.YtnidamdfdlkoiaaDoor.A
open Go.RowKit

set_option maxHeartbeats 1000000 in
set_option maxRecDepth 100000 in
theorem artifactsFault_any (A : Option Addr) (c : Nat) (l : List (ByteArray × ByteArray)) (w : World) (hr : RdA w A l) (hl : l.length ≤ 1048576) (hs : ∀ a ∈ l, a.1.size ≤ 1048576 ∧ a.2.size ≤ 1048576) :
    Calls Tryd.prog 34 #[.slice A l.length c] w fun e w' => e = .returned (.int .i64 (artsE l)) ∧ Below w.heap.size w w' := by
  have HR := Lib.hid hr
  have HS := Lib.hid hs
  clear hr hs
  generalize hn : l.length = n at *
  have HN := Lib.hid hn
  clear hn
  go_enter Tryd.func34, Tryd.ntmps34
  go_wp2
  go_loopw [7] (fun i wr => ∃ k : Nat, k ≤ n ∧ i = .int .i64 k ∧ Hid (ArtsAt l k) ∧ Hid (Below w.heap.size w wr)) (fun i _ => n - (intOf i).toNat)
  case atStart => exact ⟨0, by omega, rfl, arts_start, Below.refl _ _⟩
  case round =>
    obtain ⟨k, hk, rfl, HA, HB⟩ := hrel
    by_cases hlt : k < n
    · obtain ⟨a, ha⟩ : ∃ a, l[k]? = some a := ⟨_, List.getElem?_eq_getElem (by rw [HN.out]; exact hlt)⟩
      obtain ⟨ad, hA, hcell, hcell2⟩ := (HR.out.below HB.out) k a ha
      have hsz := fst_size HS.out ha
      have HP := Lib.hid (fun W => visible_path a.1 W (by unfold maxLen; omega))
      have HM := Lib.hid (fun W => isSum8_any a.2 W (by unfold maxLen; omega))
      have HK := Lib.hid ha
      clear ha hsz
      have hprev : 0 < k → ∃ p, l[k - 1]? = some p := fun h => ⟨_, List.getElem?_eq_getElem (by rw [HN.out]; omega)⟩
      subst hA
      have HBA := Lib.hid (HB.out.alloc HB.out.size (.cells #[.string a.1, .string a.2] 53))
      cases hp : pathB a.1 with
      | false =>
        have HE := Lib.hid (arts_path HA.out HK.out hp)
        rw [hp] at HP
        clear hp hprev
        go_wp2_with (go_at_call 55; refine (HP.out _).mono ?_; rintro e w' ⟨rfl, rfl⟩)
        go_ret
        exact ⟨ret_int HE.out.symm, HBA.out⟩
      | true =>
        rw [hp] at HP
        cases hm : sumB a.2 with
        | false =>
          have HE := Lib.hid (arts_sum HA.out HK.out hp hm)
          rw [hm] at HM
          clear hp hm hprev
          go_wp2_with (first
            | (go_at_call 55; refine (HP.out _).mono ?_; rintro e w' ⟨rfl, rfl⟩)
            | (go_at_call 35; refine (HM.out _).mono ?_; rintro e w1 ⟨rfl, rfl⟩; have HB1 := HBA))
          go_ret
          exact ⟨ret_int HE.out.symm, HB1.out⟩
        | true =>
          rw [hm] at HM
          have Hp := Lib.hid hp
          have Hm := Lib.hid hm
          clear hp hm
          rcases Nat.eq_zero_or_pos k with h0 | h0
          · obtain rfl := h0
            have hcell0 : wr.cell? ad = some (.string a.1) := by simpa [Addr.add] using hcell
            have hcell1 : wr.cell? ⟨ad.block, ad.off + 1, none⟩ = some (.string a.2) := by simpa [Addr.add] using hcell2
            have HX := Lib.hid (arts_next HA.out HK.out Hp.out Hm.out (low_zero _))
            clear hprev
            go_wp2_with (first
              | (go_at_call 55; refine (HP.out _).mono ?_; rintro e w' ⟨rfl, rfl⟩)
              | (go_at_call 35; refine (HM.out _).mono ?_; rintro e w1 ⟨rfl, rfl⟩; have HB1 := HBA))
            go_quiet (fail)
            go_wp2
            go_roundw
            case rel => exact ⟨1, by omega, by go_num, HX, Lib.hid (by first | exact Below.drewN' HB1.out _ | exact HB1.out)⟩
            case measure => simp [intOf]; omega
          · obtain ⟨p, hp⟩ := hprev h0
            obtain ⟨ad', hA', pc, _⟩ := (HR.out.below HB.out) (k - 1) p hp
            obtain rfl : ad = ad' := by injection hA'
            have PC := Lib.hid pc
            have hk1 : (k : Int) - 1 = ((k - 1 : Nat) : Int) := by omega
            have hkn : k - 1 < n := by omega
            cases ht : (Op.bytesLess a.1.toList p.1.toList || a.1.toList == p.1.toList) with
            | true =>
              have HE := Lib.hid (arts_low HA.out HK.out Hp.out Hm.out (low_succ h0 hp ht))
              clear hprev hp hA' pc
              go_wp2_with (first
                | (go_at_call 55; refine (HP.out _).mono ?_; rintro e w' ⟨rfl, rfl⟩)
                | (go_at_call 35; refine (HM.out _).mono ?_; rintro e w1 ⟨rfl, rfl⟩; have hc2 := (World.cell?_alloc_lt wr (.cells #[.string a.1, .string a.2] 53) _ (block_lt_of_cell PC.out)).trans PC.out; have HB1 := HBA))
              go_quiet (fail)
              go_wp2
              go_ret
              exact ⟨ret_int HE.out.symm, by first | exact Below.drewN' HB1.out _ | exact HB1.out⟩
            | false =>
              have HX := Lib.hid (arts_next HA.out HK.out Hp.out Hm.out (low_succ h0 hp ht))
              clear hprev hp hA' pc
              go_wp2_with (first
                | (go_at_call 55; refine (HP.out _).mono ?_; rintro e w' ⟨rfl, rfl⟩)
                | (go_at_call 35; refine (HM.out _).mono ?_; rintro e w1 ⟨rfl, rfl⟩; have hc2 := (World.cell?_alloc_lt wr (.cells #[.string a.1, .string a.2] 53) _ (block_lt_of_cell PC.out)).trans PC.out; have HB1 := HBA))
              go_quiet (fail)
              go_wp2
              go_roundw
              case rel => exact ⟨k + 1, by omega, by go_num, HX, Lib.hid (by first | exact Below.drewN' HB1.out _ | exact HB1.out)⟩
              case measure => simp [intOf]; omega
    · have HE := Lib.hid (arts_end HA.out (by rw [HN.out]; omega))
      go_wp2
      go_ret
      exact ⟨ret_int HE.out.symm, HB.out⟩
end Go.Proofs.YtnidamdfdlkoiaaDoor.A
