/- checkKeys. -/
import Derived.Test.YtnidamdfdlkoiaaDoorG2
namespace Go.Proofs.YtnidamdfdlkoiaaDoor.A
open Go.RowKit

theorem KeyD.Small.max {k : KeyD} (h : k.Small) : k.name.size ≤ maxLen ∧ k.secret.size ≤ maxLen ∧ k.pub.size ≤ maxLen := by
  have h1 := h.name; have h2 := h.secret; have h3 := h.pub
  unfold szB at h1 h2 h3
  unfold maxLen
  omega
section
variable {seen : List KeyD} {k : KeyD}
theorem keyE1_name (h : nameB k.name = false) : keyE1 seen k = 8 := by unfold keyE1; rw [if_pos h]
theorem keyE1_pub (h : nameB k.name = true) (h2 : sumB k.pub = false) : keyE1 seen k = 2 := by unfold keyE1; rw [if_neg (by simp [h]), if_pos h2]
theorem keyE1_secret (h : nameB k.name = true) (h2 : sumB k.pub = true) (h3 : emptyB k.secret = false) : keyE1 seen k = 2 := by unfold keyE1; rw [if_neg (by simp [h]), if_neg (by simp [h2]), if_pos h3]
theorem keyE1_twice (h : nameB k.name = true) (h2 : sumB k.pub = true) (h3 : emptyB k.secret = true) (h4 : seen.any (sameKey k) = true) : keyE1 seen k = 5 := by
  unfold keyE1; rw [if_neg (by simp [h]), if_neg (by simp [h2]), if_neg (by simp [h3]), if_pos h4]
theorem keyE1_ok (h : nameB k.name = true) (h2 : sumB k.pub = true) (h3 : emptyB k.secret = true) (h4 : seen.any (sameKey k) = false) : keyE1 seen k = 0 := by
  unfold keyE1; rw [if_neg (by simp [h]), if_neg (by simp [h2]), if_neg (by simp [h3]), if_neg (by simp [h4])]
end

set_option maxHeartbeats 2000000 in
set_option maxRecDepth 100000 in
theorem checkKeys_any (A : Option Addr) (c : Nat) (l : List KeyD) (w : World) (hr : RdK w A l) (hl : l.length ≤ 1048576) (hc : l.length ≤ c) (hs : ∀ k ∈ l, k.Small) :
    Calls Tryd.prog 46 #[.slice A l.length c] w fun e w' => e = .returned (.int .i64 (faultE keyE1 l)) ∧ Below w.heap.size w w' := by
  have HR := Lib.hid hr
  have HS := Lib.hid hs
  clear hr hs
  generalize hn : l.length = n at *
  have HN := Lib.hid hn
  clear hn
  go_enter Tryd.func46, Tryd.ntmps46
  go_wp2
  go_loopw [7] (fun i wr => ∃ k : Nat, k ≤ n ∧ i = .int .i64 k ∧ Hid (FaultAt keyE1 l k) ∧ Hid (Below w.heap.size w wr)) (fun i _ => n - (intOf i).toNat)
  case atStart => exact ⟨0, by omega, rfl, fault_start, Below.refl _ _⟩
  case round =>
    obtain ⟨k, hk, rfl, HA, HB⟩ := hrel
    by_cases hlt : k < n
    · obtain ⟨a, ha⟩ : ∃ a, l[k]? = some a := ⟨_, List.getElem?_eq_getElem (by rw [HN.out]; exact hlt)⟩
      obtain ⟨ad, hA, hcell, hcell2, hcell3⟩ := (HR.out.below HB.out) k a ha
      have hsm := (HS.out a (List.mem_of_getElem? ha)).max
      have HP := Lib.hid (fun W => isName_any a.name W hsm.1)
      have HM := Lib.hid (fun W => isSum_any a.pub W hsm.2.2)
      have HK := Lib.hid ha
      clear ha hsm
      subst hA
      have HBA := Lib.hid (HB.out.alloc HB.out.size (.cells #[.string a.name, .string a.secret, .string a.pub] 28))
      cases hp : nameB a.name with
      | false =>
        have HE := Lib.hid (fault_hit HA.out HK.out (keyE1_name hp) (by decide))
        rw [hp] at HP
        clear hp
        go_wp2_with (go_at_call 26; refine (HP.out _).mono ?_; rintro e w' ⟨rfl, rfl⟩)
        go_ret
        exact ⟨ret_int HE.out.symm, HBA.out⟩
      | true =>
        rw [hp] at HP
        cases hm : sumB a.pub with
        | false =>
          have HE := Lib.hid (fault_hit HA.out HK.out (keyE1_pub hp hm) (by decide))
          rw [hm] at HM
          clear hp hm
          go_wp2_with (first
            | (go_at_call 26; refine (HP.out _).mono ?_; rintro e w' ⟨rfl, rfl⟩)
            | (go_at_call 29; refine (HM.out _).mono ?_; rintro e w1 ⟨rfl, hb⟩; have HB1 := Lib.hid (HBA.out.trans (hb.mono HBA.out.size)); clear hb))
          go_ret
          exact ⟨ret_int HE.out.symm, HB1.out⟩
        | true =>
          rw [hm] at HM
          cases he : emptyB a.secret with
          | false =>
            have HE := Lib.hid (fault_hit HA.out HK.out (keyE1_secret hp hm he) (by decide))
            unfold emptyB at he
            clear hp hm
            go_wp2_with (go_at_call 26; refine (HP.out _).mono ?_; rintro e w' ⟨rfl, rfl⟩)
            refine (HM.out _).mono ?_
            rintro e w1 ⟨rfl, hb⟩
            have HB1 := Lib.hid (HBA.out.trans (hb.mono HBA.out.size))
            obtain ⟨k0, k1, k2⟩ := (box_keep hb).three
            clear hb
            go_wp2
            go_ret
            exact ⟨ret_int HE.out.symm, HB1.out⟩
          | true =>
            have HX1 := Lib.hid (fun h4 => fault_hit HA.out HK.out (keyE1_twice hp hm he h4) (by decide))
            have HX2 := Lib.hid (fun h4 => fault_next HA.out HK.out (keyE1_ok hp hm he h4))
            unfold emptyB at he
            clear hp hm
            go_wp2_with (go_at_call 26; refine (HP.out _).mono ?_; rintro e w' ⟨rfl, rfl⟩)
            refine (HM.out _).mono ?_
            rintro e w1 ⟨rfl, hb⟩
            have HB1 := Lib.hid (HBA.out.trans (hb.mono HBA.out.size))
            have HF := Lib.hid (box_keep hb)
            obtain ⟨k0, k1, k2⟩ := HF.out.three
            clear hb
            have hlen : (l.take k).length = k := by rw [List.length_take, HN.out]; omega
            have HCF := Lib.hid (containsKey 63 #[.pointer (some ⟨wr.heap.size, 0, none⟩)] (sameKey a) (some ad) c k (l.take k) hlen w1 ((HR.out.below HB1.out).take k) (by omega) (enters_of Tryd.func63 (by kernel_rfl) rfl)
              (fun W x hb _ => closSame x a wr.heap.size W (HF.out.keep hb)))
            cases ht : (l.take k).any (sameKey a) with
            | true =>
              have HE := Lib.hid (HX1.out ht)
              rw [ht] at HCF
              clear ht hlen
              go_wp2_with fail
              refine HCF.out.mono ?_
              rintro e w2 ⟨rfl, hb⟩
              have HB2 := Lib.hid (HB1.out.trans (hb.mono HB1.out.size))
              clear hb
              go_wp2
              go_ret
              exact ⟨ret_int HE.out.symm, HB2.out⟩
            | false =>
              have HX := Lib.hid (HX2.out ht)
              rw [ht] at HCF
              clear ht hlen
              go_wp2_with fail
              refine HCF.out.mono ?_
              rintro e w2 ⟨rfl, hb⟩
              have HB2 := Lib.hid (HB1.out.trans (hb.mono HB1.out.size))
              clear hb
              go_wp2
              go_roundw
              case rel => exact ⟨k + 1, by omega, by go_num, HX, HB2⟩
              case measure => simp [intOf]; omega
    · have HE := Lib.hid (fault_end HA.out (by rw [HN.out]; omega))
      go_wp2
      go_ret
      exact ⟨ret_int HE.out.symm, HB.out⟩
end Go.Proofs.YtnidamdfdlkoiaaDoor.A
