/- CheckLink of the program. -/
import Derived.Test.YtnidamdfdlkoiaaDoorB3
namespace Go.Proofs.YtnidamdfdlkoiaaDoor.A
open Go.RowKit

/-- the error of signatures -/
def sigsGo : List (ByteArray × ByteArray) → List (ByteArray × ByteArray) → Int
  | _, [] => 0
  | seen, a :: r => if !nameB a.1 then 8 else if !sumB a.2 then 2 else if seen.any (keyIs a.1) then 5 else sigsGo (seen ++ [a]) r
def sigsE (l : List (ByteArray × ByteArray)) : Int := sigsGo [] l
def SigsAt (l : List (ByteArray × ByteArray)) (k : Nat) : Prop := sigsE l = sigsGo (l.take k) (l.drop k)
section
variable {l : List (ByteArray × ByteArray)} {k : Nat} {a : ByteArray × ByteArray}
theorem sigs_name (h : SigsAt l k) (hk : l[k]? = some a) (hp : nameB a.1 = false) : sigsE l = 8 := by rw [h, drop_get hk, sigsGo, hp]; rfl
theorem sigs_sum (h : SigsAt l k) (hk : l[k]? = some a) (hp : nameB a.1 = true) (hs : sumB a.2 = false) : sigsE l = 2 := by rw [h, drop_get hk, sigsGo, hp, hs]; rfl
theorem sigs_twice (h : SigsAt l k) (hk : l[k]? = some a) (hp : nameB a.1 = true) (hs : sumB a.2 = true) (ht : (l.take k).any (keyIs a.1) = true) : sigsE l = 5 := by rw [h, drop_get hk, sigsGo, hp, hs, ht]; rfl
theorem sigs_next (h : SigsAt l k) (hk : l[k]? = some a) (hp : nameB a.1 = true) (hs : sumB a.2 = true) (ht : (l.take k).any (keyIs a.1) = false) : SigsAt l (k + 1) := by
  unfold SigsAt
  rw [h, drop_get hk, sigsGo, hp, hs, ht, List.take_add_one, hk]
  rfl
theorem sigs_start : SigsAt l 0 := rfl
theorem sigs_end (h : SigsAt l k) (hk : l.length ≤ k) : sigsE l = 0 := by rw [h, List.drop_of_length_le hk]; rfl
end
theorem RdA.take {w : World} {A : Option Addr} {l : List (ByteArray × ByteArray)} (h : RdA w A l) (n : Nat) : RdA w A (l.take n) := by
  intro k a hk
  rw [List.getElem?_take] at hk
  split at hk
  · exact h k a hk
  · cases hk
def LinkD.big (L : LinkD) : Prop := 20 < L.cmd.length ∨ 500 < L.mats.length ∨ 500 < L.prods.length ∨ 50 < L.sigs.length
instance (L : LinkD) : Decidable L.big := by unfold LinkD.big; infer_instance
/-- the error of a link -/
def linkE (L : LinkD) : Int :=
  if nameB L.step = false then 8 else if L.big then 3 else if wordsE L.cmd ≠ 0 then wordsE L.cmd else if artsE L.mats ≠ 0 then artsE L.mats else if artsE L.prods ≠ 0 then artsE L.prods else sigsE L.sigs
section
variable {L : LinkD}
theorem linkE_name (h : nameB L.step = false) : linkE L = 8 := by unfold linkE; rw [if_pos h]
theorem linkE_big (h : nameB L.step = true) (hb : L.big) : linkE L = 3 := by unfold linkE; rw [if_neg (by simp [h]), if_pos hb]
theorem linkE_words (h : nameB L.step = true) (hb : ¬ L.big) (h1 : wordsE L.cmd ≠ 0) : linkE L = wordsE L.cmd := by unfold linkE; rw [if_neg (by simp [h]), if_neg hb, if_pos h1]
theorem linkE_mats (h : nameB L.step = true) (hb : ¬ L.big) (h1 : wordsE L.cmd = 0) (h2 : artsE L.mats ≠ 0) : linkE L = artsE L.mats := by unfold linkE; rw [if_neg (by simp [h]), if_neg hb, if_neg (by simp [h1]), if_pos h2]
theorem linkE_prods (h : nameB L.step = true) (hb : ¬ L.big) (h1 : wordsE L.cmd = 0) (h2 : artsE L.mats = 0) (h3 : artsE L.prods ≠ 0) : linkE L = artsE L.prods := by
  unfold linkE; rw [if_neg (by simp [h]), if_neg hb, if_neg (by simp [h1]), if_neg (by simp [h2]), if_pos h3]
theorem linkE_sigs (h : nameB L.step = true) (hb : ¬ L.big) (h1 : wordsE L.cmd = 0) (h2 : artsE L.mats = 0) (h3 : artsE L.prods = 0) : linkE L = sigsE L.sigs := by
  unfold linkE; rw [if_neg (by simp [h]), if_neg hb, if_neg (by simp [h1]), if_neg (by simp [h2]), if_neg (by simp [h3])]
end

set_option maxHeartbeats 2000000 in
set_option maxRecDepth 100000 in
theorem checkLink_any (L : LinkD) (v : Value) (w : World) (hv : RdLink w v L) (hs : L.Small) :
    Calls Tryd.prog 9 #[v] w fun e w' => e = .returned (.int .i64 (linkE L)) ∧ Below w.heap.size w w' := by
  obtain ⟨A1, A2, A3, A4, c1, c2, c3, c4, h⟩ := hv
  obtain ⟨rfl, h1, h2, h3, h4, hcaps⟩ := h
  have hc4 := hcaps.2.2.2
  have hl1 := hs.lens.1
  have hl2 := hs.lens.2.1
  have hl3 := hs.lens.2.2.1
  have hl4 := hs.lens.2.2.2
  have HS := Lib.hid hs
  have H4 := Lib.hid h4
  have HN := Lib.hid (fun W => isName_any L.step W (by have := hs.step; unfold maxLen; omega))
  have HB0 := BoxAt.new w (.cells #[.string L.step, .slice A1 L.cmd.length c1, .slice A2 L.mats.length c2, .slice A3 L.prods.length c3, .slice A4 L.sigs.length c4] 26)
  have HW := Lib.hid (fun W (hb : Below w.heap.size w W) => checkWords_any A1 c1 L.cmd W (by unfold maxLen; omega) (h1.below hb) (fun x hx => by have := hs.cmd x hx; unfold maxLen; omega))
  have HM := Lib.hid (fun W (hb : Below w.heap.size w W) => checkArtifacts_any A2 c2 L.mats W (h2.below hb) (by omega) hs.mats)
  have HP := Lib.hid (fun W (hb : Below w.heap.size w W) => checkArtifacts_any A3 c3 L.prods W (h3.below hb) (by omega) hs.prods)
  clear h1 h2 h3 h4 hs hcaps
  cases hn : nameB L.step with
  | false =>
    have HE := Lib.hid (linkE_name hn)
    rw [hn] at HN
    have HB1 := Lib.hid HB0
    clear hn HB0
    go_enter Tryd.func9, Tryd.ntmps9
    go_wp2_with (go_at_call 26; refine (HN.out _).mono ?_; rintro e w' ⟨rfl, rfl⟩)
    go_ret
    exact ⟨ret_int HE.out.symm, HB1.out.below⟩
  | true =>
    rw [hn] at HN
    by_cases hbig : L.big
    · have HE := Lib.hid (linkE_big hn hbig)
      have HB1 := Lib.hid HB0
      have HG := Lib.hid hbig
      clear hn HB0 hbig
      go_enter Tryd.func9, Tryd.ntmps9
      go_wp2_with (go_at_call 26; refine (HN.out _).mono ?_; rintro e w' ⟨rfl, rfl⟩)
      all_goals first
        | (go_ret; exact ⟨ret_int HE.out.symm, HB1.out.below⟩)
        | (exfalso; have hg := HG.out; unfold LinkD.big at hg; omega)
    · have hq1 : L.cmd.length ≤ 20 := by unfold LinkD.big at hbig; omega
      have hq2 : L.mats.length ≤ 500 := by unfold LinkD.big at hbig; omega
      have hq3 : L.prods.length ≤ 500 := by unfold LinkD.big at hbig; omega
      have hq4 : L.sigs.length ≤ 50 := by unfold LinkD.big at hbig; omega
      have E1 := Lib.hid (fun h1 => linkE_words (L := L) hn hbig h1)
      have E2 := Lib.hid (fun h1 h2 => linkE_mats (L := L) hn hbig h1 h2)
      have E3 := Lib.hid (fun h1 h2 h3 => linkE_prods (L := L) hn hbig h1 h2 h3)
      have E4 := Lib.hid (fun h1 h2 h3 => linkE_sigs (L := L) hn hbig h1 h2 h3)
      have HB1 := Lib.hid HB0
      clear hn HB0 hbig hl1 hl2 hl3
      obtain ⟨z1, hz1⟩ : ∃ z, wordsE L.cmd = z := ⟨_, rfl⟩
      obtain ⟨z2, hz2⟩ : ∃ z, artsE L.mats = z := ⟨_, rfl⟩
      obtain ⟨z3, hz3⟩ : ∃ z, artsE L.prods = z := ⟨_, rfl⟩
      rw [hz1] at HW E1 E2 E3 E4
      rw [hz2] at HM E2 E3 E4
      rw [hz3] at HP E3 E4
      clear hz1 hz2 hz3
      generalize hn1 : L.cmd.length = n1 at *
      generalize hn2 : L.mats.length = n2 at *
      generalize hn3 : L.prods.length = n3 at *
      generalize hn4 : L.sigs.length = n4 at *
      have N4 := Lib.hid hn4
      clear hn1 hn2 hn3 hn4
      generalize L.step = step at *
      have hbx : ∀ bx, bx = Obj.cells #[.string step, .slice A1 n1 c1, .slice A2 n2 c2, .slice A3 n3 c3, .slice A4 n4 c4] 26 → (w.alloc bx).cell? ⟨w.heap.size, 2, none⟩ = some (.slice A2 n2 c2) ∧ (w.alloc bx).cell? ⟨w.heap.size, 3, none⟩ = some (.slice A3 n3 c3) ∧ (w.alloc bx).cell? ⟨w.heap.size, 4, none⟩ = some (.slice A4 n4 c4) := by
        rintro bx rfl
        refine ⟨?_, ?_, ?_⟩ <;> (rw [World.cell?_alloc_at (hn := rfl)]; rfl)
      have BX := Lib.hid (hbx _ rfl)
      clear hbx
      go_enter Tryd.func9, Tryd.ntmps9
      go_wp2_with (go_at_call 26; refine (HN.out _).mono ?_; rintro e w' ⟨rfl, rfl⟩)
      refine (HW.out _ HB1.out.below).mono ?_
      rintro e w1 ⟨rfl, rfl⟩
      by_cases hz1 : z1 = 0
      · subst hz1
        go_wp2_with fail
        generalize hbx : Obj.cells #[.string step, .slice A1 n1 c1, .slice A2 n2 c2, .slice A3 n3 c3, .slice A4 n4 c4] 26 = bx at *
        clear hbx
        refine (HM.out _ HB1.out.below).mono ?_
        rintro e w1 ⟨rfl, hb1⟩
        have HB2 := Lib.hid (HB1.out.trans hb1)
        clear hb1
        by_cases hz2 : z2 = 0
        · subst hz2
          have hcx := (HB2.out.boxed 3).trans BX.out.2.1
          go_wp2_with fail
          refine (HP.out _ HB2.out.below).mono ?_
          rintro e w2 ⟨rfl, hb2⟩
          have HB3 := Lib.hid (HB2.out.trans hb2)
          clear hb2 hcx
          by_cases hz3 : z3 = 0
          · subst hz3
            have hcx := (HB3.out.boxed 4).trans BX.out.2.2
            go_wp2_with fail
            go_loopw [57] (fun i wr => ∃ k : Nat, k ≤ n4 ∧ i = .int .i64 k ∧ Hid (SigsAt L.sigs k) ∧ Hid (BoxAt w bx wr)) (fun i _ => n4 - (intOf i).toNat)
            case atStart => exact ⟨0, by omega, rfl, sigs_start, HB3⟩
            case round =>
              clear hcx HB3 HB2 HB1 HW HM HP
              obtain ⟨k, hk, rfl, HA, HB⟩ := hrel
              by_cases hlt : k < n4
              · obtain ⟨a, ha⟩ : ∃ a, L.sigs[k]? = some a := ⟨_, List.getElem?_eq_getElem (by rw [N4.out]; exact hlt)⟩
                obtain ⟨ad, hA, hcell, hcell2⟩ := (H4.out.below HB.out.below) k a ha
                have hsz := fst_size HS.out.sigs ha
                have HP := Lib.hid (fun W => isName_any a.1 W (by unfold maxLen; omega))
                have HM := Lib.hid (fun W => isSum_any a.2 W (by unfold maxLen; omega))
                have HK := Lib.hid ha
                clear ha hsz
                subst hA
                have HBA := Lib.hid (HB.out.alloc (.cells #[.string a.1, .string a.2] 47))
                cases hp : nameB a.1 with
                | false =>
                  have HE := Lib.hid (sigs_name HA.out HK.out hp)
                  rw [hp] at HP
                  clear hp
                  go_wp2_with (go_at_call 26; refine (HP.out _).mono ?_; rintro e w' ⟨rfl, rfl⟩)
                  go_ret
                  exact ⟨ret_int (HE.out.symm.trans (E4.out (by simp) (by simp) (by simp)).symm), HBA.out.below⟩
                | true =>
                  rw [hp] at HP
                  cases hm : sumB a.2 with
                  | false =>
                    have HE := Lib.hid (sigs_sum HA.out HK.out hp hm)
                    rw [hm] at HM
                    clear hp hm
                    go_wp2_with (first
                      | (go_at_call 26; refine (HP.out _).mono ?_; rintro e w' ⟨rfl, rfl⟩)
                      | (go_at_call 29; refine (HM.out _).mono ?_; rintro e w1 ⟨rfl, hb⟩; have HB1 := Lib.hid (HBA.out.trans hb); clear hb))
                    go_ret
                    exact ⟨ret_int (HE.out.symm.trans (E4.out (by simp) (by simp) (by simp)).symm), HB1.out.below⟩
                  | true =>
                    rw [hm] at HM
                    have Hp := Lib.hid hp
                    have Hm := Lib.hid hm
                    clear hp hm
                    go_wp2_with (go_at_call 26; refine (HP.out _).mono ?_; rintro e w' ⟨rfl, rfl⟩)
                    refine (HM.out _).mono ?_
                    rintro e w1 ⟨rfl, hb⟩
                    have hc0 := (two_cell hb).1
                    have HB1 := Lib.hid (HBA.out.trans hb)
                    have hcx := (HB1.out.boxed 4).trans BX.out.2.2
                    clear hb
                    have hlen : (L.sigs.take k).length = k := by rw [List.length_take, N4.out]; omega
                    have HCF := Lib.hid (containsSig 31 #[.pointer (some ⟨wr.heap.size, 0, none⟩)] (keyIs a.1) (some ad) c4 k (L.sigs.take k) hlen w1 ((H4.out.below HB1.out.below).take k) (by omega) (enters_of Tryd.func31 (by kernel_rfl) rfl)
                      (fun W x hb _ => closKey x a.1 wr.heap.size W ((hb.cell (block_lt_of_cell hc0)).trans hc0)))
                    cases ht : (L.sigs.take k).any (keyIs a.1) with
                    | true =>
                      have HE := Lib.hid (sigs_twice HA.out HK.out Hp.out Hm.out ht)
                      rw [ht] at HCF
                      clear ht hlen
                      go_wp2_with fail
                      refine HCF.out.mono ?_
                      rintro e w2 ⟨rfl, hb⟩
                      have HB2 := Lib.hid (HB1.out.trans hb)
                      clear hb
                      go_wp2
                      go_ret
                      exact ⟨ret_int (HE.out.symm.trans (E4.out (by simp) (by simp) (by simp)).symm), HB2.out.below⟩
                    | false =>
                      have HX := Lib.hid (sigs_next HA.out HK.out Hp.out Hm.out ht)
                      rw [ht] at HCF
                      clear ht hlen
                      go_wp2_with fail
                      refine HCF.out.mono ?_
                      rintro e w2 ⟨rfl, hb⟩
                      have HB2 := Lib.hid (HB1.out.trans hb)
                      clear hb
                      go_wp2
                      go_roundw
                      case rel => exact ⟨k + 1, by omega, by go_num, HX, HB2⟩
                      case measure => simp [intOf]; omega
              · have HE := Lib.hid (sigs_end HA.out (by rw [N4.out]; omega))
                go_wp2
                go_ret
                exact ⟨ret_int (HE.out.symm.trans (E4.out (by simp) (by simp) (by simp)).symm), HB.out.below⟩
          · have hne : (z3 != 0) = true := by simpa using hz3
            have HE := Lib.hid (E3.out (by simp) (by simp) hz3)
            go_wp2
            go_ret
            exact ⟨ret_int HE.out.symm, HB3.out.below⟩
        · have hne : (z2 != 0) = true := by simpa using hz2
          have HE := Lib.hid (E2.out (by simp) hz2)
          go_wp2
          go_ret
          exact ⟨ret_int HE.out.symm, HB2.out.below⟩
      · have hne : (z1 != 0) = true := by simpa using hz1
        have HE := Lib.hid (E1.out hz1)
        go_wp2
        go_ret
        exact ⟨ret_int HE.out.symm, HB1.out.below⟩
end Go.Proofs.YtnidamdfdlkoiaaDoor.A
