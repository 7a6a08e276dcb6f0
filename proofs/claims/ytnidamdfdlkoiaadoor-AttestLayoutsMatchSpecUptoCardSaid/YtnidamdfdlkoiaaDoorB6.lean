/- CheckLink of the reference. -/
import Derived.Test.YtnidamdfdlkoiaaDoorB5
namespace Go.Proofs.YtnidamdfdlkoiaaDoor.A
open Go.RowKit

/-- what the map of keys says behind k signatures -/
def seenF (l : List (ByteArray × ByteArray)) (k : Nat) : List UInt8 → Bool := fun x => (l.take k).any (fun a => a.1.data.toList == x)
theorem seen_zero (l : List (ByteArray × ByteArray)) : seenF l 0 = fun _ => false := by funext x; simp [seenF]
theorem seen_succ {l : List (ByteArray × ByteArray)} {k : Nat} {a : ByteArray × ByteArray} (h : l[k]? = some a) : seenF l (k + 1) = fun x => if x = a.1.data.toList then true else seenF l k x := by
  funext x
  unfold seenF
  rw [List.take_add_one, h, List.any_append]
  by_cases e : x = a.1.data.toList
  · simp [e]
  · have e' : ¬ a.1.data.toList = x := fun h => e h.symm
    simp [e, e']
theorem seen_key (l : List (ByteArray × ByteArray)) (k : Nat) (s : ByteArray) : seenF l k s.data.toList = (l.take k).any (keyIs s) := by
  unfold seenF keyIs
  simp [ByteArray.toList_eq]

theorem row_cells (w : World) (x y : Value) (t : TypeId) : (w.alloc (.cells #[x, y] t)).cell? ⟨w.heap.size, 0, none⟩ = some x ∧ (w.alloc (.cells #[x, y] t)).cell? ⟨w.heap.size, 1, none⟩ = some y := by
  constructor <;> (rw [World.cell?_alloc_at (hn := rfl)]; rfl)
section
variable {w wq wr w2 : World} {bx : Obj} {x y : Value}
theorem row_keep (h : wq.cell? ⟨(w.alloc bx).heap.size, 0, none⟩ = some x ∧ wq.cell? ⟨(w.alloc bx).heap.size, 1, none⟩ = some y) (hb : Below (w.heap.size + 2) wq wr) :
    wr.cell? ⟨w.heap.size + 1, 0, none⟩ = some x ∧ wr.cell? ⟨w.heap.size + 1, 1, none⟩ = some y := by
  have e : (w.alloc bx).heap.size = w.heap.size + 1 := by simp
  rw [e] at h
  exact ⟨(hb.cell (p := ⟨w.heap.size + 1, 0, none⟩) (by simp)).trans h.1, (hb.cell (p := ⟨w.heap.size + 1, 1, none⟩) (by simp)).trans h.2⟩
theorem row_box (h : BoxAt w bx wq) (hb : Below (w.heap.size + 2) wq wr) : BoxAt w bx wr := Below.trans h (hb.mono (by omega))
theorem row_trans (h : wq.cell? ⟨(w.alloc bx).heap.size, 0, none⟩ = some x ∧ wq.cell? ⟨(w.alloc bx).heap.size, 1, none⟩ = some y) (hb : Below (w.heap.size + 2) wq wr) (h2 : Below wr.heap.size wr w2) : Below (w.heap.size + 2) wq w2 := hb.trans (h2.mono (by have := hb.size; have h3 := block_lt_of_cell h.1; simp at h3; omega))
end

set_option maxHeartbeats 2000000 in
set_option maxRecDepth 100000 in
theorem checkLink8_any (L : LinkD) (v : Value) (w : World) (hv : RdLink w v L) (hs : L.Small) :
    Calls Tryd.prog 10 #[v] w fun e w' => e = .returned (.int .i64 (linkE L)) ∧ Below w.heap.size w w' := by
  obtain ⟨A1, A2, A3, A4, c1, c2, c3, c4, h⟩ := hv
  obtain ⟨rfl, h1, h2, h3, h4, hcaps⟩ := h
  have hl1 := hs.lens.1
  have hl2 := hs.lens.2.1
  have hl3 := hs.lens.2.2.1
  have hl4 := hs.lens.2.2.2
  have HS := Lib.hid hs
  have H4 := Lib.hid h4
  have HN := Lib.hid (fun W => isName8_any L.step W (by have := hs.step; unfold maxLen; omega))
  have HB0 := BoxAt.new w (.cells #[.string L.step, .slice A1 L.cmd.length c1, .slice A2 L.mats.length c2, .slice A3 L.prods.length c3, .slice A4 L.sigs.length c4] 26)
  have HW := Lib.hid (fun W (hb : Below w.heap.size w W) => wordsFault_any A1 c1 L.cmd W (by unfold maxLen; omega) (h1.below hb) (fun x hx => by have := hs.cmd x hx; omega))
  have HM := Lib.hid (fun W (hb : Below w.heap.size w W) => artifactsFault_any A2 c2 L.mats W (h2.below hb) (by omega) hs.mats)
  have HP := Lib.hid (fun W (hb : Below w.heap.size w W) => artifactsFault_any A3 c3 L.prods W (h3.below hb) (by omega) hs.prods)
  clear h1 h2 h3 h4 hs hcaps
  cases hn : nameB L.step with
  | false =>
    have HE := Lib.hid (linkE_name hn)
    rw [hn] at HN
    have HB1 := Lib.hid HB0
    clear hn HB0
    go_enter Tryd.func10, Tryd.ntmps10
    go_wp2_with (go_at_call 32; refine (HN.out _).mono ?_; rintro e w' ⟨rfl, rfl⟩)
    go_ret
    exact ⟨ret_int HE.out.symm, HB1.out.below⟩
  | true =>
    rw [hn] at HN
    by_cases hbig : L.big
    · have HE := Lib.hid (linkE_big hn hbig)
      have HB1 := Lib.hid HB0
      have HG := Lib.hid hbig
      clear hn HB0 hbig
      go_enter Tryd.func10, Tryd.ntmps10
      go_wp2_with (go_at_call 32; refine (HN.out _).mono ?_; rintro e w' ⟨rfl, rfl⟩)
      all_goals first
        | (go_ret; exact ⟨ret_int HE.out.symm, HB1.out.below⟩)
        | (exfalso; have hg := HG.out; unfold LinkD.big at hg; omega)
    · have hq1 : L.cmd.length ≤ 20 := by unfold LinkD.big at hbig; omega
      have hq2 : L.mats.length ≤ 500 := by unfold LinkD.big at hbig; omega
      have hq3 : L.prods.length ≤ 500 := by unfold LinkD.big at hbig; omega
      have hq4 : L.sigs.length ≤ 50 := by unfold LinkD.big at hbig; omega
      have E1 := Lib.hid (fun h1 => linkE_words (L := L) hn hbig h1)
      have E2 := Lib.hid (fun h1 h2 => linkE_mats (L := L) hn hbig h1 h2)
      have E3 := Lib.hid (fun h1 h2 h3 => linkE_prods (L := L) hn hbig h1 h2 h3)
      have E4 := Lib.hid (fun h1 h2 h3 => linkE_sigs (L := L) hn hbig h1 h2 h3)
      have HB1 := Lib.hid HB0
      clear hn HB0 hbig hl1 hl2 hl3
      obtain ⟨z1, hz1⟩ : ∃ z, wordsE L.cmd = z := ⟨_, rfl⟩
      obtain ⟨z2, hz2⟩ : ∃ z, artsE L.mats = z := ⟨_, rfl⟩
      obtain ⟨z3, hz3⟩ : ∃ z, artsE L.prods = z := ⟨_, rfl⟩
      rw [hz1] at HW E1 E2 E3 E4
      rw [hz2] at HM E2 E3 E4
      rw [hz3] at HP E3 E4
      clear hz1 hz2 hz3
      generalize hn1 : L.cmd.length = n1 at *
      generalize hn2 : L.mats.length = n2 at *
      generalize hn3 : L.prods.length = n3 at *
      generalize hn4 : L.sigs.length = n4 at *
      have N4 := Lib.hid hn4
      clear hn1 hn2 hn3 hn4
      generalize L.step = step at *
      have hbx : ∀ bx, bx = Obj.cells #[.string step, .slice A1 n1 c1, .slice A2 n2 c2, .slice A3 n3 c3, .slice A4 n4 c4] 26 → (w.alloc bx).cell? ⟨w.heap.size, 2, none⟩ = some (.slice A2 n2 c2) ∧ (w.alloc bx).cell? ⟨w.heap.size, 3, none⟩ = some (.slice A3 n3 c3) ∧ (w.alloc bx).cell? ⟨w.heap.size, 4, none⟩ = some (.slice A4 n4 c4) := by
        rintro bx rfl
        refine ⟨?_, ?_, ?_⟩ <;> (rw [World.cell?_alloc_at (hn := rfl)]; rfl)
      have BX := Lib.hid (hbx _ rfl)
      clear hbx
      have hmm := @run_makeMap Tryd.prog
      go_enter Tryd.func10, Tryd.ntmps10
      go_wp2_with (go_at_call 32; refine (HN.out _).mono ?_; rintro e w' ⟨rfl, rfl⟩)
      refine (HW.out _ HB1.out.below).mono ?_
      rintro e w1 ⟨rfl, rfl⟩
      by_cases hz1 : z1 = 0
      · subst hz1
        go_wp2_with fail
        generalize hbx : Obj.cells #[.string step, .slice A1 n1 c1, .slice A2 n2 c2, .slice A3 n3 c3, .slice A4 n4 c4] 26 = bx at *
        clear hbx
        have HR0 := Lib.hid (Below.refl (w.heap.size + 2) ((w.alloc bx).alloc (.cells #[.slice A2 n2 c2, .slice A3 n3 c3] 23)))
        have HRC := Lib.hid (row_cells (w.alloc bx) (.slice A2 n2 c2) (.slice A3 n3 c3) 23)
        have HRB := Lib.hid (HB1.out.alloc (.cells #[.slice A2 n2 c2, .slice A3 n3 c3] 23))
        generalize hrow : (w.alloc bx).alloc (.cells #[.slice A2 n2 c2, .slice A3 n3 c3] 23) = wq at *
        clear hrow
        go_loopw [48] (fun i wr => ∃ k : Nat, k ≤ 2 ∧ i = .int .i64 k ∧ Hid (1 ≤ k → z2 = 0) ∧ Hid (2 ≤ k → z3 = 0) ∧ Hid (Below (w.heap.size + 2) wq wr)) (fun i _ => 2 - (intOf i).toNat)
        case atStart => exact ⟨0, by omega, rfl, Lib.hid (fun h => by omega), Lib.hid (fun h => by omega), HR0⟩
        case round =>
          obtain ⟨k, hk, rfl, HZ2, HZ3, HB⟩ := hrel
          have HBB := Lib.hid (row_box HRB.out HB.out)
          have hcl := row_keep HRC.out HB.out
          rcases (show k = 0 ∨ k = 1 ∨ k = 2 from by omega) with rfl | rfl | rfl
          · have hc0 := hcl.1
            clear hcl
            go_wp2_with fail
            refine (HM.out _ HBB.out.below).mono ?_
            rintro e w2 ⟨rfl, hb2⟩
            have HB2 := Lib.hid (row_trans HRC.out HB.out hb2)
            have HBB2 := Lib.hid (HBB.out.trans hb2)
            clear hb2
            by_cases hz2 : z2 = 0
            · have Z2 := Lib.hid hz2
              subst hz2
              go_wp2
              go_roundw
              case rel => exact ⟨1, by omega, by go_num, Lib.hid (fun _ => by first | rfl | trivial), Lib.hid (fun h => by omega), HB2⟩
              case measure => simp [intOf]
            · have hne : (z2 != 0) = true := by simpa using hz2
              have HE := Lib.hid (E2.out (by simp) hz2)
              go_wp2
              go_ret
              exact ⟨ret_int HE.out.symm, HBB2.out.below⟩
          · have hc0 := hcl.2
            have hz2 := HZ2.out (by omega)
            subst hz2
            clear hcl
            go_wp2_with fail
            refine (HP.out _ HBB.out.below).mono ?_
            rintro e w2 ⟨rfl, hb2⟩
            have HB2 := Lib.hid (row_trans HRC.out HB.out hb2)
            have HBB2 := Lib.hid (HBB.out.trans hb2)
            clear hb2
            by_cases hz3 : z3 = 0
            · subst hz3
              go_wp2
              go_roundw
              case rel => exact ⟨2, by omega, by go_num, Lib.hid (fun _ => by first | rfl | trivial), Lib.hid (fun _ => by first | rfl | trivial), HB2⟩
              case measure => simp [intOf]
            · have hne : (z3 != 0) = true := by simpa using hz3
              have HE := Lib.hid (E3.out (by simp) (by simp) hz3)
              go_wp2
              go_ret
              exact ⟨ret_int HE.out.symm, HBB2.out.below⟩
          · have hz2 := HZ2.out (by omega)
            have hz3 := HZ3.out (by omega)
            subst hz2
            subst hz3
            clear hcl HZ2 HZ3 HM HP HW HB HRC HRB HR0 HB1
            have HMK := Lib.hid (BSet.made wr)
            have HBM := Lib.hid (HBB.out.alloc (.map #[] 0))
            have hM := HBB.out.size
            have hcx := (HBM.out.boxed 4).trans BX.out.2.2
            generalize hMn : wr.heap.size = M at *
            go_wp2_with fail
            go_loopw [62] (fun i wr => ∃ k : Nat, k ≤ n4 ∧ i = .int .i64 k ∧ Hid (SigsAt L.sigs k) ∧ Hid (BSet wr M k (seenF L.sigs k)) ∧ Hid (BoxAt w bx wr)) (fun i _ => n4 - (intOf i).toNat)
            case atStart => exact ⟨0, by omega, rfl, sigs_start, by rw [seen_zero]; exact HMK, HBM⟩
            case round =>
              clear hcx HMK HBM
              obtain ⟨k, hk, rfl, HA, HSet, HB⟩ := hrel
              by_cases hlt : k < n4
              · obtain ⟨a, ha⟩ : ∃ a, L.sigs[k]? = some a := ⟨_, List.getElem?_eq_getElem (by rw [N4.out]; exact hlt)⟩
                obtain ⟨ad, hA, hcell, hcell2⟩ := (H4.out.below HB.out.below) k a ha
                have hsz := fst_size HS.out.sigs ha
                have HP := Lib.hid (fun W => isName8_any a.1 W (by unfold maxLen; omega))
                have HM := Lib.hid (fun W => isSum8_any a.2 W (by unfold maxLen; omega))
                have HK := Lib.hid ha
                clear ha
                subst hA
                have HBA := Lib.hid (HB.out.alloc (.cells #[.string a.1, .string a.2] 47))
                cases hp : nameB a.1 with
                | false =>
                  have HE := Lib.hid (sigs_name HA.out HK.out hp)
                  rw [hp] at HP
                  clear hp hsz
                  go_wp2_with (go_at_call 32; refine (HP.out _).mono ?_; rintro e w' ⟨rfl, rfl⟩)
                  go_ret
                  exact ⟨ret_int (HE.out.symm.trans (E4.out (by simp) (by simp) (by simp)).symm), HBA.out.below⟩
                | true =>
                  rw [hp] at HP
                  cases hm : sumB a.2 with
                  | false =>
                    have HE := Lib.hid (sigs_sum HA.out HK.out hp hm)
                    rw [hm] at HM
                    clear hp hm hsz
                    go_wp2_with (first
                      | (go_at_call 32; refine (HP.out _).mono ?_; rintro e w' ⟨rfl, rfl⟩)
                      | (go_at_call 35; refine (HM.out _).mono ?_; rintro e w1 ⟨rfl, rfl⟩))
                    go_ret
                    exact ⟨ret_int (HE.out.symm.trans (E4.out (by simp) (by simp) (by simp)).symm), HBA.out.below⟩
                  | true =>
                    rw [hm] at HM
                    have Hp := Lib.hid hp
                    have Hm := Lib.hid hm
                    have hsetA := HSet.out.alloc (.cells #[.string a.1, .string a.2] 47)
                    have hlook := hsetA.look a.1 (by unfold maxLen; omega)
                    rw [seen_key] at hlook
                    clear hp hm
                    cases ht : (L.sigs.take k).any (keyIs a.1) with
                    | true =>
                      rw [ht] at hlook
                      have HE := Lib.hid (sigs_twice HA.out HK.out Hp.out Hm.out ht)
                      clear ht
                      go_wp2_with (first
                        | (go_at_call 32; refine (HP.out _).mono ?_; rintro e w' ⟨rfl, rfl⟩)
                        | (go_at_call 35; refine (HM.out _).mono ?_; rintro e w1 ⟨rfl, rfl⟩))
                      go_ret
                      exact ⟨ret_int (HE.out.symm.trans (E4.out (by simp) (by simp) (by simp)).symm), HBA.out.below⟩
                    | false =>
                      rw [ht] at hlook
                      have HX := Lib.hid (sigs_next HA.out HK.out Hp.out Hm.out ht)
                      have hkeyok : a.1.size ≤ maxLen := by unfold maxLen; omega
                      have hkl : k < maxLen := by unfold maxLen; omega
                      have HSA := Lib.hid hsetA
                      clear ht hsetA
                      go_wp2_with (first
                        | (go_at_call 32; refine (HP.out _).mono ?_; rintro e w' ⟨rfl, rfl⟩)
                        | (go_at_call 35; refine (HM.out _).mono ?_; rintro e w1 ⟨rfl, rfl⟩)
                        | (refine wpList_bset_put rfl _ _ _ rfl rfl HSA.out hkl a.1 hkeyok true rfl rfl ?_; intro w' hs' hg'
                           have HS' := Lib.hid hs'
                           have HG' := Lib.hid hg'
                           clear hs' hg'))
                      go_roundw
                      case rel => exact ⟨k + 1, by omega, by go_num, HX, by rw [seen_succ HK.out]; exact HS', Lib.hid (Below.grown HBA.out HG'.out HBA.out.size (by rintro j ⟨⟩; omega))⟩
                      case measure => simp [intOf]; omega
              · have hke : k = n4 := by omega
                subst hke
                have HE := Lib.hid (sigs_end HA.out (by rw [N4.out]; omega))
                go_wp2
                go_ret
                exact ⟨ret_int (HE.out.symm.trans (E4.out (by simp) (by simp) (by simp)).symm), HB.out.below⟩
      · have hne : (z1 != 0) = true := by simpa using hz1
        have HE := Lib.hid (E1.out hz1)
        go_wp2
        go_ret
        exact ⟨ret_int HE.out.symm, HB1.out.below⟩
end Go.Proofs.YtnidamdfdlkoiaaDoor.A
