/- CheckLayout of the reference. -/
import Derived.Test.YtnidamdfdlkoiaaDoorG8
namespace Go.Proofs.YtnidamdfdlkoiaaDoor.A
open Go.RowKit

/-- what a map of texts says behind k elements -/
def seenBy {α : Type} (g : α → ByteArray) (l : List α) (k : Nat) : List UInt8 → Bool := fun x => (l.take k).any (fun a => (g a).data.toList == x)
section
variable {α : Type} {g : α → ByteArray} {l : List α} {k : Nat} {a : α}
theorem seenBy_zero (g : α → ByteArray) (l : List α) : seenBy g l 0 = fun _ => false := by funext x; simp [seenBy]
theorem seenBy_succ (h : l[k]? = some a) : seenBy g l (k + 1) = fun x => if x = (g a).data.toList then true else seenBy g l k x := by
  funext x
  unfold seenBy
  rw [List.take_add_one, h, List.any_append]
  by_cases e : x = (g a).data.toList
  · simp [e]
  · have e' : ¬ (g a).data.toList = x := fun h => e h.symm
    simp [e, e']
theorem seenBy_key (s : ByteArray) : seenBy g l k s.data.toList = (l.take k).any (fun a => (g a).toList == s.toList) := by
  unfold seenBy
  simp [ByteArray.toList_eq]
theorem seenBy_all (h : l.length ≤ k) (s : ByteArray) : seenBy g l k s.data.toList = l.any (fun a => (g a).toList == s.toList) := by rw [seenBy_key, List.take_of_length_le h]
end
theorem any_same (l : List KeyD) (k : KeyD) : l.any (sameKey k) = (l.any (fun a => a.name.toList == k.name.toList) || l.any (fun a => a.pub.toList == k.pub.toList)) := by
  induction l with
  | nil => rfl
  | cons a r ih => simp only [List.any_cons, ih, sameKey]; cases (a.name.toList == k.name.toList) <;> cases (a.pub.toList == k.pub.toList) <;> simp
theorem BSet.drew {w : World} {b n : Nat} {f : List UInt8 → Bool} (h : BSet w b n f) : BSet w.drew b n f := h.later (Below.refl _ _).drew
theorem made_two (W : World) : BSet ((W.alloc (.map #[] 0)).alloc (.map #[] 0)) W.heap.size 0 (fun _ => false) ∧ BSet ((W.alloc (.map #[] 0)).alloc (.map #[] 0)) (W.heap.size + 1) 0 (fun _ => false) := by
  refine ⟨(BSet.made W).alloc _, ?_⟩
  have := BSet.made (W.alloc (.map #[] 0))
  simpa using this
theorem BoxAt.grown {w wr w' : World} {bx : Obj} {M : Nat} (h : BoxAt w bx wr) (hg : wr.grownBy w' (some M)) (hM : w.heap.size + 1 ≤ M) : BoxAt w bx w' := Below.grown h hg h.size (fun k hk => by injection hk with hk; omega)
attribute [local go_sem ↓] Go.wp_at_zero Go.wp_at_succ

set_option maxHeartbeats 16000000 in
set_option maxRecDepth 100000 in
theorem checkLayout8_any (Y : LayoutD) (v : Value) (w : World) (hv : RdLay w v Y) (hs : Y.Small) :
    Calls Tryd.prog 16 #[v] w fun e w' => e = .returned (.int .i64 (layE Y)) ∧ Below w.heap.size w w' := by
  obtain ⟨A1, A2, c1, c2, rfl, hY⟩ := hv
  have hnm := hs.name
  obtain ⟨l1, l2⟩ := hs.lens
  have HN := Lib.hid (fun W => isName8_any Y.name W (by unfold maxLen; omega))
  have HX := Lib.hid (BoxAt.new w (.cells #[.string Y.name, .int .i64 Y.exp, .slice A1 Y.keys.length c1, .slice A2 Y.steps.length c2] 41))
  have HRS := Lib.hid hY.rsteps
  have HRK := Lib.hid hY.rkeys
  have HSS := Lib.hid hs.steps
  have HSK := Lib.hid hs.keys
  have HE1 := Lib.hid (fun h => layE_name (Y := Y) h)
  have HE2 := Lib.hid (fun h h2 => layE_exp (Y := Y) h h2)
  have HE3 := Lib.hid (fun h h2 h3 => layE_size (Y := Y) h h2 h3)
  have HE4 := Lib.hid (fun h h2 h3 h4 => layE_keys (Y := Y) h h2 h3 h4)
  have HE5 := Lib.hid (fun h h2 h3 h4 h5 => layE_empty (Y := Y) h h2 h3 h4 h5)
  have HE6 := Lib.hid (fun h h2 h3 h4 h5 => layE_steps (Y := Y) h h2 h3 h4 h5)
  clear hs hY
  generalize hz : layE Y = z at *
  clear hz
  unfold layV at *
  cases hn : nameB Y.name with
  | false =>
    have HE := Lib.hid (HE1.out hn)
    rw [hn] at HN
    clear hn HE1 HE2 HE3 HE4 HE5 HE6
    go_enter Tryd.func16, Tryd.ntmps16
    go_wp2_with (go_at_call 32; refine (HN.out _).mono ?_; rintro e w' ⟨rfl, rfl⟩)
    go_ret
    exact ⟨ret_int HE.out.symm, HX.out.below⟩
  | true =>
    rw [hn] at HN
    by_cases g1 : Y.exp < 0 ∨ 1000000 < Y.exp
    · have HE := Lib.hid (HE2.out hn g1)
      clear hn HE1 HE2 HE3 HE4 HE5 HE6
      by_cases g2 : Y.exp < 0
      · go_enter Tryd.func16, Tryd.ntmps16
        go_wp2_with (go_at_call 32; refine (HN.out _).mono ?_; rintro e w' ⟨rfl, rfl⟩)
        go_ret
        exact ⟨ret_int HE.out.symm, HX.out.below⟩
      · have g3 : 1000000 < Y.exp := by omega
        clear g1
        go_enter Tryd.func16, Tryd.ntmps16
        go_wp2_with (go_at_call 32; refine (HN.out _).mono ?_; rintro e w' ⟨rfl, rfl⟩)
        go_ret
        exact ⟨ret_int HE.out.symm, HX.out.below⟩
    have HG3 := Lib.hid (fun h3 => HE3.out hn g1 h3)
    have HG4 := Lib.hid (fun h3 h4 => HE4.out hn g1 h3 h4)
    have HG5 := Lib.hid (fun h3 h4 h5 => HE5.out hn g1 h3 h4 h5)
    have HG6 := Lib.hid (fun h3 h4 h5 => HE6.out hn g1 h3 h4 h5)
    obtain ⟨g2, g3⟩ := not_or.1 g1
    clear hn HE1 HE2 HE3 HE4 HE5 HE6 g1
    by_cases g4 : 50 < Y.keys.length
    · have HE := Lib.hid (HG3.out (.inl g4))
      go_enter Tryd.func16, Tryd.ntmps16
      go_wp2_with (go_at_call 32; refine (HN.out _).mono ?_; rintro e w' ⟨rfl, rfl⟩)
      go_ret
      exact ⟨ret_int HE.out.symm, HX.out.below⟩
    by_cases g5 : 30 < Y.steps.length
    · have HE := Lib.hid (HG3.out (.inr g5))
      go_enter Tryd.func16, Tryd.ntmps16
      go_wp2_with (go_at_call 32; refine (HN.out _).mono ?_; rintro e w' ⟨rfl, rfl⟩)
      go_ret
      exact ⟨ret_int HE.out.symm, HX.out.below⟩
    have HF4 := Lib.hid (fun h4 => HG4.out (by omega) h4)
    have HF5 := Lib.hid (fun h4 h5 => HG5.out (by omega) h4 h5)
    have HF6 := Lib.hid (fun h4 h5 => HG6.out (by omega) h4 h5)
    clear HG3 HG4 HG5 HG6
    generalize hnk : Y.keys.length = nk at *
    have HNK := Lib.hid hnk
    clear hnk
    generalize hns : Y.steps.length = n at *
    have HNN := Lib.hid hns
    clear hns
    have hmm := @run_makeMap Tryd.prog
    have HMT := Lib.hid (made_two (w.alloc (.cells #[.string Y.name, .int .i64 Y.exp, .slice A1 nk c1, .slice A2 n c2] 41)))
    rw [show (w.alloc (.cells #[.string Y.name, .int .i64 Y.exp, .slice A1 nk c1, .slice A2 n c2] 41)).heap.size = w.heap.size + 1 from by simp] at HMT
    have HBM := Lib.hid ((HX.out.alloc (.map #[] 0)).alloc (.map #[] 0))
    obtain ⟨x0, x1, x2, x3⟩ := HBM.out.four.four
    go_enter Tryd.func16, Tryd.ntmps16
    go_wp2_with (go_at_call 32; refine (HN.out _).mono ?_; rintro e w' ⟨rfl, rfl⟩)
    go_loopw [41] (fun i wr => ∃ k : Nat, k ≤ nk ∧ i = .int .i64 k ∧ Hid (FaultAt keyE1 Y.keys k) ∧ Hid (BSet wr (w.heap.size + 1) k (seenBy KeyD.name Y.keys k)) ∧ Hid (BSet wr (w.heap.size + 1 + 1) k (seenBy KeyD.pub Y.keys k)) ∧ Hid (BoxAt w (.cells #[.string Y.name, .int .i64 Y.exp, .slice A1 nk c1, .slice A2 n c2] 41) wr)) (fun i _ => nk - (intOf i).toNat)
    case atStart => exact ⟨0, by omega, rfl, fault_start, by rw [seenBy_zero]; exact HMT.out.1, by rw [seenBy_zero]; exact HMT.out.2, HBM⟩
    case round =>
      clear x0 x1 x2 x3 HMT HBM HX HN
      obtain ⟨k, hk, rfl, HA, HS1, HS2, HB⟩ := hrel
      by_cases hlt : k < nk
      · obtain ⟨a, ha⟩ : ∃ a, Y.keys[k]? = some a := ⟨_, List.getElem?_eq_getElem (by rw [HNK.out]; exact hlt)⟩
        obtain ⟨ad, hA, hcell, hcell2, hcell3⟩ := (HRK.out.below HB.out.below) k a ha
        have hsm := (HSK.out a (List.mem_of_getElem? ha)).max
        have HP := Lib.hid (fun W => isName8_any a.name W hsm.1)
        have HM := Lib.hid (fun W => isSum8_any a.pub W hsm.2.2)
        have HK := Lib.hid ha
        have HSZ := Lib.hid hsm
        have hkl : k < maxLen := by unfold maxLen; omega
        clear ha hsm
        subst hA
        have HBA := Lib.hid (HB.out.alloc (.cells #[.string a.name, .string a.secret, .string a.pub] 28))
        cases hp : nameB a.name with
        | false =>
          have HE := Lib.hid (fault_hit HA.out HK.out (keyE1_name hp) (by decide))
          have HZ := Lib.hid (HE.out.symm.trans (HF4.out (by rw [HE.out]; decide)).symm)
          rw [hp] at HP
          clear hp
          go_wp2_with (go_at_call 32; refine (HP.out _).mono ?_; rintro e w' ⟨rfl, rfl⟩)
          go_ret
          exact ⟨ret_int HZ.out, HBA.out.below⟩
        | true =>
          rw [hp] at HP
          cases hm : sumB a.pub with
          | false =>
            have HE := Lib.hid (fault_hit HA.out HK.out (keyE1_pub hp hm) (by decide))
            have HZ := Lib.hid (HE.out.symm.trans (HF4.out (by rw [HE.out]; decide)).symm)
            rw [hm] at HM
            clear hp hm
            go_wp2_with (first
              | (go_at_call 32; refine (HP.out _).mono ?_; rintro e w' ⟨rfl, rfl⟩)
              | (go_at_call 35; refine (HM.out _).mono ?_; rintro e w1 ⟨rfl, rfl⟩))
            go_ret
            exact ⟨ret_int HZ.out, HBA.out.below⟩
          | true =>
            rw [hm] at HM
            cases he : emptyB a.secret with
            | false =>
              have HE := Lib.hid (fault_hit HA.out HK.out (keyE1_secret hp hm he) (by decide))
              have HZ := Lib.hid (HE.out.symm.trans (HF4.out (by rw [HE.out]; decide)).symm)
              unfold emptyB at he
              clear hp hm
              go_wp2_with (first
                | (go_at_call 32; refine (HP.out _).mono ?_; rintro e w' ⟨rfl, rfl⟩)
                | (go_at_call 35; refine (HM.out _).mono ?_; rintro e w1 ⟨rfl, rfl⟩))
              go_ret
              exact ⟨ret_int HZ.out, HBA.out.below⟩
            | true =>
              have HX1 := Lib.hid (fun h4 => fault_hit HA.out HK.out (keyE1_twice hp hm he h4) (by decide))
              have HX2 := Lib.hid (fun h4 => fault_next HA.out HK.out (keyE1_ok hp hm he h4))
              unfold emptyB at he
              clear hp hm
              have hs1 := HS1.out.alloc (.cells #[.string a.name, .string a.secret, .string a.pub] 28)
              have hs2 := HS2.out.alloc (.cells #[.string a.name, .string a.secret, .string a.pub] 28)
              have hlook1 := hs1.look a.name HSZ.out.1
              have hlook2 := hs2.look a.pub HSZ.out.2.2
              rw [seenBy_key] at hlook1 hlook2
              have HSA := Lib.hid (any_same (Y.keys.take k) a)
              have HQ1 := Lib.hid hs1
              have HQ2 := Lib.hid hs2
              clear hs1 hs2
              cases hq1 : (Y.keys.take k).any (fun x => x.name.toList == a.name.toList) with
              | true =>
                have HE := Lib.hid (HX1.out (by rw [HSA.out, hq1]; rfl))
                have HZ := Lib.hid (HE.out.symm.trans (HF4.out (by rw [HE.out]; decide)).symm)
                rw [hq1] at hlook1
                clear hq1
                go_wp2_with (first
                  | (go_at_call 32; refine (HP.out _).mono ?_; rintro e w' ⟨rfl, rfl⟩)
                  | (go_at_call 35; refine (HM.out _).mono ?_; rintro e w1 ⟨rfl, rfl⟩))
                all_goals (go_ret; exact ⟨ret_int HZ.out, HBA.out.below⟩)
              | false =>
                rw [hq1] at hlook1
                cases hq2 : (Y.keys.take k).any (fun x => x.pub.toList == a.pub.toList) with
                | true =>
                  have HE := Lib.hid (HX1.out (by rw [HSA.out, hq1, hq2]; rfl))
                  have HZ := Lib.hid (HE.out.symm.trans (HF4.out (by rw [HE.out]; decide)).symm)
                  rw [hq2] at hlook2
                  clear hq1 hq2
                  go_wp2_with (first
                    | (go_at_call 32; refine (HP.out _).mono ?_; rintro e w' ⟨rfl, rfl⟩)
                    | (go_at_call 35; refine (HM.out _).mono ?_; rintro e w1 ⟨rfl, rfl⟩))
                  go_ret
                  exact ⟨ret_int HZ.out, HBA.out.below⟩
                | false =>
                  rw [hq2] at hlook2
                  have HXN := Lib.hid (HX2.out (by rw [HSA.out, hq1, hq2]; rfl))
                  clear hq1 hq2
                  have HFK := Lib.hid (FiveAt.new wr (.cells #[.string a.name, .string a.secret, .string a.pub] 28)).drew
                  go_wp2_with (first
                    | (go_at_call 32; refine (HP.out _).mono ?_; rintro e w' ⟨rfl, rfl⟩)
                    | (go_at_call 35; refine (HM.out _).mono ?_; rintro e w1 ⟨rfl, rfl⟩))
                  obtain ⟨w5, hrun1, hs5, hg5⟩ := HQ1.out.drew.put hkl a.name HSZ.out.1 true
                  have hs25 := HQ2.out.drew.kept hg5 (by simp)
                  obtain ⟨w6, hrun2, hs6, hg6⟩ := hs25.put hkl a.pub HSZ.out.2.2 true
                  have hs16 := hs5.kept hg6 (by simp)
                  have hM2 := HS2.out.lt
                  have HK0 := Lib.hid HFK.three
                  have HF5 := Lib.hid (FiveAt.grown HFK hg5 (by simp; omega))
                  have HF6 := Lib.hid (FiveAt.grown HF5.out hg6 (by simp; omega))
                  have HB6 := Lib.hid ((BoxAt.grown (show BoxAt w _ _ from HBA.out.drew) hg5 (by omega)).grown hg6 (by omega))
                  have HT1 : Hid (BSet w6 (w.heap.size + 1) (k + 1) (seenBy KeyD.name Y.keys (k + 1))) := Lib.hid (by rw [seenBy_succ HK.out]; exact hs16)
                  have HT2 : Hid (BSet w6 (w.heap.size + 1 + 1) (k + 1) (seenBy KeyD.pub Y.keys (k + 1))) := Lib.hid (by rw [seenBy_succ HK.out]; exact hs6)
                  clear hs5 hg5 hs25 hs6 hg6 hs16 HFK
                  first | go_region_held3 (fun w' => w'.cell? ⟨wr.heap.size, 0, none⟩ = some (.string a.name) ∧ w'.cell? ⟨wr.heap.size, 2, none⟩ = some (.string a.pub))
                    (first
                      | exact ⟨HK0.out.1, HK0.out.2.2⟩
                      | exact ⟨HF5.out.three.1, HF5.out.three.2.2⟩
                      | exact ⟨HF6.out.three.1, HF6.out.three.2.2⟩)
                    (first | fail) | fail
                  go_wp2
                  go_roundw
                  case rel => exact ⟨k + 1, by omega, by go_num, HXN, HT1, HT2, HB6⟩
                  case measure => simp [intOf]; omega
      · have hke : k = nk := by omega
        subst hke
        have HZK := Lib.hid (fault_end HA.out (by rw [HNK.out]; omega))
        have HD5 := Lib.hid (fun h5 => HF5.out HZK.out h5)
        have HD6 := Lib.hid (fun h5 => HF6.out HZK.out h5)
        have HM1 := Lib.hid (fun s => seenBy_all (g := KeyD.name) (l := Y.keys) (k := k) (by rw [HNK.out]; exact Nat.le_refl _) s)
        obtain ⟨x0, x1, x2, x3⟩ := HB.out.four.four
        clear HF4 HF5 HF6 HS2 HA HZK
        by_cases g6 : n = 0
        · have HE := Lib.hid (HD5.out g6)
          subst g6
          go_wp2
          go_ret
          exact ⟨ret_int HE.out.symm, HB.out.below⟩
        · have HE := Lib.hid (HD6.out g6)
          have g7 : ((n : Int) == 0) = false := by simp; omega
          have HMK := Lib.hid (BSet.made wr)
          have HBM := Lib.hid (HB.out.alloc (.map #[] 0))
          have HS1M := Lib.hid (HS1.out.alloc (.map #[] 0))
          have hM := HB.out.size
          have hM1 := HS1.out.lt
          have hxa : (w.heap.size : Nat) < wr.heap.size := by omega
          clear HD5 HD6 g6 x0 x1 x2 x3
          obtain ⟨x0, x1, x2, x3⟩ := HBM.out.four.four
          obtain ⟨b0, b1, b2, b3⟩ := HB.out.four.four
          generalize hMn : wr.heap.size = M at *
          go_wp2_with fail
          go_loopw [86] (fun i wr => ∃ j : Nat, j ≤ n ∧ i = .int .i64 j ∧ Hid (FaultAt (stepE Y.keys) Y.steps j) ∧ Hid (BSet wr (w.heap.size + 1) k (seenBy KeyD.name Y.keys k)) ∧ Hid (BSet wr M j (seenBy StepD.name Y.steps j)) ∧ Hid (BoxAt w (.cells #[.string Y.name, .int .i64 Y.exp, .slice A1 k c1, .slice A2 n c2] 41) wr)) (fun i _ => n - (intOf i).toNat)
          case atStart => exact ⟨0, by omega, rfl, fault_start, HS1M, by rw [seenBy_zero]; exact HMK, HBM⟩
          case round =>
            clear x0 x1 x2 x3 b0 b1 b2 b3 HMK HBM HS1M HB HS1
            obtain ⟨j, hj, rfl, HA, HS1, HS3, HB⟩ := hrel
            by_cases hlt : j < n
            · obtain ⟨a, ha⟩ : ∃ a, Y.steps[j]? = some a := ⟨_, List.getElem?_eq_getElem (by rw [HNN.out]; exact hlt)⟩
              obtain ⟨ad, E1, E2, E3, E4, e1, e2, e3, e4, hA, hsr, q0, q1, q2, q3, q4, q5⟩ := (HRS.out.below HB.out.below) j a ha
              have HKK := Lib.hid ha
              have HASM := Lib.hid (HSS.out a (List.mem_of_getElem? ha))
              have HBA := Lib.hid (HB.out.alloc (.cells #[.string a.name, .slice E1 a.keys.length e1, .int .i64 a.need, .slice E2 a.cmd.length e2, .slice E3 a.mats.length e3, .slice E4 a.prods.length e4] 81))
              have HFB := Lib.hid (FiveAt.new wr (.cells #[.string a.name, .slice E1 a.keys.length e1, .int .i64 a.need, .slice E2 a.cmd.length e2, .slice E3 a.mats.length e3, .slice E4 a.prods.length e4] 81))
              have HSA1 := Lib.hid (HS1.out.alloc (.cells #[.string a.name, .slice E1 a.keys.length e1, .int .i64 a.need, .slice E2 a.cmd.length e2, .slice E3 a.mats.length e3, .slice E4 a.prods.length e4] 81))
              have HSA3 := Lib.hid (HS3.out.alloc (.cells #[.string a.name, .slice E1 a.keys.length e1, .int .i64 a.need, .slice E2 a.cmd.length e2, .slice E3 a.mats.length e3, .slice E4 a.prods.length e4] 81))
              have HC := Lib.hid (stepFault_any Y.keys a (Y.steps.take j) E1 E2 E3 E4 e1 e2 e3 e4 (w.heap.size + 1) k M j _ _ _ HM1.out (fun s => seenBy_key s) HSA1.out HSA3.out (hsr.below ((Below.refl _ wr).alloc (Nat.le_refl _) _)) HASM.out)
              have hMw := HS3.out.lt
              clear ha hsr
              subst hA
              obtain ⟨z2, hz2⟩ : ∃ z, stepE Y.keys (Y.steps.take j) a = z := ⟨_, rfl⟩
              rw [hz2] at HC
              have HZ2 := Lib.hid hz2
              clear hz2
              unfold stepV at HC
              go_wp2_with fail
              refine HC.out.mono ?_
              rintro e w3 ⟨rfl, hb⟩
              have HB3 := Lib.hid (HBA.out.trans hb)
              have HF3 := Lib.hid (HFB.out.keep hb)
              have HT1 := Lib.hid (HSA1.out.later hb)
              have HT3 := Lib.hid (HSA3.out.later hb)
              clear hb q0 q1 q2 q3 q4 q5
              by_cases hz : z2 = 0
              · subst hz
                have HX := Lib.hid (fault_next HA.out HKK.out HZ2.out)
                obtain ⟨q0, q1, q2, q3, q4, q5⟩ := HF3.out.six
                have hjl : j < maxLen := by unfold maxLen; omega
                have hkey : a.name.size ≤ maxLen := by have := HASM.out.name; unfold maxLen; omega
                go_wp2_with (refine wpList_bset_put rfl _ _ _ rfl rfl HT3.out hjl a.name hkey true rfl rfl ?_; intro w' hs' hg'; have HS' := Lib.hid hs'; have HG' := Lib.hid hg'; clear hs' hg')
                go_roundw
                case rel => exact ⟨j + 1, by omega, by go_num, HX, Lib.hid (HT1.out.kept HG'.out (by simp; omega)), by rw [seenBy_succ HKK.out]; exact HS', Lib.hid (HB3.out.grown HG'.out (by omega))⟩
                case measure => simp [intOf]; omega
              · have hne : (z2 != 0) = true := by simpa using hz
                have HX := Lib.hid (fault_hit HA.out HKK.out HZ2.out hz)
                go_wp2
                go_ret
                exact ⟨ret_int (HX.out.symm.trans HE.out.symm), HB3.out.below⟩
            · have HX := Lib.hid (fault_end HA.out (by rw [HNN.out]; omega))
              go_wp2
              go_ret
              exact ⟨ret_int (HX.out.symm.trans HE.out.symm), HB.out.below⟩
end Go.Proofs.YtnidamdfdlkoiaaDoor.A
