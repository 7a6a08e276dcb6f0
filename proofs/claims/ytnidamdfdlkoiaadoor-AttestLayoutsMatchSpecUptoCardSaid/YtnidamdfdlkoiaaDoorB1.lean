/- The checks of artifacts. -/
import Derived.Test.YtnidamdfdlkoiaaDoorA9
namespace Go.Proofs.YtnidamdfdlkoiaaDoor.A
open Go.RowKit

def leS (x y : ByteArray) : Bool := Op.bytesLess x.toList y.toList || x.toList == y.toList
def tooLow (prev : Option ByteArray) (x : ByteArray) : Bool := match prev with | some p => leS x p | none => false
/-- the error of artifacts -/
def artsGo : Option ByteArray → List (ByteArray × ByteArray) → Int
  | _, [] => 0
  | prev, a :: r => if !pathB a.1 then 8 else if !sumB a.2 then 2 else if tooLow prev a.1 then 10 else artsGo (some a.1) r
def artsE (l : List (ByteArray × ByteArray)) : Int := artsGo none l
def prevAt (l : List (ByteArray × ByteArray)) (k : Nat) : Option ByteArray := if k = 0 then none else (l[k - 1]?).map (·.1)
/-- what is known at element k -/
def ArtsAt (l : List (ByteArray × ByteArray)) (k : Nat) : Prop := artsE l = artsGo (prevAt l k) (l.drop k)
section
variable {l : List (ByteArray × ByteArray)} {k : Nat} {a : ByteArray × ByteArray}
theorem drop_get {α : Type} {l : List α} {k : Nat} {a : α} (h : l[k]? = some a) : l.drop k = a :: l.drop (k + 1) := by
  obtain ⟨hl, e⟩ := List.getElem?_eq_some_iff.1 h
  rw [List.drop_eq_getElem_cons hl, e]
theorem arts_path (h : ArtsAt l k) (hk : l[k]? = some a) (hp : pathB a.1 = false) : artsE l = 8 := by
  rw [h, drop_get hk, artsGo, hp]; rfl
theorem arts_sum (h : ArtsAt l k) (hk : l[k]? = some a) (hp : pathB a.1 = true) (hs : sumB a.2 = false) : artsE l = 2 := by
  rw [h, drop_get hk, artsGo, hp, hs]; rfl
theorem arts_low (h : ArtsAt l k) (hk : l[k]? = some a) (hp : pathB a.1 = true) (hs : sumB a.2 = true) (ht : tooLow (prevAt l k) a.1 = true) : artsE l = 10 := by
  rw [h, drop_get hk, artsGo, hp, hs, ht]; rfl
theorem arts_next (h : ArtsAt l k) (hk : l[k]? = some a) (hp : pathB a.1 = true) (hs : sumB a.2 = true) (ht : tooLow (prevAt l k) a.1 = false) : ArtsAt l (k + 1) := by
  unfold ArtsAt
  rw [h, drop_get hk, artsGo, hp, hs, ht]
  simp [prevAt, hk]
theorem arts_start : ArtsAt l 0 := rfl
theorem arts_end (h : ArtsAt l k) (hk : l.length ≤ k) : artsE l = 0 := by rw [h, List.drop_of_length_le hk]; cases prevAt l k <;> rfl
theorem low_zero (x : ByteArray) : tooLow (prevAt l 0) x = false := rfl
theorem low_succ {p : ByteArray × ByteArray} {x : ByteArray} {b : Bool} (h0 : 0 < k) (hp : l[k - 1]? = some p) (hb : (Op.bytesLess x.toList p.1.toList || x.toList == p.1.toList) = b) : tooLow (prevAt l k) x = b := by
  unfold prevAt
  rw [if_neg (by omega), hp, ← hb]
  rfl
end
theorem Below.drewN' {B : Nat} {w w' : World} (h : Below B w w') (n : Nat) : Below B w (w'.drewN n) := below_drewN h n
theorem two_cell {w w1 : World} {x y : Value} {t : TypeId} (hb : Below (w.alloc (.cells #[x, y] t)).heap.size (w.alloc (.cells #[x, y] t)) w1) : w1.cell? ⟨w.heap.size, 0, none⟩ = some x ∧ w1.cell? ⟨w.heap.size, 1, none⟩ = some y :=
  ⟨(hb.cell (p := ⟨w.heap.size, 0, none⟩) (by simp)).trans (by rw [World.cell?_alloc_at (hn := rfl)]; rfl), (hb.cell (p := ⟨w.heap.size, 1, none⟩) (by simp)).trans (by rw [World.cell?_alloc_at (hn := rfl)]; rfl)⟩
theorem old_cell {w w1 : World} {o : Obj} {p : Addr} {v : Value} (hb : Below (w.alloc o).heap.size (w.alloc o) w1) (hc : w.cell? p = some v) : w1.cell? p = some v :=
  (hb.cell (Nat.lt_of_lt_of_le (block_lt_of_cell hc) (by simp))).trans ((World.cell?_alloc_lt w o p (block_lt_of_cell hc)).trans hc)
theorem fst_size {l : List (ByteArray × ByteArray)} {n : Nat} (h : ∀ a ∈ l, a.1.size ≤ n ∧ a.2.size ≤ n) {k : Nat} {a : ByteArray × ByteArray} (hk : l[k]? = some a) : a.1.size ≤ n ∧ a.2.size ≤ n := h a (List.mem_of_getElem? hk)

set_option maxHeartbeats 1000000 in
set_option maxRecDepth 100000 in
theorem checkArtifacts_any (A : Option Addr) (c : Nat) (l : List (ByteArray × ByteArray)) (w : World) (hr : RdA w A l) (hl : l.length ≤ 1048576) (hs : ∀ a ∈ l, a.1.size ≤ 1048576 ∧ a.2.size ≤ 1048576) :
    Calls Tryd.prog 28 #[.slice A l.length c] w fun e w' => e = .returned (.int .i64 (artsE l)) ∧ Below w.heap.size w w' := by
  have HR := Lib.hid hr
  have HS := Lib.hid hs
  clear hr hs
  generalize hn : l.length = n at *
  have HN := Lib.hid hn
  clear hn
  go_enter Tryd.func28, Tryd.ntmps28
  go_wp2
  go_loopw [7] (fun i wr => ∃ k : Nat, k ≤ n ∧ i = .int .i64 k ∧ Hid (ArtsAt l k) ∧ Hid (Below w.heap.size w wr)) (fun i _ => n - (intOf i).toNat)
  case atStart => exact ⟨0, by omega, rfl, arts_start, Below.refl _ _⟩
  case round =>
    obtain ⟨k, hk, rfl, HA, HB⟩ := hrel
    by_cases hlt : k < n
    · obtain ⟨a, ha⟩ : ∃ a, l[k]? = some a := ⟨_, List.getElem?_eq_getElem (by rw [HN.out]; exact hlt)⟩
      obtain ⟨ad, hA, hcell, hcell2⟩ := (HR.out.below HB.out) k a ha
      have hsz := fst_size HS.out ha
      have HP := Lib.hid (fun W => isPath_any a.1 W (by unfold maxLen; omega))
      have HM := Lib.hid (fun W => isSum_any a.2 W (by unfold maxLen; omega))
      have HK := Lib.hid ha
      clear ha hsz
      have hprev : 0 < k → ∃ p, l[k - 1]? = some p := fun h => ⟨_, List.getElem?_eq_getElem (by rw [HN.out]; omega)⟩
      subst hA
      have HBA := Lib.hid (HB.out.alloc HB.out.size (.cells #[.string a.1, .string a.2] 53))
      cases hp : pathB a.1 with
      | false =>
        have HE := Lib.hid (arts_path HA.out HK.out hp)
        rw [hp] at HP
        clear hp hprev
        go_wp2_with (go_at_call 53; refine (HP.out _).mono ?_; rintro e w' ⟨rfl, rfl⟩)
        go_ret
        exact ⟨ret_int HE.out.symm, HBA.out⟩
      | true =>
        rw [hp] at HP
        cases hm : sumB a.2 with
        | false =>
          have HE := Lib.hid (arts_sum HA.out HK.out hp hm)
          rw [hm] at HM
          clear hp hm hprev
          go_wp2_with (first
            | (go_at_call 53; refine (HP.out _).mono ?_; rintro e w' ⟨rfl, rfl⟩)
            | (go_at_call 29; refine (HM.out _).mono ?_; rintro e w1 ⟨rfl, hb⟩; have HB1 := Lib.hid (HBA.out.trans (hb.mono HBA.out.size)); clear hb))
          go_ret
          exact ⟨ret_int HE.out.symm, HB1.out⟩
        | true =>
          rw [hm] at HM
          have Hp := Lib.hid hp
          have Hm := Lib.hid hm
          clear hp hm
          rcases Nat.eq_zero_or_pos k with h0 | h0
          · obtain rfl := h0
            have hcell0 : wr.cell? ad = some (.string a.1) := by simpa [Addr.add] using hcell
            have hcell1 : wr.cell? ⟨ad.block, ad.off + 1, none⟩ = some (.string a.2) := by simpa [Addr.add] using hcell2
            have HX := Lib.hid (arts_next HA.out HK.out Hp.out Hm.out (low_zero _))
            clear hprev
            go_wp2_with (first
              | (go_at_call 53; refine (HP.out _).mono ?_; rintro e w' ⟨rfl, rfl⟩)
              | (go_at_call 29; refine (HM.out _).mono ?_; rintro e w1 ⟨rfl, hb⟩; have hc0 := (two_cell hb).1; have HB1 := Lib.hid (HBA.out.trans (hb.mono HBA.out.size)); clear hb))
            go_quiet (fail)
            go_wp2
            go_roundw
            case rel => exact ⟨1, by omega, by go_num, HX, Lib.hid (by first | exact Below.drewN' HB1.out _ | exact HB1.out)⟩
            case measure => simp [intOf]; omega
          · obtain ⟨p, hp⟩ := hprev h0
            obtain ⟨ad', hA', pc, _⟩ := (HR.out.below HB.out) (k - 1) p hp
            obtain rfl : ad = ad' := by injection hA'
            have PC := Lib.hid pc
            have hk1 : (k : Int) - 1 = ((k - 1 : Nat) : Int) := by omega
            have hkn : k - 1 < n := by omega
            cases ht : (Op.bytesLess a.1.toList p.1.toList || a.1.toList == p.1.toList) with
            | true =>
              have HE := Lib.hid (arts_low HA.out HK.out Hp.out Hm.out (low_succ h0 hp ht))
              clear hprev hp hA' pc
              go_wp2_with (first
                | (go_at_call 53; refine (HP.out _).mono ?_; rintro e w' ⟨rfl, rfl⟩)
                | (go_at_call 29; refine (HM.out _).mono ?_; rintro e w1 ⟨rfl, hb⟩; have hc0 := (two_cell hb).1; have hc2 := old_cell hb PC.out; have HB1 := Lib.hid (HBA.out.trans (hb.mono HBA.out.size)); clear hb))
              go_quiet (fail)
              go_wp2
              go_ret
              exact ⟨ret_int HE.out.symm, by first | exact Below.drewN' HB1.out _ | exact HB1.out⟩
            | false =>
              have HX := Lib.hid (arts_next HA.out HK.out Hp.out Hm.out (low_succ h0 hp ht))
              clear hprev hp hA' pc
              go_wp2_with (first
                | (go_at_call 53; refine (HP.out _).mono ?_; rintro e w' ⟨rfl, rfl⟩)
                | (go_at_call 29; refine (HM.out _).mono ?_; rintro e w1 ⟨rfl, hb⟩; have hc0 := (two_cell hb).1; have hc2 := old_cell hb PC.out; have HB1 := Lib.hid (HBA.out.trans (hb.mono HBA.out.size)); clear hb))
              go_quiet (fail)
              go_wp2
              go_roundw
              case rel => exact ⟨k + 1, by omega, by go_num, HX, Lib.hid (by first | exact Below.drewN' HB1.out _ | exact HB1.out)⟩
              case measure => simp [intOf]; omega
    · have HE := Lib.hid (arts_end HA.out (by rw [HN.out]; omega))
      go_wp2
      go_ret
      exact ⟨ret_int HE.out.symm, HB.out⟩
end Go.Proofs.YtnidamdfdlkoiaaDoor.A
