/- The reference's linkText. -/
import Derived.Test.YtnidamdfdlkoiaaDoorA8
namespace Go.Proofs.YtnidamdfdlkoiaaDoor.A
open Go.RowKit

/-- the parameter's box lies, and nothing else of what was there has changed -/
def BoxAt (w : World) (bx : Obj) (wr : World) : Prop := Below (w.heap.size + 1) (w.alloc bx) wr
section
variable {w wr : World} {bx : Obj}
theorem BoxAt.new (w : World) (bx : Obj) : BoxAt w bx (w.alloc bx) := Below.refl _ _
theorem BoxAt.size (h : BoxAt w bx wr) : w.heap.size + 1 ≤ wr.heap.size := by have := Below.size h; simpa using this
theorem BoxAt.alloc (h : BoxAt w bx wr) (o : Obj) : BoxAt w bx (wr.alloc o) := Below.alloc h h.size o
theorem BoxAt.trans {w2 : World} (h : BoxAt w bx wr) (hb : Below wr.heap.size wr w2) : BoxAt w bx w2 := Below.trans h (hb.mono h.size)
theorem BoxAt.below (h : BoxAt w bx wr) : Below w.heap.size w wr := ((Below.refl w.heap.size w).alloc (Nat.le_refl _) bx).trans (Below.mono h (by omega))
theorem BoxAt.boxed (h : BoxAt w bx wr) (j : Nat) : wr.cell? ⟨w.heap.size, j, none⟩ = (w.alloc bx).cell? ⟨w.heap.size, j, none⟩ := Below.cell h (p := ⟨w.heap.size, j, none⟩) (by simp)
end
/-- a text so far -/
def TxtB (l : List UInt8) (x : ByteArray) : Prop := x.data.toList = l
theorem TxtB.app {l l' : List UInt8} {x y : ByteArray} (h : TxtB l x) (he : l ++ y.data.toList = l') : TxtB l' (x ++ y) := by
  unfold TxtB at *
  rw [ByteArray.data_append, Array.toList_append, h, he]
theorem TxtB.size {l : List UInt8} {x : ByteArray} (h : TxtB l x) : x.size = l.length := by rw [← h]; simp

set_option maxHeartbeats 1000000 in
set_option maxRecDepth 100000 in
theorem linkText8_any (L : LinkD) (v : Value) (w : World) (hv : RdLink w v L) (hs : L.Small) (ht : (linkL L).length ≤ 140737488355328) :
    Calls Tryd.prog 18 #[v] w fun e w' => e = .returned (.string (linkS L)) ∧ Below w.heap.size w w' := by
  obtain ⟨A1, A2, A3, A4, c1, c2, c3, c4, h⟩ := hv
  obtain ⟨rfl, h1, h2, h3, _, _⟩ := h
  have hst := hs.step
  have hl1 := hs.lens.1
  have hl2 := hs.lens.2.1
  have hl3 := hs.lens.2.2.1
  have HS := Lib.hid hs
  have HT := Lib.hid ht
  have H1 := Lib.hid h1
  have H2 := Lib.hid h2
  have H3 := Lib.hid h3
  clear h1 h2 h3 hs ht
  generalize hst0 : L.step = step at *
  generalize hn1 : L.cmd.length = n1 at *
  generalize hn2 : L.mats.length = n2 at *
  generalize hn3 : L.prods.length = n3 at *
  have ST := Lib.hid hst0
  have N1 := Lib.hid hn1
  have N2 := Lib.hid hn2
  have N3 := Lib.hid hn3
  clear hst0 hn1 hn2 hn3
  go_enter Tryd.func18, Tryd.ntmps18
  go_wp2
  have HX := Lib.hid (BoxAt.new w (.cells #[.string step, .slice A1 n1 c1, .slice A2 n2 c2, .slice A3 n3 c3, .slice A4 L.sigs.length c4] 26))
  generalize hbox : Obj.cells #[.string step, .slice A1 n1 c1, .slice A2 n2 c2, .slice A3 n3 c3, .slice A4 L.sigs.length c4] 26 = box at *
  have B2 : Hid ((w.alloc box).cell? ⟨w.heap.size, 2, none⟩ = some (.slice A2 n2 c2)) := Lib.hid (by rw [← hbox, World.cell?_alloc_at (hn := rfl)]; rfl)
  have B3 : Hid ((w.alloc box).cell? ⟨w.heap.size, 3, none⟩ = some (.slice A3 n3 c3)) := Lib.hid (by rw [← hbox, World.cell?_alloc_at (hn := rfl)]; rfl)
  clear hbox
  go_loopw [3, 17] (fun t i wr => ∃ k : Nat, k ≤ n1 ∧ i = .int .i64 k ∧ ∃ x, t = .string x ∧ Hid (TxtB (lk1 L k) x) ∧ x.size ≤ 140737488355328 ∧ Hid (BoxAt w box wr)) (fun _ i _ => n1 - (intOf i).toNat)
  case atStart =>
    have h0 : TxtB (lk1 L 0) ((⟨#[115, 116, 101, 112, 32]⟩ : ByteArray) ++ step ++ ⟨#[10]⟩) := by unfold TxtB lk1 stepP; rw [List.take_zero, List.flatMap_nil, List.append_nil, ST.out]; rfl
    exact ⟨0, by omega, rfl, _, rfl, Lib.hid h0, by rw [h0.size]; have := lk1_len L 0; have := HT.out; omega, HX⟩
  case round =>
    obtain ⟨k, hk, rfl, x, rfl, HA, hx, HB⟩ := hrel
    by_cases hlt : k < n1
    · obtain ⟨s, hs⟩ : ∃ s, L.cmd[k]? = some s := ⟨_, List.getElem?_eq_getElem (by rw [N1.out]; exact hlt)⟩
      obtain ⟨ad, hA, hcell⟩ := (H1.out.below HB.out.below) k s hs
      have hsz := HS.out.cmd s (List.mem_of_getElem? hs)
      have HK := Lib.hid (HA.out.app (lk1_succ hs))
      clear hs
      subst hA
      go_wp2
      go_roundw
      case rel => exact ⟨k + 1, by omega, by go_num, _, rfl, HK, Nat.le_trans (Nat.le_of_eq HK.out.size) (Nat.le_trans (lk1_len L (k + 1)) HT.out), HB⟩
      case measure => simp [intOf]; omega
    · have HA2 : Hid (TxtB (lk2 L 0) x) := Lib.hid (by rw [← lk1_end (k := k) (by rw [N1.out]; omega)]; exact HA.out)
      have hc2 := (HB.out.boxed 2).trans B2.out
      go_wp2
      go_loopw [3, 30] (fun t i wr => ∃ k : Nat, k ≤ n2 ∧ i = .int .i64 k ∧ ∃ x, t = .string x ∧ Hid (TxtB (lk2 L k) x) ∧ x.size ≤ 140737488355328 ∧ Hid (BoxAt w box wr)) (fun _ i _ => n2 - (intOf i).toNat)
      case atStart => exact ⟨0, by omega, rfl, _, rfl, HA2, hx, HB⟩
      case round =>
        clear HA HA2 hc2 HB hx
        obtain ⟨k2, hk2, rfl, x, rfl, HA, hx, HB⟩ := hrel
        by_cases hlt2 : k2 < n2
        · obtain ⟨s, hs⟩ : ∃ s, L.mats[k2]? = some s := ⟨_, List.getElem?_eq_getElem (by rw [N2.out]; exact hlt2)⟩
          obtain ⟨ad, hA, hcell, hcell2⟩ := (H2.out.below HB.out.below) k2 s hs
          have hsz := HS.out.mats s (List.mem_of_getElem? hs)
          have hz1 := hsz.1
          have hz2 := hsz.2
          have HK := Lib.hid (HA.out.app (lk2_succ hs))
          clear hs hsz
          subst hA
          go_wp2
          go_roundw
          case rel => exact ⟨k2 + 1, by omega, by go_num, _, rfl, HK, Nat.le_trans (Nat.le_of_eq HK.out.size) (Nat.le_trans (lk2_len L (k2 + 1)) HT.out), Lib.hid (HB.out.alloc _)⟩
          case measure => simp [intOf]; omega
        · have HA2 : Hid (TxtB (lk3 L 0) x) := Lib.hid (by rw [← lk2_end (k := k2) (by rw [N2.out]; omega)]; exact HA.out)
          have hc2 := (HB.out.boxed 3).trans B3.out
          go_wp2
          go_loopw [3, 48] (fun t i wr => ∃ k : Nat, k ≤ n3 ∧ i = .int .i64 k ∧ ∃ x, t = .string x ∧ Hid (TxtB (lk3 L k) x) ∧ x.size ≤ 140737488355328 ∧ Hid (BoxAt w box wr)) (fun _ i _ => n3 - (intOf i).toNat)
          case atStart => exact ⟨0, by omega, rfl, _, rfl, HA2, hx, HB⟩
          case round =>
            clear HA HA2 hc2 HB hx
            obtain ⟨k3, hk3, rfl, x, rfl, HA, hx, HB⟩ := hrel
            by_cases hlt3 : k3 < n3
            · obtain ⟨s, hs⟩ : ∃ s, L.prods[k3]? = some s := ⟨_, List.getElem?_eq_getElem (by rw [N3.out]; exact hlt3)⟩
              obtain ⟨ad, hA, hcell, hcell2⟩ := (H3.out.below HB.out.below) k3 s hs
              have hsz := HS.out.prods s (List.mem_of_getElem? hs)
              have hz1 := hsz.1
              have hz2 := hsz.2
              have HK := Lib.hid (HA.out.app (lk3_succ hs))
              clear hs hsz
              subst hA
              go_wp2
              go_roundw
              case rel => exact ⟨k3 + 1, by omega, by go_num, _, rfl, HK, Nat.le_trans (Nat.le_of_eq HK.out.size) (Nat.le_trans (lk3_len L (k3 + 1)) HT.out), Lib.hid (HB.out.alloc _)⟩
              case measure => simp [intOf]; omega
            · have HA2 : Hid (x = linkS L) := Lib.hid (by unfold linkS; rw [← lk3_end (k := k3) (by rw [N3.out]; omega), ← HA.out])
              go_wp2
              go_ret
              exact ⟨congrArg (fun b => Ending.returned (.string b)) HA2.out, HB.out.below⟩
end Go.Proofs.YtnidamdfdlkoiaaDoor.A
