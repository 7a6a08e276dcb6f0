/- Links as data; the text of a link, as the program and the reference write it. -/
import Derived.Test.YtnidamdfdlkoiaaDoorA7
namespace Go.Proofs.YtnidamdfdlkoiaaDoor.A
open Go.RowKit

/-- a link -/
structure LinkD where
  step : ByteArray
  cmd : List ByteArray
  mats : List (ByteArray × ByteArray)
  prods : List (ByteArray × ByteArray)
  sigs : List (ByteArray × ByteArray)

/-- a slice of pairs of strings that reads as a list -/
def RdA (w : World) (A : Option Addr) (l : List (ByteArray × ByteArray)) : Prop :=
  ∀ k a, l[k]? = some a → ∃ ad, A = some ad ∧ w.cell? (ad.add (k * 2)) = some (.string a.1) ∧ w.cell? ⟨(ad.add (k * 2)).block, (ad.add (k * 2)).off + 1, none⟩ = some (.string a.2)
theorem add_block (a : Addr) (n : Nat) : (a.add n).block = a.block := by unfold Addr.add; split <;> rfl
theorem RdS.below {w w' : World} {A : Option Addr} {l : List ByteArray} (h : RdS w A l) (hb : Below w.heap.size w w') : RdS w' A l := by
  intro k s hs
  obtain ⟨ad, e, hc⟩ := h k s hs
  exact ⟨ad, e, (hb.cell (block_lt_of_cell hc)).trans hc⟩
theorem RdA.below {w w' : World} {A : Option Addr} {l : List (ByteArray × ByteArray)} (h : RdA w A l) (hb : Below w.heap.size w w') : RdA w' A l := by
  intro k s hs
  obtain ⟨ad, e, hc, hd⟩ := h k s hs
  exact ⟨ad, e, (hb.cell (block_lt_of_cell hc)).trans hc, (hb.cell (block_lt_of_cell hd)).trans hd⟩

/-- a link's value, and that it reads so -/
structure LinkV (w : World) (v : Value) (L : LinkD) (A1 A2 A3 A4 : Option Addr) (c1 c2 c3 c4 : Nat) : Prop where
  val : v = .agg #[.string L.step, .slice A1 L.cmd.length c1, .slice A2 L.mats.length c2, .slice A3 L.prods.length c3, .slice A4 L.sigs.length c4]
  rcmd : RdS w A1 L.cmd
  rmats : RdA w A2 L.mats
  rprods : RdA w A3 L.prods
  rsigs : RdA w A4 L.sigs
  caps : L.cmd.length ≤ c1 ∧ L.mats.length ≤ c2 ∧ L.prods.length ≤ c3 ∧ L.sigs.length ≤ c4
def RdLink (w : World) (v : Value) (L : LinkD) : Prop := ∃ A1 A2 A3 A4 c1 c2 c3 c4, LinkV w v L A1 A2 A3 A4 c1 c2 c3 c4
theorem RdLink.below {w w' : World} {v : Value} {L : LinkD} (h : RdLink w v L) (hb : Below w.heap.size w w') : RdLink w' v L := by
  obtain ⟨A1, A2, A3, A4, c1, c2, c3, c4, h⟩ := h
  exact ⟨A1, A2, A3, A4, c1, c2, c3, c4, h.val, h.rcmd.below hb, h.rmats.below hb, h.rprods.below hb, h.rsigs.below hb, h.caps⟩

/-- sizes -/
def szB (n : Nat) (s : ByteArray) : Prop := s.size ≤ n
structure LinkD.Small (L : LinkD) : Prop where
  step : L.step.size ≤ 1048576
  cmd : ∀ s ∈ L.cmd, s.size ≤ 1048576
  mats : ∀ a ∈ L.mats, a.1.size ≤ 1048576 ∧ a.2.size ≤ 1048576
  prods : ∀ a ∈ L.prods, a.1.size ≤ 1048576 ∧ a.2.size ≤ 1048576
  sigs : ∀ a ∈ L.sigs, a.1.size ≤ 1048576 ∧ a.2.size ≤ 1048576
  lens : L.cmd.length ≤ 1048576 ∧ L.mats.length ≤ 1048576 ∧ L.prods.length ≤ 1048576 ∧ L.sigs.length ≤ 1048576

/-- the text of a link -/
def kStep : ByteArray := ⟨#[115, 116, 101, 112, 32]⟩
def kWord : ByteArray := ⟨#[119, 111, 114, 100, 32]⟩
def kMat : ByteArray := ⟨#[109, 97, 116, 101, 114, 105, 97, 108, 32]⟩
def kProd : ByteArray := ⟨#[112, 114, 111, 100, 117, 99, 116, 32]⟩
def kNl : ByteArray := ⟨#[10]⟩
def kSp : ByteArray := ⟨#[32]⟩
def wordP (s : ByteArray) : List UInt8 := (kWord ++ s ++ kNl).data.toList
def artP (k : ByteArray) (a : ByteArray × ByteArray) : List UInt8 := (k ++ a.2 ++ kSp ++ a.1 ++ kNl).data.toList
def stepP (s : ByteArray) : List UInt8 := (kStep ++ s ++ kNl).data.toList
def linkL (L : LinkD) : List UInt8 := stepP L.step ++ L.cmd.flatMap wordP ++ L.mats.flatMap (artP kMat) ++ L.prods.flatMap (artP kProd)
def linkS (L : LinkD) : ByteArray := ⟨(linkL L).toArray⟩

theorem flatMap_take_succ {α : Type} {f : α → List UInt8} {l : List α} {k : Nat} {a : α} (h : l[k]? = some a) : (l.take (k + 1)).flatMap f = (l.take k).flatMap f ++ f a := by
  rw [List.take_add_one, h]; simp
theorem flatMap_take_le {α : Type} (f : α → List UInt8) (l : List α) (k : Nat) : ((l.take k).flatMap f).length ≤ (l.flatMap f).length := by
  conv => rhs; rw [← List.take_append_drop k l, List.flatMap_append, List.length_append]
  omega

theorem Bld.alloc {B b : Nat} {l : List UInt8} {w : World} (h : Bld B b l w) (o : Obj) : Bld B b l (w.alloc o) := by
  rcases h with h | h
  · obtain ⟨hB, v, hb, ho, hn⟩ := h
    exact Or.inl ⟨hB, v, (Lib.alloc_old w o b (lt_of_block hb)).trans hb, ho.alloc o, hn⟩
  · obtain ⟨hB, v, hb, ho, hn⟩ := h
    exact Or.inr ⟨hB, v, (Lib.alloc_old w o b (lt_of_block hb)).trans hb, ho.alloc o, hn⟩
theorem Bld.lt {B b : Nat} {l : List UInt8} {w : World} (h : Bld B b l w) : b < w.heap.size := by
  rcases h with ⟨_, v, hb, _⟩ | ⟨_, v, hb, _⟩ <;> exact lt_of_block hb
/-- a text is being written, by a builder that lies behind the parameter's box -/
def TxtAt (w : World) (box : Obj) (l : List UInt8) (wr : World) : Prop := Bld (w.heap.size + 1) (w.heap.size + 1) l wr ∧ Below (w.heap.size + 1) (w.alloc box) wr
section
variable {w wr : World} {bx : Obj} {l : List UInt8}
theorem txt_new (w : World) (bx : Obj) : TxtAt w bx [] ((w.alloc bx).alloc (.cells #[.pointer none, .slice none 0 0] 73)) := by
  have e : (w.alloc bx).heap.size = w.heap.size + 1 := by simp
  have h := bld_new (w.alloc bx)
  rw [e] at h
  exact ⟨h, (Below.refl _ _).alloc (by simp) _⟩
theorem TxtAt.size (h : TxtAt w bx l wr) : w.heap.size + 1 < wr.heap.size := h.1.lt
theorem TxtAt.alloc (h : TxtAt w bx l wr) (o : Obj) : TxtAt w bx l (wr.alloc o) := ⟨h.1.alloc o, h.2.alloc (by have := h.size; omega) o⟩
theorem TxtAt.below (h : TxtAt w bx l wr) : Below w.heap.size w wr := ((Below.refl w.heap.size w).alloc (Nat.le_refl _) bx).trans (h.2.mono (by omega))
theorem TxtAt.boxed (h : TxtAt w bx l wr) (j : Nat) : wr.cell? ⟨w.heap.size, j, none⟩ = (w.alloc bx).cell? ⟨w.heap.size, j, none⟩ := h.2.cell (p := ⟨w.heap.size, j, none⟩) (by simp)
theorem TxtAt.write (h : TxtAt w bx l wr) (s : ByteArray) {l' : List UInt8} (he : l ++ s.data.toList = l') (hl : l'.length ≤ 140737488355328) :
    Calls Tryd.prog 41 #[.pointer (some ⟨w.heap.size + 1, 0, none⟩), .string s] wr fun e w' => e = .returned (.tuple #[.int .i64 s.size, .nilIface]) ∧ TxtAt w bx l' w' := by
  subst he
  exact (write_any _ _ l s wr h.1 (by simpa using hl) (by have := h.size; omega)).mono fun e w' ⟨he, hb, hB⟩ => ⟨he, hb, h.2.trans hB⟩
theorem TxtAt.text (h : TxtAt w bx l wr) :
    Calls Tryd.prog 44 #[.pointer (some ⟨w.heap.size + 1, 0, none⟩)] wr fun e w' => e = .returned (.string ⟨l.toArray⟩) ∧ Below w.heap.size w w' :=
  (string_any _ _ l wr h.1 (by have := h.size; omega)).mono fun e w' ⟨he, hB⟩ => ⟨he, h.below.trans (hB.mono (by omega))⟩
end

/-- the texts on the way -/
def lk1 (L : LinkD) (k : Nat) : List UInt8 := stepP L.step ++ (L.cmd.take k).flatMap wordP
def lk2 (L : LinkD) (k : Nat) : List UInt8 := stepP L.step ++ L.cmd.flatMap wordP ++ (L.mats.take k).flatMap (artP kMat)
def lk3 (L : LinkD) (k : Nat) : List UInt8 := stepP L.step ++ L.cmd.flatMap wordP ++ L.mats.flatMap (artP kMat) ++ (L.prods.take k).flatMap (artP kProd)
theorem lk1_succ {L : LinkD} {k : Nat} {a : ByteArray} (h : L.cmd[k]? = some a) : lk1 L k ++ wordP a = lk1 L (k + 1) := by unfold lk1; rw [flatMap_take_succ h, List.append_assoc]
theorem lk2_succ {L : LinkD} {k : Nat} {a : ByteArray × ByteArray} (h : L.mats[k]? = some a) : lk2 L k ++ artP kMat a = lk2 L (k + 1) := by unfold lk2; rw [flatMap_take_succ h, List.append_assoc]
theorem lk3_succ {L : LinkD} {k : Nat} {a : ByteArray × ByteArray} (h : L.prods[k]? = some a) : lk3 L k ++ artP kProd a = lk3 L (k + 1) := by unfold lk3; rw [flatMap_take_succ h, List.append_assoc]
theorem lk1_end {L : LinkD} {k : Nat} (h : L.cmd.length ≤ k) : lk1 L k = lk2 L 0 := by unfold lk1 lk2; rw [List.take_of_length_le h]; simp
theorem lk2_end {L : LinkD} {k : Nat} (h : L.mats.length ≤ k) : lk2 L k = lk3 L 0 := by unfold lk2 lk3; rw [List.take_of_length_le h]; simp
theorem lk3_end {L : LinkD} {k : Nat} (h : L.prods.length ≤ k) : lk3 L k = linkL L := by unfold lk3 linkL; rw [List.take_of_length_le h]
theorem lk3_len (L : LinkD) (k : Nat) : (lk3 L k).length ≤ (linkL L).length := by
  unfold lk3 linkL; have := flatMap_take_le (artP kProd) L.prods k; simp only [List.length_append]; omega
theorem lk2_len (L : LinkD) (k : Nat) : (lk2 L k).length ≤ (linkL L).length := by
  unfold lk2 linkL; have := flatMap_take_le (artP kMat) L.mats k; simp only [List.length_append]; omega
theorem lk1_len (L : LinkD) (k : Nat) : (lk1 L k).length ≤ (linkL L).length := by
  unfold lk1 linkL; have := flatMap_take_le wordP L.cmd k; simp only [List.length_append]; omega

set_option maxHeartbeats 1000000 in
set_option maxRecDepth 100000 in
theorem linkText_any (L : LinkD) (v : Value) (w : World) (hv : RdLink w v L) (hs : L.Small) (ht : (linkL L).length ≤ 140737488355328) :
    Calls Tryd.prog 17 #[v] w fun e w' => e = .returned (.string (linkS L)) ∧ Below w.heap.size w w' := by
  obtain ⟨A1, A2, A3, A4, c1, c2, c3, c4, h⟩ := hv
  obtain ⟨rfl, h1, h2, h3, _, _⟩ := h
  have hst := hs.step
  have hl1 := hs.lens.1
  have hl2 := hs.lens.2.1
  have hl3 := hs.lens.2.2.1
  have HS := Lib.hid hs
  have HT := Lib.hid ht
  have H1 := Lib.hid h1
  have H2 := Lib.hid h2
  have H3 := Lib.hid h3
  clear h1 h2 h3 hs ht
  generalize hst0 : L.step = step at *
  generalize hn1 : L.cmd.length = n1 at *
  generalize hn2 : L.mats.length = n2 at *
  generalize hn3 : L.prods.length = n3 at *
  have ST := Lib.hid hst0
  have N1 := Lib.hid hn1
  have N2 := Lib.hid hn2
  have N3 := Lib.hid hn3
  clear hst0 hn1 hn2 hn3
  go_enter Tryd.func17, Tryd.ntmps17
  go_wp2_with fail
  have HX := Lib.hid (txt_new w (.cells #[.string step, .slice A1 n1 c1, .slice A2 n2 c2, .slice A3 n3 c3, .slice A4 L.sigs.length c4] 26))
  generalize hbox : Obj.cells #[.string step, .slice A1 n1 c1, .slice A2 n2 c2, .slice A3 n3 c3, .slice A4 L.sigs.length c4] 26 = box at *
  have B1 : Hid ((w.alloc box).cell? ⟨w.heap.size, 1, none⟩ = some (.slice A1 n1 c1)) := Lib.hid (by rw [← hbox, World.cell?_alloc_at (hn := rfl)]; rfl)
  have B2 : Hid ((w.alloc box).cell? ⟨w.heap.size, 2, none⟩ = some (.slice A2 n2 c2)) := Lib.hid (by rw [← hbox, World.cell?_alloc_at (hn := rfl)]; rfl)
  have B3 : Hid ((w.alloc box).cell? ⟨w.heap.size, 3, none⟩ = some (.slice A3 n3 c3)) := Lib.hid (by rw [← hbox, World.cell?_alloc_at (hn := rfl)]; rfl)
  clear hbox
  refine (HX.out.write _ (l' := lk1 L 0) (by unfold lk1 stepP; rw [List.take_zero, List.flatMap_nil, List.append_nil, List.nil_append, ST.out]; rfl) (by have := lk1_len L 0; have := HT.out; omega)).mono ?_
  rintro e w1 ⟨rfl, hx1⟩
  have hc1 := (hx1.boxed 1).trans B1.out
  have HX1 := Lib.hid hx1
  clear hx1
  go_wp2_with fail
  go_loopw [18] (fun i wr => ∃ k : Nat, k ≤ n1 ∧ i = .int .i64 k ∧ Hid (TxtAt w box (lk1 L k) wr)) (fun i _ => n1 - (intOf i).toNat)
  case atStart => exact ⟨0, by omega, rfl, HX1⟩
  case round =>
    obtain ⟨k, hk, rfl, HA⟩ := hrel
    by_cases hlt : k < n1
    · obtain ⟨s, hs⟩ : ∃ s, L.cmd[k]? = some s := ⟨_, List.getElem?_eq_getElem (by rw [N1.out]; exact hlt)⟩
      obtain ⟨ad, hA, hcell⟩ := (H1.out.below HA.out.below) k s hs
      have hsz := HS.out.cmd s (List.mem_of_getElem? hs)
      have HK := Lib.hid hs
      clear hs
      subst hA
      go_wp2_with (go_at_call 41; refine (HA.out.write _ (l' := lk1 L (k + 1)) (lk1_succ HK.out) (by have := lk1_len L (k + 1); have := HT.out; omega)).mono ?_; rintro e w2 ⟨rfl, hx2⟩; have HX2 := Lib.hid hx2; clear hx2)
      go_roundw
      case rel => exact ⟨k + 1, by omega, by go_num, HX2⟩
      case measure => simp [intOf]; omega
    · have HA2 : Hid (TxtAt w box (lk2 L 0) wr) := Lib.hid (by rw [← lk1_end (k := k) (by rw [N1.out]; omega)]; exact HA.out)
      have hc2 := (HA.out.boxed 2).trans B2.out
      go_wp2_with fail
      go_loopw [30] (fun i wr => ∃ k : Nat, k ≤ n2 ∧ i = .int .i64 k ∧ Hid (TxtAt w box (lk2 L k) wr)) (fun i _ => n2 - (intOf i).toNat)
      case atStart => exact ⟨0, by omega, rfl, HA2⟩
      case round =>
        clear HA HA2 hc2 HX1 hc1
        obtain ⟨k2, hk2, rfl, HA⟩ := hrel
        by_cases hlt2 : k2 < n2
        · obtain ⟨s, hs⟩ : ∃ s, L.mats[k2]? = some s := ⟨_, List.getElem?_eq_getElem (by rw [N2.out]; exact hlt2)⟩
          obtain ⟨ad, hA, hcell, hcell2⟩ := (H2.out.below HA.out.below) k2 s hs
          have hsz := HS.out.mats s (List.mem_of_getElem? hs)
          have HK := Lib.hid hs
          clear hs
          subst hA
          go_wp2_with (go_at_call 41; refine ((HA.out.alloc _).write _ (l' := lk2 L (k2 + 1)) (lk2_succ HK.out) (by have := lk2_len L (k2 + 1); have := HT.out; omega)).mono ?_; rintro e w2 ⟨rfl, hx2⟩; have HX2 := Lib.hid hx2; clear hx2)
          go_roundw
          case rel => exact ⟨k2 + 1, by omega, by go_num, HX2⟩
          case measure => simp [intOf]; omega
        · have HA2 : Hid (TxtAt w box (lk3 L 0) wr) := Lib.hid (by rw [← lk2_end (k := k2) (by rw [N2.out]; omega)]; exact HA.out)
          have hc2 := (HA.out.boxed 3).trans B3.out
          go_wp2_with fail
          go_loopw [47] (fun i wr => ∃ k : Nat, k ≤ n3 ∧ i = .int .i64 k ∧ Hid (TxtAt w box (lk3 L k) wr)) (fun i _ => n3 - (intOf i).toNat)
          case atStart => exact ⟨0, by omega, rfl, HA2⟩
          case round =>
            clear HA HA2 hc2
            obtain ⟨k3, hk3, rfl, HA⟩ := hrel
            by_cases hlt3 : k3 < n3
            · obtain ⟨s, hs⟩ : ∃ s, L.prods[k3]? = some s := ⟨_, List.getElem?_eq_getElem (by rw [N3.out]; exact hlt3)⟩
              obtain ⟨ad, hA, hcell, hcell2⟩ := (H3.out.below HA.out.below) k3 s hs
              have hsz := HS.out.prods s (List.mem_of_getElem? hs)
              have HK := Lib.hid hs
              clear hs
              subst hA
              go_wp2_with (go_at_call 41; refine ((HA.out.alloc _).write _ (l' := lk3 L (k3 + 1)) (lk3_succ HK.out) (by have := lk3_len L (k3 + 1); have := HT.out; omega)).mono ?_; rintro e w2 ⟨rfl, hx2⟩; have HX2 := Lib.hid hx2; clear hx2)
              go_roundw
              case rel => exact ⟨k3 + 1, by omega, by go_num, HX2⟩
              case measure => simp [intOf]; omega
            · have HA2 : Hid (TxtAt w box (linkL L) wr) := Lib.hid (by rw [← lk3_end (k := k3) (by rw [N3.out]; omega)]; exact HA.out)
              go_wp2_with (go_at_call 44; refine HA2.out.text.mono ?_; rintro e w2 ⟨rfl, hx2⟩; have HX2 := Lib.hid hx2; clear hx2)
              go_ret
              exact ⟨rfl, HX2.out⟩
end Go.Proofs.YtnidamdfdlkoiaaDoor.A
