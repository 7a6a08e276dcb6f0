/- slices.IndexFunc and ContainsFunc over signatures, at whatever function that reads; the functions that are handed to them. -/
import Derived.Test.YtnidamdfdlkoiaaDoorB2
namespace Go.Proofs.YtnidamdfdlkoiaaDoor.A
open Go.RowKit

def findI {α : Type} (p : α → Bool) (l : List α) : Int := match l.findIdx? p with | some i => (i : Int) | none => -1
def sigV (a : ByteArray × ByteArray) : Value := .agg #[.string a.1, .string a.2]

theorem any_step {α : Type} {p : α → Bool} {l : List α} {k : Nat} {a : α} (hk : l[k]? = some a) (h : (l.take k).any p = false) (hp : p a = false) : (l.take (k + 1)).any p = false := by
  rw [List.take_add_one, hk, List.any_append, h]; simp [hp]
theorem findI_miss {α : Type} {p : α → Bool} {l : List α} {k : Nat} (hk : l.length ≤ k) (h : (l.take k).any p = false) : findI p l = -1 := by
  rw [List.take_of_length_le hk, List.any_eq_false] at h
  unfold findI
  rw [List.findIdx?_eq_none_iff.2 (fun x hx => by simpa using h x hx)]
theorem findI_hit {α : Type} {p : α → Bool} {l : List α} {k : Nat} {a : α} (hk : l[k]? = some a) (h : (l.take k).any p = false) (hp : p a = true) : findI p l = k := by
  unfold findI
  have : l.findIdx? p = some k := by
    rw [List.findIdx?_eq_some_iff_getElem]
    obtain ⟨hl, e⟩ := List.getElem?_eq_some_iff.1 hk
    refine ⟨hl, by rw [e]; exact hp, fun j hj => ?_⟩
    rw [List.any_eq_false] at h
    exact h _ (List.mem_take_iff_getElem.2 ⟨j, by omega, rfl⟩)
  rw [this]

set_option maxHeartbeats 1000000 in
set_option maxRecDepth 100000 in
theorem indexSig (g : FuncId) (cap : Array Value) (p : ByteArray × ByteArray → Bool) (A : Option Addr) (c n : Nat) (l : List (ByteArray × ByteArray)) (hn : l.length = n) (w : World) (hr : RdA w A l) (hl : n ≤ 1048576)
    (eg : ∀ args W, (callFunc g args).run Tryd.prog W = .ok (.enter g args) W)
    (hp : ∀ W x, Below w.heap.size w W → x ∈ l → Calls Tryd.prog g (#[sigV x] ++ cap) W fun e w' => e = .returned (.bool (p x)) ∧ Below W.heap.size W w') :
    Calls Tryd.prog 23 #[.slice A n c, .func (.func g) #[] cap] w fun e w' => e = .returned (.int .i64 (findI p l)) ∧ Below w.heap.size w w' := by
  have HR := Lib.hid hr
  have HP := Lib.hid hp
  have HN := Lib.hid hn
  clear hr hp
  clear hn
  go_enter Tryd.func23, Tryd.ntmps23
  go_wp2
  go_loopw [8] (fun i wr => ∃ k : Nat, k ≤ n ∧ i = .int .i64 k ∧ Hid ((l.take k).any p = false) ∧ Hid (Below w.heap.size w wr)) (fun i _ => n - (intOf i).toNat)
  case atStart => exact ⟨0, by omega, rfl, rfl, Below.refl _ _⟩
  case round =>
    obtain ⟨k, hk, rfl, HA, HB⟩ := hrel
    by_cases hlt : k < n
    · obtain ⟨a, ha⟩ : ∃ a, l[k]? = some a := ⟨_, List.getElem?_eq_getElem (by rw [HN.out]; exact hlt)⟩
      obtain ⟨ad, hA, hcell, hcell2⟩ := (HR.out.below HB.out) k a ha
      have HK := Lib.hid ha
      have HC := Lib.hid (HP.out wr a HB.out (List.mem_of_getElem? ha))
      clear ha
      subst hA
      cases hp : p a with
      | true =>
        have HF := Lib.hid (findI_hit HK.out HA.out hp)
        rw [hp] at HC
        clear hp
        go_wp2_with fail
        refine HC.out.mono ?_
        rintro e w1 ⟨rfl, hb⟩
        have HB1 := Lib.hid (HB.out.trans (hb.mono HB.out.size))
        clear hb
        go_wp2
        go_ret
        exact ⟨ret_int HF.out.symm, HB1.out⟩
      | false =>
        have HF := Lib.hid (any_step HK.out HA.out hp)
        rw [hp] at HC
        clear hp
        go_wp2_with fail
        refine HC.out.mono ?_
        rintro e w1 ⟨rfl, hb⟩
        have HB1 := Lib.hid (HB.out.trans (hb.mono HB.out.size))
        clear hb
        go_wp2
        go_roundw
        case rel => exact ⟨k + 1, by omega, by go_num, HF, HB1⟩
        case measure => simp [intOf]; omega
    · have HF := Lib.hid (findI_miss (by rw [HN.out]; omega) HA.out)
      go_wp2
      go_ret
      exact ⟨ret_int HF.out.symm, HB.out⟩

theorem findI_nonneg {α : Type} (p : α → Bool) (l : List α) : decide (0 ≤ findI p l) = l.any p := by
  unfold findI
  cases h : l.findIdx? p with
  | some i =>
    obtain ⟨hl, hp, _⟩ := List.findIdx?_eq_some_iff_getElem.1 h
    have h2 : l.any p = true := by
      rw [List.any_eq_true]
      exact ⟨l[i], List.getElem_mem _, hp⟩
    simp [h2]
  | none =>
    have h2 : l.any p = false := by
      rw [List.any_eq_false]
      intro x hx
      have := List.findIdx?_eq_none_iff.1 h x hx
      simp [this]
    rw [h2]
    rfl

set_option maxHeartbeats 1000000 in
set_option maxRecDepth 100000 in
theorem containsSig (g : FuncId) (cap : Array Value) (p : ByteArray × ByteArray → Bool) (A : Option Addr) (c n : Nat) (l : List (ByteArray × ByteArray)) (hn : l.length = n) (w : World) (hr : RdA w A l) (hl : n ≤ 1048576)
    (eg : ∀ args W, (callFunc g args).run Tryd.prog W = .ok (.enter g args) W)
    (hp : ∀ W x, Below w.heap.size w W → x ∈ l → Calls Tryd.prog g (#[sigV x] ++ cap) W fun e w' => e = .returned (.bool (p x)) ∧ Below W.heap.size W w') :
    Calls Tryd.prog 30 #[.slice A n c, .func (.func g) #[] cap] w fun e w' => e = .returned (.bool (l.any p)) ∧ Below w.heap.size w w' := by
  have HC := Lib.hid (indexSig g cap p A c n l hn w hr hl eg hp)
  have HE := Lib.hid (findI_nonneg p l)
  generalize findI p l = z at *
  clear hr hp eg hl hn
  go_enter Tryd.func30, Tryd.ntmps30
  go_wp2_with (go_at_call 23; refine HC.out.mono ?_; rintro e w' ⟨rfl, hb⟩; have HB := Lib.hid hb; clear hb)
  go_ret
  exact ⟨ret_bool HE.out, HB.out⟩

def keyIs (k : ByteArray) (x : ByteArray × ByteArray) : Bool := x.1.toList == k.toList
set_option maxHeartbeats 1000000 in
set_option maxRecDepth 100000 in
theorem closKey (x : ByteArray × ByteArray) (s : ByteArray) (b : Nat) (w : World) (hc : w.cell? ⟨b, 0, none⟩ = some (.string s)) :
    Calls Tryd.prog 31 #[sigV x, .pointer (some ⟨b, 0, none⟩)] w fun e w' => e = .returned (.bool (keyIs s x)) ∧ Below w.heap.size w w' := by
  have hlt := block_lt_of_cell hc
  have hlt' : b < w.heap.size := hlt
  clear hlt
  go_enter Tryd.func31, Tryd.ntmps31
  unfold sigV
  go_wp2
  go_ret
  exact ⟨rfl, (Below.refl _ _).alloc (Nat.le_refl _) _⟩
end Go.Proofs.YtnidamdfdlkoiaaDoor.A
