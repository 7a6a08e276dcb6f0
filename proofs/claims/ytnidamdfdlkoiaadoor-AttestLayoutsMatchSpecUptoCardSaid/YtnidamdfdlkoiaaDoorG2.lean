/- slices.IndexFunc and ContainsFunc over keys and steps; the functions that the checks of a layout hand to them. -/
import Derived.Test.YtnidamdfdlkoiaaDoorG1
namespace Go.Proofs.YtnidamdfdlkoiaaDoor.A
open Go.RowKit

set_option maxHeartbeats 1000000 in
set_option maxRecDepth 100000 in
theorem indexKey (g : FuncId) (cap : Array Value) (p : KeyD → Bool) (A : Option Addr) (c n : Nat) (l : List KeyD) (hn : l.length = n) (w : World) (hr : RdK w A l) (hl : n ≤ 1048576)
    (eg : ∀ args W, (callFunc g args).run Tryd.prog W = .ok (.enter g args) W)
    (hp : ∀ W x, Below w.heap.size w W → x ∈ l → Calls Tryd.prog g (#[x.val] ++ cap) W fun e w' => e = .returned (.bool (p x)) ∧ Below W.heap.size W w') :
    Calls Tryd.prog 74 #[.slice A n c, .func (.func g) #[] cap] w fun e w' => e = .returned (.int .i64 (findI p l)) ∧ Below w.heap.size w w' := by
  have HR := Lib.hid hr
  have HP := Lib.hid hp
  have HN := Lib.hid hn
  clear hr hp
  clear hn
  go_enter Tryd.func74, Tryd.ntmps74
  go_wp2
  go_loopw [8] (fun i wr => ∃ k : Nat, k ≤ n ∧ i = .int .i64 k ∧ Hid ((l.take k).any p = false) ∧ Hid (Below w.heap.size w wr)) (fun i _ => n - (intOf i).toNat)
  case atStart => exact ⟨0, by omega, rfl, rfl, Below.refl _ _⟩
  case round =>
    obtain ⟨k, hk, rfl, HA, HB⟩ := hrel
    by_cases hlt : k < n
    · obtain ⟨a, ha⟩ : ∃ a, l[k]? = some a := ⟨_, List.getElem?_eq_getElem (by rw [HN.out]; exact hlt)⟩
      obtain ⟨ad, hA, hcell, hcell2, hcell3⟩ := (HR.out.below HB.out) k a ha
      have HK := Lib.hid ha
      have HC := Lib.hid (HP.out wr a HB.out (List.mem_of_getElem? ha))
      clear ha
      subst hA
      cases hp : p a with
      | true =>
        have HF := Lib.hid (findI_hit HK.out HA.out hp)
        rw [hp] at HC
        clear hp
        go_wp2_with fail
        refine HC.out.mono ?_
        rintro e w1 ⟨rfl, hb⟩
        have HB1 := Lib.hid (HB.out.trans (hb.mono HB.out.size))
        clear hb
        go_wp2
        go_ret
        exact ⟨ret_int HF.out.symm, HB1.out⟩
      | false =>
        have HF := Lib.hid (any_step HK.out HA.out hp)
        rw [hp] at HC
        clear hp
        go_wp2_with fail
        refine HC.out.mono ?_
        rintro e w1 ⟨rfl, hb⟩
        have HB1 := Lib.hid (HB.out.trans (hb.mono HB.out.size))
        clear hb
        go_wp2
        go_roundw
        case rel => exact ⟨k + 1, by omega, by go_num, HF, HB1⟩
        case measure => simp [intOf]; omega
    · have HF := Lib.hid (findI_miss (by rw [HN.out]; omega) HA.out)
      go_wp2
      go_ret
      exact ⟨ret_int HF.out.symm, HB.out⟩

set_option maxHeartbeats 1000000 in
set_option maxRecDepth 100000 in
theorem containsKey (g : FuncId) (cap : Array Value) (p : KeyD → Bool) (A : Option Addr) (c n : Nat) (l : List KeyD) (hn : l.length = n) (w : World) (hr : RdK w A l) (hl : n ≤ 1048576)
    (eg : ∀ args W, (callFunc g args).run Tryd.prog W = .ok (.enter g args) W)
    (hp : ∀ W x, Below w.heap.size w W → x ∈ l → Calls Tryd.prog g (#[x.val] ++ cap) W fun e w' => e = .returned (.bool (p x)) ∧ Below W.heap.size W w') :
    Calls Tryd.prog 62 #[.slice A n c, .func (.func g) #[] cap] w fun e w' => e = .returned (.bool (l.any p)) ∧ Below w.heap.size w w' := by
  have HC := Lib.hid (indexKey g cap p A c n l hn w hr hl eg hp)
  have HE := Lib.hid (findI_nonneg p l)
  generalize findI p l = z at *
  clear hr hp eg hl hn
  go_enter Tryd.func62, Tryd.ntmps62
  go_wp2_with (go_at_call 74; refine HC.out.mono ?_; rintro e w' ⟨rfl, hb⟩; have HB := Lib.hid hb; clear hb)
  go_ret
  exact ⟨ret_bool HE.out, HB.out⟩

set_option maxHeartbeats 1000000 in
set_option maxRecDepth 100000 in
theorem indexStep (g : FuncId) (cap : Array Value) (p : StepD → Bool) (A : Option Addr) (c n : Nat) (l : List StepD) (hn : l.length = n) (w : World) (hr : RdSt w A l) (hl : n ≤ 1048576)
    (eg : ∀ args W, (callFunc g args).run Tryd.prog W = .ok (.enter g args) W)
    (hp : ∀ W x A1 A2 A3 A4 c1 c2 c3 c4, Below w.heap.size w W → x ∈ l → StepR W x A1 A2 A3 A4 c1 c2 c3 c4 → Calls Tryd.prog g (#[stepV x A1 A2 A3 A4 c1 c2 c3 c4] ++ cap) W fun e w' => e = .returned (.bool (p x)) ∧ Below W.heap.size W w') :
    Calls Tryd.prog 75 #[.slice A n c, .func (.func g) #[] cap] w fun e w' => e = .returned (.int .i64 (findI p l)) ∧ Below w.heap.size w w' := by
  have HR := Lib.hid hr
  have HP := Lib.hid hp
  have HN := Lib.hid hn
  clear hr hp
  clear hn
  go_enter Tryd.func75, Tryd.ntmps75
  go_wp2
  go_loopw [8] (fun i wr => ∃ k : Nat, k ≤ n ∧ i = .int .i64 k ∧ Hid ((l.take k).any p = false) ∧ Hid (Below w.heap.size w wr)) (fun i _ => n - (intOf i).toNat)
  case atStart => exact ⟨0, by omega, rfl, rfl, Below.refl _ _⟩
  case round =>
    obtain ⟨k, hk, rfl, HA, HB⟩ := hrel
    by_cases hlt : k < n
    · obtain ⟨a, ha⟩ : ∃ a, l[k]? = some a := ⟨_, List.getElem?_eq_getElem (by rw [HN.out]; exact hlt)⟩
      obtain ⟨ad, E1, E2, E3, E4, e1, e2, e3, e4, hA, hsr, q0, q1, q2, q3, q4, q5⟩ := (HR.out.below HB.out) k a ha
      have HK := Lib.hid ha
      have HC := Lib.hid (HP.out wr a E1 E2 E3 E4 e1 e2 e3 e4 HB.out (List.mem_of_getElem? ha) hsr)
      clear ha hsr
      subst hA
      unfold stepV at HC
      cases hp : p a with
      | true =>
        have HF := Lib.hid (findI_hit HK.out HA.out hp)
        rw [hp] at HC
        clear hp
        go_wp2_with fail
        refine HC.out.mono ?_
        rintro e w1 ⟨rfl, hb⟩
        have HB1 := Lib.hid (HB.out.trans (hb.mono HB.out.size))
        clear hb
        go_wp2
        go_ret
        exact ⟨ret_int HF.out.symm, HB1.out⟩
      | false =>
        have HF := Lib.hid (any_step HK.out HA.out hp)
        rw [hp] at HC
        clear hp
        go_wp2_with fail
        refine HC.out.mono ?_
        rintro e w1 ⟨rfl, hb⟩
        have HB1 := Lib.hid (HB.out.trans (hb.mono HB.out.size))
        clear hb
        go_wp2
        go_roundw
        case rel => exact ⟨k + 1, by omega, by go_num, HF, HB1⟩
        case measure => simp [intOf]; omega
    · have HF := Lib.hid (findI_miss (by rw [HN.out]; omega) HA.out)
      go_wp2
      go_ret
      exact ⟨ret_int HF.out.symm, HB.out⟩

set_option maxHeartbeats 1000000 in
set_option maxRecDepth 100000 in
theorem containsStep (g : FuncId) (cap : Array Value) (p : StepD → Bool) (A : Option Addr) (c n : Nat) (l : List StepD) (hn : l.length = n) (w : World) (hr : RdSt w A l) (hl : n ≤ 1048576)
    (eg : ∀ args W, (callFunc g args).run Tryd.prog W = .ok (.enter g args) W)
    (hp : ∀ W x A1 A2 A3 A4 c1 c2 c3 c4, Below w.heap.size w W → x ∈ l → StepR W x A1 A2 A3 A4 c1 c2 c3 c4 → Calls Tryd.prog g (#[stepV x A1 A2 A3 A4 c1 c2 c3 c4] ++ cap) W fun e w' => e = .returned (.bool (p x)) ∧ Below W.heap.size W w') :
    Calls Tryd.prog 64 #[.slice A n c, .func (.func g) #[] cap] w fun e w' => e = .returned (.bool (l.any p)) ∧ Below w.heap.size w w' := by
  have HC := Lib.hid (indexStep g cap p A c n l hn w hr hl eg hp)
  have HE := Lib.hid (findI_nonneg p l)
  generalize findI p l = z at *
  clear hr hp eg hl hn
  go_enter Tryd.func64, Tryd.ntmps64
  go_wp2_with (go_at_call 75; refine HC.out.mono ?_; rintro e w' ⟨rfl, hb⟩; have HB := Lib.hid hb; clear hb)
  go_ret
  exact ⟨ret_bool HE.out, HB.out⟩

section
variable {b : Nat} {w W : World} {o : Obj} {x0 x1 x2 x3 x4 x5 : Value} {t : TypeId}
theorem FiveAt.four (h : FiveAt b (.cells #[x0, x1, x2, x3] t) W) : W.cell? ⟨b, 0, none⟩ = some x0 ∧ W.cell? ⟨b, 1, none⟩ = some x1 ∧ W.cell? ⟨b, 2, none⟩ = some x2 ∧ W.cell? ⟨b, 3, none⟩ = some x3 := by
  unfold FiveAt at h
  refine ⟨?_, ?_, ?_, ?_⟩ <;> simp [World.cell?, h]
theorem FiveAt.six (h : FiveAt b (.cells #[x0, x1, x2, x3, x4, x5] t) W) : W.cell? ⟨b, 0, none⟩ = some x0 ∧ W.cell? ⟨b, 1, none⟩ = some x1 ∧ W.cell? ⟨b, 2, none⟩ = some x2 ∧ W.cell? ⟨b, 3, none⟩ = some x3 ∧ W.cell? ⟨b, 4, none⟩ = some x4 ∧ W.cell? ⟨b, 5, none⟩ = some x5 := by
  unfold FiveAt at h
  refine ⟨?_, ?_, ?_, ?_, ?_, ?_⟩ <;> simp [World.cell?, h]
theorem FiveAt.new (W : World) (o : Obj) : FiveAt W.heap.size o (W.alloc o) := heap_alloc_new W o
end

set_option maxHeartbeats 1000000 in
set_option maxRecDepth 100000 in
theorem closSame (x k : KeyD) (b : Nat) (w : World) (hc : FiveAt b (.cells #[.string k.name, .string k.secret, .string k.pub] 28) w) :
    Calls Tryd.prog 63 #[x.val, .pointer (some ⟨b, 0, none⟩)] w fun e w' => e = .returned (.bool (sameKey k x)) ∧ Below w.heap.size w w' := by
  have hlt := hc.lt
  obtain ⟨k0, k1, k2⟩ := hc.three
  clear hc
  unfold KeyD.val sameKey
  go_enter Tryd.func63, Tryd.ntmps63
  cases h1 : (x.name.toList == k.name.toList) <;> (go_wp2; go_ret; exact ⟨by simp, (Below.refl _ _).alloc (Nat.le_refl _) _⟩)

set_option maxHeartbeats 1000000 in
set_option maxRecDepth 100000 in
theorem closStepKey (x : KeyD) (s : ByteArray) (b : Nat) (w : World) (k0 : w.cell? ⟨b, 0, none⟩ = some (.string s)) :
    Calls Tryd.prog 66 #[x.val, .pointer (some ⟨b, 0, none⟩)] w fun e w' => e = .returned (.bool (keyNm s x)) ∧ Below w.heap.size w w' := by
  have hlt := block_lt_of_cell k0
  have hlt' : b < w.heap.size := hlt
  clear hlt
  unfold KeyD.val
  go_enter Tryd.func66, Tryd.ntmps66
  go_wp2
  go_ret
  exact ⟨rfl, (Below.refl _ _).alloc (Nat.le_refl _) _⟩

set_option maxHeartbeats 1000000 in
set_option maxRecDepth 100000 in
theorem closStepName (x : StepD) (A1 A2 A3 A4 : Option Addr) (c1 c2 c3 c4 : Nat) (s : ByteArray) (b : Nat) (w : World) (k0 : w.cell? ⟨b, 0, none⟩ = some (.string s)) :
    Calls Tryd.prog 65 #[stepV x A1 A2 A3 A4 c1 c2 c3 c4, .pointer (some ⟨b, 0, none⟩)] w fun e w' => e = .returned (.bool (stepIs s x)) ∧ Below w.heap.size w w' := by
  have hlt := block_lt_of_cell k0
  have hlt' : b < w.heap.size := hlt
  clear hlt
  unfold stepV
  go_enter Tryd.func65, Tryd.ntmps65
  go_wp2
  go_ret
  exact ⟨rfl, (Below.refl _ _).alloc (Nat.le_refl _) _⟩

set_option maxHeartbeats 1000000 in
set_option maxRecDepth 100000 in
theorem closRuleStep (x : StepD) (A1 A2 A3 A4 : Option Addr) (c1 c2 c3 c4 : Nat) (s : ByteArray) (b : Nat) (w : World) (k2 : w.cell? ⟨b, 2, none⟩ = some (.string s)) :
    Calls Tryd.prog 76 #[stepV x A1 A2 A3 A4 c1 c2 c3 c4, .pointer (some ⟨b, 0, none⟩)] w fun e w' => e = .returned (.bool (stepIs s x)) ∧ Below w.heap.size w w' := by
  have hlt := block_lt_of_cell k2
  have hlt' : b < w.heap.size := hlt
  clear hlt
  unfold stepV
  go_enter Tryd.func76, Tryd.ntmps76
  go_wp2
  go_ret
  exact ⟨rfl, (Below.refl _ _).alloc (Nat.le_refl _) _⟩
end Go.Proofs.YtnidamdfdlkoiaaDoor.A
