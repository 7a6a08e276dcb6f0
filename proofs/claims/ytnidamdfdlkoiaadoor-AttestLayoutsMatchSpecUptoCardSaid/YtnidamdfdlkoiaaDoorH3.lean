/- The texts of rules. -/
import Derived.Test.YtnidamdfdlkoiaaDoorH2
namespace Go.Proofs.YtnidamdfdlkoiaaDoor.A
open Go.RowKit

set_option maxHeartbeats 1000000 in
set_option maxRecDepth 100000 in
theorem ruleWords_any (w : World) :
    Calls Tryd.prog 60 #[] w fun e w' => e = .returned (.agg #[.string ⟨#[]⟩, .string ⟨#[97, 108, 108, 111, 119]⟩, .string ⟨#[114, 101, 113, 117, 105, 114, 101]⟩, .string ⟨#[102, 111, 114, 98, 105, 100]⟩, .string ⟨#[109, 97, 116, 99, 104]⟩, .string ⟨#[99, 114, 101, 97, 116, 101]⟩, .string ⟨#[100, 101, 108, 101, 116, 101]⟩, .string ⟨#[109, 111, 100, 105, 102, 121]⟩]) ∧ Below w.heap.size w w' := by
  go_enter Tryd.func60, Tryd.ntmps60
  go_wp2
  refine bodyPost_ret (v := .agg #[.string ⟨#[]⟩, .string ⟨#[97, 108, 108, 111, 119]⟩, .string ⟨#[114, 101, 113, 117, 105, 114, 101]⟩, .string ⟨#[102, 111, 114, 98, 105, 100]⟩, .string ⟨#[109, 97, 116, 99, 104]⟩, .string ⟨#[99, 114, 101, 97, 116, 101]⟩, .string ⟨#[100, 101, 108, 101, 116, 101]⟩, .string ⟨#[109, 111, 100, 105, 102, 121]⟩]) (by simp [results, Tryd.results60, go_sem]) rfl ?_
  exact ⟨rfl, (Below.refl _ _).alloc (Nat.le_refl _) _⟩
theorem addf (a b : ByteArray) (n m : Nat) (h1 : a.size ≤ n) (h2 : b.size ≤ m) (h : n + m ≤ 1000000000000) : ∀ W : World, (Op.stringOp .add a b).run Tryd.prog W = .ok (.string (a ++ b)) W := fun W => run_string_add_sum W _ _ (by omega)
theorem size_add {a b : ByteArray} {n m : Nat} (h1 : a.size ≤ n) (h2 : b.size ≤ m) : (a ++ b).size ≤ n + m := by rw [ByteArray.size_append]; omega
theorem ruleHead_eq (list pat step : ByteArray) (of : Bool) (k : Int) : ruleHead list ⟨k, pat, step, of⟩ = list ++ kSp ++ kwB k ++ kSp ++ pat := rfl
theorem ruleS_four (list pat step : ByteArray) (of : Bool) : ruleS list ⟨4, pat, step, of⟩ = ruleHead list ⟨4, pat, step, of⟩ ++ (kSp ++ ofB of ++ kSp ++ step) ++ kNl := rfl
theorem ruleS_other (list pat step : ByteArray) (of : Bool) (k : Int) (h : k ≠ 4) : ruleS list ⟨k, pat, step, of⟩ = ruleHead list ⟨k, pat, step, of⟩ ++ kNl := by unfold ruleS; rw [if_neg h]
theorem ret_str {a b : ByteArray} (h : a = b) : Ending.returned (.string a) = .returned (.string b) := by rw [h]
theorem four_box {w wr : World} {x0 x1 x2 x3 : Value} {t : TypeId} (h : BoxAt w (.cells #[x0, x1, x2, x3] t) wr) :
    wr.cell? ⟨w.heap.size, 0, none⟩ = some x0 ∧ wr.cell? ⟨w.heap.size, 1, none⟩ = some x1 ∧ wr.cell? ⟨w.heap.size, 2, none⟩ = some x2 ∧ wr.cell? ⟨w.heap.size, 3, none⟩ = some x3 ∧ BoxAt w (.cells #[x0, x1, x2, x3] t) wr :=
  ⟨h.four.four.1, h.four.four.2.1, h.four.four.2.2.1, h.four.four.2.2.2, h⟩
attribute [local go_sem ↓] Go.wp_at_zero Go.wp_at_succ

set_option maxHeartbeats 8000000 in
set_option maxRecDepth 100000 in
theorem ruleText_any (list : ByteArray) (r : RuleD) (w : World) (hr : r.Right) (hs : r.Small) (hl : list.size ≤ 8) :
    Calls Tryd.prog 43 #[.string list, .agg #[.int .i64 r.kind, .string r.pat, .string r.step, .bool r.of]] w fun e w' => e = .returned (.string (ruleS list r)) ∧ Below w.heap.size w w' := by
  have hk := hr.kind
  have hp := pathB_size hr.pat
  have hz := hs.step
  obtain ⟨kd, pat, step, of⟩ := r
  dsimp only at hk hp hz
  clear hr hs
  have HW := Lib.hid ruleWords_any
  have HB0 := Lib.hid (BoxAt.new w (.cells #[.int .i64 kd, .string pat, .string step, .bool of] 83))
  obtain ⟨hk1, hk7⟩ := hk
  rcases (show kd = 1 ∨ kd = 2 ∨ kd = 3 ∨ kd = 4 ∨ kd = 5 ∨ kd = 6 ∨ kd = 7 from by omega) with rfl | rfl | rfl | rfl | rfl | rfl | rfl
  · have z1 := size_add hl (show (⟨#[32]⟩ : ByteArray).size ≤ 1 from by decide)
    have z2 := size_add z1 (show (⟨#[97, 108, 108, 111, 119]⟩ : ByteArray).size ≤ 5 from by decide)
    have z3 := size_add z2 (show (⟨#[32]⟩ : ByteArray).size ≤ 1 from by decide)
    have a1 := addf list (⟨#[32]⟩ : ByteArray) 8 1 hl (by decide) (by decide)
    have a2 := addf (list ++ (⟨#[32]⟩ : ByteArray)) (⟨#[97, 108, 108, 111, 119]⟩ : ByteArray) (8 + 1) 5 z1 (by decide) (by decide)
    have a3 := addf (list ++ (⟨#[32]⟩ : ByteArray) ++ (⟨#[97, 108, 108, 111, 119]⟩ : ByteArray)) (⟨#[32]⟩ : ByteArray) (8 + 1 + 5) 1 z2 (by decide) (by decide)
    have a4 := addf (list ++ (⟨#[32]⟩ : ByteArray) ++ (⟨#[97, 108, 108, 111, 119]⟩ : ByteArray) ++ (⟨#[32]⟩ : ByteArray)) pat (8 + 1 + 5 + 1) 200 z3 hp (by decide)
    clear z1 z2 z3
    have HL := Lib.hid (four_box (BoxAt.drew HB0.out))
    have hidx : ∀ w, (Instr.index 99 (.agg #[.string ⟨#[]⟩, .string ⟨#[97, 108, 108, 111, 119]⟩, .string ⟨#[114, 101, 113, 117, 105, 114, 101]⟩, .string ⟨#[102, 111, 114, 98, 105, 100]⟩, .string ⟨#[109, 97, 116, 99, 104]⟩, .string ⟨#[99, 114, 101, 97, 116, 101]⟩, .string ⟨#[100, 101, 108, 101, 116, 101]⟩, .string ⟨#[109, 111, 100, 105, 102, 121]⟩]) (.int .i64 1)).run Tryd.prog w = .ok (.string ⟨#[97, 108, 108, 111, 119]⟩) w := fun _ => by kernel_rfl
    go_enter Tryd.func43, Tryd.ntmps43
    go_wp2_with fail
    first | go_region_held3 (fun w' => w'.cell? ⟨w.heap.size, 0, none⟩ = some (.int .i64 1) ∧ w'.cell? ⟨w.heap.size, 1, none⟩ = some (.string pat) ∧ w'.cell? ⟨w.heap.size, 2, none⟩ = some (.string step) ∧ w'.cell? ⟨w.heap.size, 3, none⟩ = some (.bool of) ∧ BoxAt w (.cells #[.int .i64 1, .string pat, .string step, .bool of] 83) w')
      (first | exact HL.out | (go_split_ands; exact four_box (BoxAt.trans (by assumption) hb)) | (go_split_ands; exact four_box (by assumption)))
      (first | (go_at_call 60; refine (HW.out _).mono ?_; rintro e w1 ⟨rfl, hb⟩)) | fail
    go_split_ands
    go_wp2
    go_ret
    exact ⟨ret_str (by rw [ruleS_other _ _ _ _ _ (by decide), ruleHead_eq]; rfl), BoxAt.below (by assumption)⟩
  · have z1 := size_add hl (show (⟨#[32]⟩ : ByteArray).size ≤ 1 from by decide)
    have z2 := size_add z1 (show (⟨#[114, 101, 113, 117, 105, 114, 101]⟩ : ByteArray).size ≤ 7 from by decide)
    have z3 := size_add z2 (show (⟨#[32]⟩ : ByteArray).size ≤ 1 from by decide)
    have a1 := addf list (⟨#[32]⟩ : ByteArray) 8 1 hl (by decide) (by decide)
    have a2 := addf (list ++ (⟨#[32]⟩ : ByteArray)) (⟨#[114, 101, 113, 117, 105, 114, 101]⟩ : ByteArray) (8 + 1) 7 z1 (by decide) (by decide)
    have a3 := addf (list ++ (⟨#[32]⟩ : ByteArray) ++ (⟨#[114, 101, 113, 117, 105, 114, 101]⟩ : ByteArray)) (⟨#[32]⟩ : ByteArray) (8 + 1 + 7) 1 z2 (by decide) (by decide)
    have a4 := addf (list ++ (⟨#[32]⟩ : ByteArray) ++ (⟨#[114, 101, 113, 117, 105, 114, 101]⟩ : ByteArray) ++ (⟨#[32]⟩ : ByteArray)) pat (8 + 1 + 7 + 1) 200 z3 hp (by decide)
    clear z1 z2 z3
    have HL := Lib.hid (four_box (BoxAt.drew HB0.out))
    have hidx : ∀ w, (Instr.index 99 (.agg #[.string ⟨#[]⟩, .string ⟨#[97, 108, 108, 111, 119]⟩, .string ⟨#[114, 101, 113, 117, 105, 114, 101]⟩, .string ⟨#[102, 111, 114, 98, 105, 100]⟩, .string ⟨#[109, 97, 116, 99, 104]⟩, .string ⟨#[99, 114, 101, 97, 116, 101]⟩, .string ⟨#[100, 101, 108, 101, 116, 101]⟩, .string ⟨#[109, 111, 100, 105, 102, 121]⟩]) (.int .i64 2)).run Tryd.prog w = .ok (.string ⟨#[114, 101, 113, 117, 105, 114, 101]⟩) w := fun _ => by kernel_rfl
    go_enter Tryd.func43, Tryd.ntmps43
    go_wp2_with fail
    first | go_region_held3 (fun w' => w'.cell? ⟨w.heap.size, 0, none⟩ = some (.int .i64 2) ∧ w'.cell? ⟨w.heap.size, 1, none⟩ = some (.string pat) ∧ w'.cell? ⟨w.heap.size, 2, none⟩ = some (.string step) ∧ w'.cell? ⟨w.heap.size, 3, none⟩ = some (.bool of) ∧ BoxAt w (.cells #[.int .i64 2, .string pat, .string step, .bool of] 83) w')
      (first | exact HL.out | (go_split_ands; exact four_box (BoxAt.trans (by assumption) hb)) | (go_split_ands; exact four_box (by assumption)))
      (first | (go_at_call 60; refine (HW.out _).mono ?_; rintro e w1 ⟨rfl, hb⟩)) | fail
    go_split_ands
    go_wp2
    go_ret
    exact ⟨ret_str (by rw [ruleS_other _ _ _ _ _ (by decide), ruleHead_eq]; rfl), BoxAt.below (by assumption)⟩
  · have z1 := size_add hl (show (⟨#[32]⟩ : ByteArray).size ≤ 1 from by decide)
    have z2 := size_add z1 (show (⟨#[102, 111, 114, 98, 105, 100]⟩ : ByteArray).size ≤ 6 from by decide)
    have z3 := size_add z2 (show (⟨#[32]⟩ : ByteArray).size ≤ 1 from by decide)
    have a1 := addf list (⟨#[32]⟩ : ByteArray) 8 1 hl (by decide) (by decide)
    have a2 := addf (list ++ (⟨#[32]⟩ : ByteArray)) (⟨#[102, 111, 114, 98, 105, 100]⟩ : ByteArray) (8 + 1) 6 z1 (by decide) (by decide)
    have a3 := addf (list ++ (⟨#[32]⟩ : ByteArray) ++ (⟨#[102, 111, 114, 98, 105, 100]⟩ : ByteArray)) (⟨#[32]⟩ : ByteArray) (8 + 1 + 6) 1 z2 (by decide) (by decide)
    have a4 := addf (list ++ (⟨#[32]⟩ : ByteArray) ++ (⟨#[102, 111, 114, 98, 105, 100]⟩ : ByteArray) ++ (⟨#[32]⟩ : ByteArray)) pat (8 + 1 + 6 + 1) 200 z3 hp (by decide)
    clear z1 z2 z3
    have HL := Lib.hid (four_box (BoxAt.drew HB0.out))
    have hidx : ∀ w, (Instr.index 99 (.agg #[.string ⟨#[]⟩, .string ⟨#[97, 108, 108, 111, 119]⟩, .string ⟨#[114, 101, 113, 117, 105, 114, 101]⟩, .string ⟨#[102, 111, 114, 98, 105, 100]⟩, .string ⟨#[109, 97, 116, 99, 104]⟩, .string ⟨#[99, 114, 101, 97, 116, 101]⟩, .string ⟨#[100, 101, 108, 101, 116, 101]⟩, .string ⟨#[109, 111, 100, 105, 102, 121]⟩]) (.int .i64 3)).run Tryd.prog w = .ok (.string ⟨#[102, 111, 114, 98, 105, 100]⟩) w := fun _ => by kernel_rfl
    go_enter Tryd.func43, Tryd.ntmps43
    go_wp2_with fail
    first | go_region_held3 (fun w' => w'.cell? ⟨w.heap.size, 0, none⟩ = some (.int .i64 3) ∧ w'.cell? ⟨w.heap.size, 1, none⟩ = some (.string pat) ∧ w'.cell? ⟨w.heap.size, 2, none⟩ = some (.string step) ∧ w'.cell? ⟨w.heap.size, 3, none⟩ = some (.bool of) ∧ BoxAt w (.cells #[.int .i64 3, .string pat, .string step, .bool of] 83) w')
      (first | exact HL.out | (go_split_ands; exact four_box (BoxAt.trans (by assumption) hb)) | (go_split_ands; exact four_box (by assumption)))
      (first | (go_at_call 60; refine (HW.out _).mono ?_; rintro e w1 ⟨rfl, hb⟩)) | fail
    go_split_ands
    go_wp2
    go_ret
    exact ⟨ret_str (by rw [ruleS_other _ _ _ _ _ (by decide), ruleHead_eq]; rfl), BoxAt.below (by assumption)⟩
  · cases of with
    | true =>
      have z1 := size_add hl (show (⟨#[32]⟩ : ByteArray).size ≤ 1 from by decide)
      have z2 := size_add z1 (show (⟨#[109, 97, 116, 99, 104]⟩ : ByteArray).size ≤ 5 from by decide)
      have z3 := size_add z2 (show (⟨#[32]⟩ : ByteArray).size ≤ 1 from by decide)
      have a1 := addf list (⟨#[32]⟩ : ByteArray) 8 1 hl (by decide) (by decide)
      have a2 := addf (list ++ (⟨#[32]⟩ : ByteArray)) (⟨#[109, 97, 116, 99, 104]⟩ : ByteArray) (8 + 1) 5 z1 (by decide) (by decide)
      have a3 := addf (list ++ (⟨#[32]⟩ : ByteArray) ++ (⟨#[109, 97, 116, 99, 104]⟩ : ByteArray)) (⟨#[32]⟩ : ByteArray) (8 + 1 + 5) 1 z2 (by decide) (by decide)
      have a4 := addf (list ++ (⟨#[32]⟩ : ByteArray) ++ (⟨#[109, 97, 116, 99, 104]⟩ : ByteArray) ++ (⟨#[32]⟩ : ByteArray)) pat (8 + 1 + 5 + 1) 200 z3 hp (by decide)
      clear z1 z2 z3
      have HL := Lib.hid (four_box (BoxAt.drew HB0.out))
      have hidx : ∀ w, (Instr.index 99 (.agg #[.string ⟨#[]⟩, .string ⟨#[97, 108, 108, 111, 119]⟩, .string ⟨#[114, 101, 113, 117, 105, 114, 101]⟩, .string ⟨#[102, 111, 114, 98, 105, 100]⟩, .string ⟨#[109, 97, 116, 99, 104]⟩, .string ⟨#[99, 114, 101, 97, 116, 101]⟩, .string ⟨#[100, 101, 108, 101, 116, 101]⟩, .string ⟨#[109, 111, 100, 105, 102, 121]⟩]) (.int .i64 4)).run Tryd.prog w = .ok (.string ⟨#[109, 97, 116, 99, 104]⟩) w := fun _ => by kernel_rfl
      go_enter Tryd.func43, Tryd.ntmps43
      go_wp2_with fail
      first | go_region_held3 (fun w' => w'.cell? ⟨w.heap.size, 0, none⟩ = some (.int .i64 4) ∧ w'.cell? ⟨w.heap.size, 1, none⟩ = some (.string pat) ∧ w'.cell? ⟨w.heap.size, 2, none⟩ = some (.string step) ∧ w'.cell? ⟨w.heap.size, 3, none⟩ = some (.bool true) ∧ BoxAt w (.cells #[.int .i64 4, .string pat, .string step, .bool true] 83) w')
        (first | exact HL.out | (go_split_ands; exact four_box (BoxAt.trans (by assumption) hb)) | (go_split_ands; exact four_box (by assumption)))
        (first | (go_at_call 60; refine (HW.out _).mono ?_; rintro e w1 ⟨rfl, hb⟩)) | fail
      go_split_ands
      go_wp2
      go_ret
      exact ⟨ret_str (by rw [ruleS_four, ruleHead_eq]; rfl), BoxAt.below (by assumption)⟩
    | false =>
      have z1 := size_add hl (show (⟨#[32]⟩ : ByteArray).size ≤ 1 from by decide)
      have z2 := size_add z1 (show (⟨#[109, 97, 116, 99, 104]⟩ : ByteArray).size ≤ 5 from by decide)
      have z3 := size_add z2 (show (⟨#[32]⟩ : ByteArray).size ≤ 1 from by decide)
      have a1 := addf list (⟨#[32]⟩ : ByteArray) 8 1 hl (by decide) (by decide)
      have a2 := addf (list ++ (⟨#[32]⟩ : ByteArray)) (⟨#[109, 97, 116, 99, 104]⟩ : ByteArray) (8 + 1) 5 z1 (by decide) (by decide)
      have a3 := addf (list ++ (⟨#[32]⟩ : ByteArray) ++ (⟨#[109, 97, 116, 99, 104]⟩ : ByteArray)) (⟨#[32]⟩ : ByteArray) (8 + 1 + 5) 1 z2 (by decide) (by decide)
      have a4 := addf (list ++ (⟨#[32]⟩ : ByteArray) ++ (⟨#[109, 97, 116, 99, 104]⟩ : ByteArray) ++ (⟨#[32]⟩ : ByteArray)) pat (8 + 1 + 5 + 1) 200 z3 hp (by decide)
      clear z1 z2 z3
      have HL := Lib.hid (four_box (BoxAt.drew HB0.out))
      have hidx : ∀ w, (Instr.index 99 (.agg #[.string ⟨#[]⟩, .string ⟨#[97, 108, 108, 111, 119]⟩, .string ⟨#[114, 101, 113, 117, 105, 114, 101]⟩, .string ⟨#[102, 111, 114, 98, 105, 100]⟩, .string ⟨#[109, 97, 116, 99, 104]⟩, .string ⟨#[99, 114, 101, 97, 116, 101]⟩, .string ⟨#[100, 101, 108, 101, 116, 101]⟩, .string ⟨#[109, 111, 100, 105, 102, 121]⟩]) (.int .i64 4)).run Tryd.prog w = .ok (.string ⟨#[109, 97, 116, 99, 104]⟩) w := fun _ => by kernel_rfl
      go_enter Tryd.func43, Tryd.ntmps43
      go_wp2_with fail
      first | go_region_held3 (fun w' => w'.cell? ⟨w.heap.size, 0, none⟩ = some (.int .i64 4) ∧ w'.cell? ⟨w.heap.size, 1, none⟩ = some (.string pat) ∧ w'.cell? ⟨w.heap.size, 2, none⟩ = some (.string step) ∧ w'.cell? ⟨w.heap.size, 3, none⟩ = some (.bool false) ∧ BoxAt w (.cells #[.int .i64 4, .string pat, .string step, .bool false] 83) w')
        (first | exact HL.out | (go_split_ands; exact four_box (BoxAt.trans (by assumption) hb)) | (go_split_ands; exact four_box (by assumption)))
        (first | (go_at_call 60; refine (HW.out _).mono ?_; rintro e w1 ⟨rfl, hb⟩)) | fail
      go_split_ands
      go_wp2
      go_ret
      exact ⟨ret_str (by rw [ruleS_four, ruleHead_eq]; rfl), BoxAt.below (by assumption)⟩
  · have z1 := size_add hl (show (⟨#[32]⟩ : ByteArray).size ≤ 1 from by decide)
    have z2 := size_add z1 (show (⟨#[99, 114, 101, 97, 116, 101]⟩ : ByteArray).size ≤ 6 from by decide)
    have z3 := size_add z2 (show (⟨#[32]⟩ : ByteArray).size ≤ 1 from by decide)
    have a1 := addf list (⟨#[32]⟩ : ByteArray) 8 1 hl (by decide) (by decide)
    have a2 := addf (list ++ (⟨#[32]⟩ : ByteArray)) (⟨#[99, 114, 101, 97, 116, 101]⟩ : ByteArray) (8 + 1) 6 z1 (by decide) (by decide)
    have a3 := addf (list ++ (⟨#[32]⟩ : ByteArray) ++ (⟨#[99, 114, 101, 97, 116, 101]⟩ : ByteArray)) (⟨#[32]⟩ : ByteArray) (8 + 1 + 6) 1 z2 (by decide) (by decide)
    have a4 := addf (list ++ (⟨#[32]⟩ : ByteArray) ++ (⟨#[99, 114, 101, 97, 116, 101]⟩ : ByteArray) ++ (⟨#[32]⟩ : ByteArray)) pat (8 + 1 + 6 + 1) 200 z3 hp (by decide)
    clear z1 z2 z3
    have HL := Lib.hid (four_box (BoxAt.drew HB0.out))
    have hidx : ∀ w, (Instr.index 99 (.agg #[.string ⟨#[]⟩, .string ⟨#[97, 108, 108, 111, 119]⟩, .string ⟨#[114, 101, 113, 117, 105, 114, 101]⟩, .string ⟨#[102, 111, 114, 98, 105, 100]⟩, .string ⟨#[109, 97, 116, 99, 104]⟩, .string ⟨#[99, 114, 101, 97, 116, 101]⟩, .string ⟨#[100, 101, 108, 101, 116, 101]⟩, .string ⟨#[109, 111, 100, 105, 102, 121]⟩]) (.int .i64 5)).run Tryd.prog w = .ok (.string ⟨#[99, 114, 101, 97, 116, 101]⟩) w := fun _ => by kernel_rfl
    go_enter Tryd.func43, Tryd.ntmps43
    go_wp2_with fail
    first | go_region_held3 (fun w' => w'.cell? ⟨w.heap.size, 0, none⟩ = some (.int .i64 5) ∧ w'.cell? ⟨w.heap.size, 1, none⟩ = some (.string pat) ∧ w'.cell? ⟨w.heap.size, 2, none⟩ = some (.string step) ∧ w'.cell? ⟨w.heap.size, 3, none⟩ = some (.bool of) ∧ BoxAt w (.cells #[.int .i64 5, .string pat, .string step, .bool of] 83) w')
      (first | exact HL.out | (go_split_ands; exact four_box (BoxAt.trans (by assumption) hb)) | (go_split_ands; exact four_box (by assumption)))
      (first | (go_at_call 60; refine (HW.out _).mono ?_; rintro e w1 ⟨rfl, hb⟩)) | fail
    go_split_ands
    go_wp2
    go_ret
    exact ⟨ret_str (by rw [ruleS_other _ _ _ _ _ (by decide), ruleHead_eq]; rfl), BoxAt.below (by assumption)⟩
  · have z1 := size_add hl (show (⟨#[32]⟩ : ByteArray).size ≤ 1 from by decide)
    have z2 := size_add z1 (show (⟨#[100, 101, 108, 101, 116, 101]⟩ : ByteArray).size ≤ 6 from by decide)
    have z3 := size_add z2 (show (⟨#[32]⟩ : ByteArray).size ≤ 1 from by decide)
    have a1 := addf list (⟨#[32]⟩ : ByteArray) 8 1 hl (by decide) (by decide)
    have a2 := addf (list ++ (⟨#[32]⟩ : ByteArray)) (⟨#[100, 101, 108, 101, 116, 101]⟩ : ByteArray) (8 + 1) 6 z1 (by decide) (by decide)
    have a3 := addf (list ++ (⟨#[32]⟩ : ByteArray) ++ (⟨#[100, 101, 108, 101, 116, 101]⟩ : ByteArray)) (⟨#[32]⟩ : ByteArray) (8 + 1 + 6) 1 z2 (by decide) (by decide)
    have a4 := addf (list ++ (⟨#[32]⟩ : ByteArray) ++ (⟨#[100, 101, 108, 101, 116, 101]⟩ : ByteArray) ++ (⟨#[32]⟩ : ByteArray)) pat (8 + 1 + 6 + 1) 200 z3 hp (by decide)
    clear z1 z2 z3
    have HL := Lib.hid (four_box (BoxAt.drew HB0.out))
    have hidx : ∀ w, (Instr.index 99 (.agg #[.string ⟨#[]⟩, .string ⟨#[97, 108, 108, 111, 119]⟩, .string ⟨#[114, 101, 113, 117, 105, 114, 101]⟩, .string ⟨#[102, 111, 114, 98, 105, 100]⟩, .string ⟨#[109, 97, 116, 99, 104]⟩, .string ⟨#[99, 114, 101, 97, 116, 101]⟩, .string ⟨#[100, 101, 108, 101, 116, 101]⟩, .string ⟨#[109, 111, 100, 105, 102, 121]⟩]) (.int .i64 6)).run Tryd.prog w = .ok (.string ⟨#[100, 101, 108, 101, 116, 101]⟩) w := fun _ => by kernel_rfl
    go_enter Tryd.func43, Tryd.ntmps43
    go_wp2_with fail
    first | go_region_held3 (fun w' => w'.cell? ⟨w.heap.size, 0, none⟩ = some (.int .i64 6) ∧ w'.cell? ⟨w.heap.size, 1, none⟩ = some (.string pat) ∧ w'.cell? ⟨w.heap.size, 2, none⟩ = some (.string step) ∧ w'.cell? ⟨w.heap.size, 3, none⟩ = some (.bool of) ∧ BoxAt w (.cells #[.int .i64 6, .string pat, .string step, .bool of] 83) w')
      (first | exact HL.out | (go_split_ands; exact four_box (BoxAt.trans (by assumption) hb)) | (go_split_ands; exact four_box (by assumption)))
      (first | (go_at_call 60; refine (HW.out _).mono ?_; rintro e w1 ⟨rfl, hb⟩)) | fail
    go_split_ands
    go_wp2
    go_ret
    exact ⟨ret_str (by rw [ruleS_other _ _ _ _ _ (by decide), ruleHead_eq]; rfl), BoxAt.below (by assumption)⟩
  · have z1 := size_add hl (show (⟨#[32]⟩ : ByteArray).size ≤ 1 from by decide)
    have z2 := size_add z1 (show (⟨#[109, 111, 100, 105, 102, 121]⟩ : ByteArray).size ≤ 6 from by decide)
    have z3 := size_add z2 (show (⟨#[32]⟩ : ByteArray).size ≤ 1 from by decide)
    have a1 := addf list (⟨#[32]⟩ : ByteArray) 8 1 hl (by decide) (by decide)
    have a2 := addf (list ++ (⟨#[32]⟩ : ByteArray)) (⟨#[109, 111, 100, 105, 102, 121]⟩ : ByteArray) (8 + 1) 6 z1 (by decide) (by decide)
    have a3 := addf (list ++ (⟨#[32]⟩ : ByteArray) ++ (⟨#[109, 111, 100, 105, 102, 121]⟩ : ByteArray)) (⟨#[32]⟩ : ByteArray) (8 + 1 + 6) 1 z2 (by decide) (by decide)
    have a4 := addf (list ++ (⟨#[32]⟩ : ByteArray) ++ (⟨#[109, 111, 100, 105, 102, 121]⟩ : ByteArray) ++ (⟨#[32]⟩ : ByteArray)) pat (8 + 1 + 6 + 1) 200 z3 hp (by decide)
    clear z1 z2 z3
    have HL := Lib.hid (four_box (BoxAt.drew HB0.out))
    have hidx : ∀ w, (Instr.index 99 (.agg #[.string ⟨#[]⟩, .string ⟨#[97, 108, 108, 111, 119]⟩, .string ⟨#[114, 101, 113, 117, 105, 114, 101]⟩, .string ⟨#[102, 111, 114, 98, 105, 100]⟩, .string ⟨#[109, 97, 116, 99, 104]⟩, .string ⟨#[99, 114, 101, 97, 116, 101]⟩, .string ⟨#[100, 101, 108, 101, 116, 101]⟩, .string ⟨#[109, 111, 100, 105, 102, 121]⟩]) (.int .i64 7)).run Tryd.prog w = .ok (.string ⟨#[109, 111, 100, 105, 102, 121]⟩) w := fun _ => by kernel_rfl
    go_enter Tryd.func43, Tryd.ntmps43
    go_wp2_with fail
    first | go_region_held3 (fun w' => w'.cell? ⟨w.heap.size, 0, none⟩ = some (.int .i64 7) ∧ w'.cell? ⟨w.heap.size, 1, none⟩ = some (.string pat) ∧ w'.cell? ⟨w.heap.size, 2, none⟩ = some (.string step) ∧ w'.cell? ⟨w.heap.size, 3, none⟩ = some (.bool of) ∧ BoxAt w (.cells #[.int .i64 7, .string pat, .string step, .bool of] 83) w')
      (first | exact HL.out | (go_split_ands; exact four_box (BoxAt.trans (by assumption) hb)) | (go_split_ands; exact four_box (by assumption)))
      (first | (go_at_call 60; refine (HW.out _).mono ?_; rintro e w1 ⟨rfl, hb⟩)) | fail
    go_split_ands
    go_wp2
    go_ret
    exact ⟨ret_str (by rw [ruleS_other _ _ _ _ _ (by decide), ruleHead_eq]; rfl), BoxAt.below (by assumption)⟩

set_option maxHeartbeats 4000000 in
set_option maxRecDepth 100000 in
theorem kindWord_any (k : Int) (w : World) (h1 : 1 ≤ k) (h7 : k ≤ 7) :
    Calls Tryd.prog 61 #[.int .i64 k] w fun e w' => e = .returned (.string (kwB k)) ∧ Below w.heap.size w w' := by
  rcases (show k = 1 ∨ k = 2 ∨ k = 3 ∨ k = 4 ∨ k = 5 ∨ k = 6 ∨ k = 7 from by omega) with rfl | rfl | rfl | rfl | rfl | rfl | rfl
  · go_enter Tryd.func61, Tryd.ntmps61
    go_wp2
    go_ret
    exact ⟨rfl, (Below.refl _ _).alloc (Nat.le_refl _) _⟩
  · go_enter Tryd.func61, Tryd.ntmps61
    go_wp2
    go_ret
    exact ⟨rfl, (Below.refl _ _).alloc (Nat.le_refl _) _⟩
  · go_enter Tryd.func61, Tryd.ntmps61
    go_wp2
    go_ret
    exact ⟨rfl, (Below.refl _ _).alloc (Nat.le_refl _) _⟩
  · go_enter Tryd.func61, Tryd.ntmps61
    go_wp2
    go_ret
    exact ⟨rfl, (Below.refl _ _).alloc (Nat.le_refl _) _⟩
  · go_enter Tryd.func61, Tryd.ntmps61
    go_wp2
    go_ret
    exact ⟨rfl, (Below.refl _ _).alloc (Nat.le_refl _) _⟩
  · go_enter Tryd.func61, Tryd.ntmps61
    go_wp2
    go_ret
    exact ⟨rfl, (Below.refl _ _).alloc (Nat.le_refl _) _⟩
  · go_enter Tryd.func61, Tryd.ntmps61
    go_wp2
    go_ret
    exact ⟨rfl, (Below.refl _ _).alloc (Nat.le_refl _) _⟩

theorem TxtB.app2 {l l' : List UInt8} {x y : ByteArray} (h : TxtB l x) (he : l ++ y.data.toList = l') : TxtB l' (x ++ y) := h.app he
def rulesL (list : ByteArray) (l : List RuleD) (k : Nat) : List UInt8 := (l.take k).flatMap (ruleP list)
theorem rulesL_succ {list : ByteArray} {l : List RuleD} {k : Nat} {a : RuleD} (h : l[k]? = some a) : rulesL list l k ++ ruleP list a = rulesL list l (k + 1) := by unfold rulesL; rw [flatMap_take_succ h]
theorem txt_rule4 {list pat step : ByteArray} {of : Bool} {L : List UInt8} {x : ByteArray} (h : TxtB L x) : TxtB (L ++ ruleP list ⟨4, pat, step, of⟩) (x ++ (list ++ kSp ++ kwB 4 ++ kSp ++ pat) ++ (kSp ++ ofB of ++ kSp ++ step) ++ kNl) := by
  unfold TxtB ruleP at *
  rw [ruleS_four, ruleHead_eq]
  simp only [ByteArray.data_append, Array.toList_append, h, List.append_assoc]
theorem txt_rule {list pat step : ByteArray} {of : Bool} {k : Int} {L : List UInt8} {x : ByteArray} (hk : k ≠ 4) (h : TxtB L x) : TxtB (L ++ ruleP list ⟨k, pat, step, of⟩) (x ++ (list ++ kSp ++ kwB k ++ kSp ++ pat) ++ kNl) := by
  unfold TxtB ruleP at *
  rw [ruleS_other _ _ _ _ _ hk, ruleHead_eq]
  simp only [ByteArray.data_append, Array.toList_append, h, List.append_assoc]

set_option maxHeartbeats 8000000 in
set_option maxRecDepth 100000 in
theorem rulesText_any (list : ByteArray) (A : Option Addr) (c : Nat) (l : List RuleD) (w : World) (hr : RdR w A l) (hl : l.length ≤ 50) (hR : ∀ r ∈ l, r.Right) (hs : ∀ r ∈ l, r.Small) (hz : list.size ≤ 8) :
    Calls Tryd.prog 45 #[.string list, .slice A l.length c] w fun e w' => e = .returned (.string ⟨(l.flatMap (ruleP list)).toArray⟩) ∧ Below w.heap.size w w' := by
  have HR := Lib.hid hr
  have HRI := Lib.hid hR
  have HS := Lib.hid hs
  have HLEN := Lib.hid (fun k (hk : k ≤ 50) => Nat.le_trans (flat_le (ruleP list) 1049000 (l.take k) (fun x hx => ruleP_len list x (hR x (List.mem_of_mem_take hx)) (hs x (List.mem_of_mem_take hx)) hz)) (Nat.mul_le_mul_right _ (show (l.take k).length ≤ 50 from by rw [List.length_take]; omega)))
  clear hr hR hs
  generalize hn : l.length = n at *
  have HN := Lib.hid hn
  clear hn
  go_enter Tryd.func45, Tryd.ntmps45
  go_wp2
  go_loopw [5, 11] (fun t i wr => ∃ k : Nat, k ≤ n ∧ i = .int .i64 k ∧ ∃ x, t = .string x ∧ Hid (TxtB (rulesL list l k) x) ∧ x.size ≤ 52450000 ∧ Hid (Below w.heap.size w wr)) (fun _ i _ => n - (intOf i).toNat)
  case atStart => exact ⟨0, by omega, rfl, _, rfl, rfl, by decide, Below.refl _ _⟩
  case round =>
    obtain ⟨k, hk, rfl, x, rfl, HA, hx, HB⟩ := hrel
    by_cases hlt : k < n
    · obtain ⟨a, ha⟩ : ∃ a, l[k]? = some a := ⟨_, List.getElem?_eq_getElem (by rw [HN.out]; exact hlt)⟩
      obtain ⟨ad, hA, q0, q1, q2, q3⟩ := (HR.out.below HB.out) k a ha
      have hri := HRI.out a (List.mem_of_getElem? ha)
      have hkd := hri.kind
      have hp := pathB_size hri.pat
      have hst := (HS.out a (List.mem_of_getElem? ha)).step
      have HSU := Lib.hid (rulesL_succ (list := list) ha)
      have hbig := HLEN.out (k + 1) (by omega)
      have HBG : Hid ((rulesL list l (k + 1)).length ≤ 52450000) := Lib.hid (by unfold rulesL; omega)
      have HKW := Lib.hid (fun W => kindWord_any a.kind W hkd.1 hkd.2)
      obtain ⟨kd, pat, step, of⟩ := a
      dsimp only at q0 q1 q2 q3 hkd hp hst HKW
      have hkw := kwB_size kd
      clear ha hri hbig
      subst hA
      have HBA := Lib.hid (HB.out.alloc HB.out.size (.cells #[.int .i64 kd, .string pat, .string step, .bool of] 83))
      have HL := Lib.hid (four_box (BoxAt.drew (BoxAt.new wr (.cells #[.int .i64 kd, .string pat, .string step, .bool of] 83))))
      by_cases h4 : kd = 4
      · subst h4
        have HT := Lib.hid (txt_rule4 (list := list) (pat := pat) (step := step) (of := of) HA.out)
        rw [HSU.out] at HT
        have hsz := Nat.le_trans (Nat.le_of_eq HT.out.size) HBG.out
        cases of with
        | true =>
          have hof := ofB_size true
          have z1 := size_add hz (show (⟨#[32]⟩ : ByteArray).size ≤ 1 from by decide)
          have z2 := size_add z1 hkw
          have z3 := size_add z2 (show (⟨#[32]⟩ : ByteArray).size ≤ 1 from by decide)
          have z4 := size_add z3 hp
          have a1 := addf list (⟨#[32]⟩ : ByteArray) 8 1 hz (by decide) (by decide)
          have a2 := addf (list ++ (⟨#[32]⟩ : ByteArray)) (kwB 4) (8 + 1) 7 z1 hkw (by decide)
          have a3 := addf (list ++ (⟨#[32]⟩ : ByteArray) ++ (kwB 4)) (⟨#[32]⟩ : ByteArray) (8 + 1 + 7) 1 z2 (by decide) (by decide)
          have a4 := addf (list ++ (⟨#[32]⟩ : ByteArray) ++ (kwB 4) ++ (⟨#[32]⟩ : ByteArray)) pat (8 + 1 + 7 + 1) 200 z3 hp (by decide)
          have a5 := addf x (list ++ (⟨#[32]⟩ : ByteArray) ++ (kwB 4) ++ (⟨#[32]⟩ : ByteArray) ++ pat) 52450000 (8 + 1 + 7 + 1 + 200) hx z4 (by decide)
          clear z1 z2 z3 z4
          go_wp2_with fail
          first | go_region_held3 (fun w' => w'.cell? ⟨wr.heap.size, 0, none⟩ = some (.int .i64 4) ∧ w'.cell? ⟨wr.heap.size, 1, none⟩ = some (.string pat) ∧ w'.cell? ⟨wr.heap.size, 2, none⟩ = some (.string step) ∧ w'.cell? ⟨wr.heap.size, 3, none⟩ = some (.bool true) ∧ BoxAt wr (.cells #[.int .i64 4, .string pat, .string step, .bool true] 83) w')
            (first | exact HL.out | (go_split_ands; exact four_box (BoxAt.trans (by assumption) hb)) | (go_split_ands; exact four_box (by assumption)))
            (first | (go_at_call 61; refine (HKW.out _).mono ?_; rintro e w1 ⟨rfl, hb⟩)) | fail
          go_split_ands
          go_wp2
          go_roundw
          case rel => exact ⟨k + 1, by omega, by go_num, _, rfl, HT, hsz, Lib.hid (HB.out.trans ((BoxAt.below (by assumption)).mono HB.out.size))⟩
          case measure => simp [intOf]; omega
        | false =>
          have hof := ofB_size false
          have z1 := size_add hz (show (⟨#[32]⟩ : ByteArray).size ≤ 1 from by decide)
          have z2 := size_add z1 hkw
          have z3 := size_add z2 (show (⟨#[32]⟩ : ByteArray).size ≤ 1 from by decide)
          have z4 := size_add z3 hp
          have a1 := addf list (⟨#[32]⟩ : ByteArray) 8 1 hz (by decide) (by decide)
          have a2 := addf (list ++ (⟨#[32]⟩ : ByteArray)) (kwB 4) (8 + 1) 7 z1 hkw (by decide)
          have a3 := addf (list ++ (⟨#[32]⟩ : ByteArray) ++ (kwB 4)) (⟨#[32]⟩ : ByteArray) (8 + 1 + 7) 1 z2 (by decide) (by decide)
          have a4 := addf (list ++ (⟨#[32]⟩ : ByteArray) ++ (kwB 4) ++ (⟨#[32]⟩ : ByteArray)) pat (8 + 1 + 7 + 1) 200 z3 hp (by decide)
          have a5 := addf x (list ++ (⟨#[32]⟩ : ByteArray) ++ (kwB 4) ++ (⟨#[32]⟩ : ByteArray) ++ pat) 52450000 (8 + 1 + 7 + 1 + 200) hx z4 (by decide)
          clear z1 z2 z3 z4
          go_wp2_with fail
          first | go_region_held3 (fun w' => w'.cell? ⟨wr.heap.size, 0, none⟩ = some (.int .i64 4) ∧ w'.cell? ⟨wr.heap.size, 1, none⟩ = some (.string pat) ∧ w'.cell? ⟨wr.heap.size, 2, none⟩ = some (.string step) ∧ w'.cell? ⟨wr.heap.size, 3, none⟩ = some (.bool false) ∧ BoxAt wr (.cells #[.int .i64 4, .string pat, .string step, .bool false] 83) w')
            (first | exact HL.out | (go_split_ands; exact four_box (BoxAt.trans (by assumption) hb)) | (go_split_ands; exact four_box (by assumption)))
            (first | (go_at_call 61; refine (HKW.out _).mono ?_; rintro e w1 ⟨rfl, hb⟩)) | fail
          go_split_ands
          go_wp2
          go_roundw
          case rel => exact ⟨k + 1, by omega, by go_num, _, rfl, HT, hsz, Lib.hid (HB.out.trans ((BoxAt.below (by assumption)).mono HB.out.size))⟩
          case measure => simp [intOf]; omega
      · have HT := Lib.hid (txt_rule (list := list) (pat := pat) (step := step) (of := of) h4 HA.out)
        rw [HSU.out] at HT
        have hsz := Nat.le_trans (Nat.le_of_eq HT.out.size) HBG.out
        have h4b : (kd == 4) = false := by simpa using h4
        have z1 := size_add hz (show (⟨#[32]⟩ : ByteArray).size ≤ 1 from by decide)
        have z2 := size_add z1 hkw
        have z3 := size_add z2 (show (⟨#[32]⟩ : ByteArray).size ≤ 1 from by decide)
        have z4 := size_add z3 hp
        have a1 := addf list (⟨#[32]⟩ : ByteArray) 8 1 hz (by decide) (by decide)
        have a2 := addf (list ++ (⟨#[32]⟩ : ByteArray)) (kwB kd) (8 + 1) 7 z1 hkw (by decide)
        have a3 := addf (list ++ (⟨#[32]⟩ : ByteArray) ++ (kwB kd)) (⟨#[32]⟩ : ByteArray) (8 + 1 + 7) 1 z2 (by decide) (by decide)
        have a4 := addf (list ++ (⟨#[32]⟩ : ByteArray) ++ (kwB kd) ++ (⟨#[32]⟩ : ByteArray)) pat (8 + 1 + 7 + 1) 200 z3 hp (by decide)
        have a5 := addf x (list ++ (⟨#[32]⟩ : ByteArray) ++ (kwB kd) ++ (⟨#[32]⟩ : ByteArray) ++ pat) 52450000 (8 + 1 + 7 + 1 + 200) hx z4 (by decide)
        clear z1 z2 z3 z4
        go_wp2_with fail
        first | go_region_held3 (fun w' => w'.cell? ⟨wr.heap.size, 0, none⟩ = some (.int .i64 kd) ∧ w'.cell? ⟨wr.heap.size, 1, none⟩ = some (.string pat) ∧ w'.cell? ⟨wr.heap.size, 2, none⟩ = some (.string step) ∧ w'.cell? ⟨wr.heap.size, 3, none⟩ = some (.bool of) ∧ BoxAt wr (.cells #[.int .i64 kd, .string pat, .string step, .bool of] 83) w')
          (first | exact HL.out | (go_split_ands; exact four_box (BoxAt.trans (by assumption) hb)) | (go_split_ands; exact four_box (by assumption)))
          (first | (go_at_call 61; refine (HKW.out _).mono ?_; rintro e w1 ⟨rfl, hb⟩)) | fail
        go_split_ands
        go_wp2
        go_roundw
        case rel => exact ⟨k + 1, by omega, by go_num, _, rfl, HT, hsz, Lib.hid (HB.out.trans ((BoxAt.below (by assumption)).mono HB.out.size))⟩
        case measure => simp [intOf]; omega
    · have HE : Hid (x = ⟨(l.flatMap (ruleP list)).toArray⟩) := Lib.hid (by
        have h := HA.out
        unfold TxtB rulesL at h
        rw [List.take_of_length_le (by rw [HN.out]; omega)] at h
        rw [← h])
      go_wp2
      go_ret
      exact ⟨ret_str HE.out, HB.out⟩
end Go.Proofs.YtnidamdfdlkoiaaDoor.A
