/- What a right layout is, and its text: plain. -/
import Derived.Test.YtnidamdfdlkoiaaDoorG9
import Derived.Test.YtnidamdfdlkoiaaDoorShelf2
import Derived.Lib.ItoaLen
namespace Go.Proofs.YtnidamdfdlkoiaaDoor.A
open Go.RowKit

/-- what the checks leave of a layout -/
structure RuleD.Right (r : RuleD) : Prop where
  kind : 1 ≤ r.kind ∧ r.kind ≤ 7
  pat : pathB r.pat = true
structure StepD.Right (s : StepD) : Prop where
  need : 1 ≤ s.need ∧ s.need ≤ (s.keys.length : Int)
  cmd : s.cmd.length ≤ 20
  rules : s.mats.length ≤ 50 ∧ s.prods.length ≤ 50
  mats : ∀ r ∈ s.mats, r.Right
  prods : ∀ r ∈ s.prods, r.Right
structure LayoutD.Right (Y : LayoutD) : Prop where
  exp : 0 ≤ Y.exp ∧ Y.exp ≤ 1000000
  lens : Y.keys.length ≤ 50 ∧ Y.steps.length ≤ 30
  steps : ∀ s ∈ Y.steps, s.Right
theorem ruleE_right {p : Bool} {e : List StepD} {r : RuleD} (h : ruleE p e r = 0) : r.Right := by
  unfold ruleE at h
  split at h
  · cases h
  · rename_i hk
    split at h
    · cases h
    · rename_i hf
      exact ⟨by unfold kindBad at hk; omega, by unfold formBad at hf; cases hp : pathB r.pat <;> simp [hp] at hf ⊢⟩
theorem rulesE_right {p : Bool} {e : List StepD} {l : List RuleD} (h : rulesE p e l = 0) : ∀ r ∈ l, r.Right := by
  intro r hr
  obtain ⟨k, hk, rfl⟩ := List.mem_iff_getElem.1 hr
  exact ruleE_right (faultE_zero h k _ (List.getElem?_eq_getElem hk))
theorem stepE2_right {e : List StepD} {s : StepD} (h : stepE2 e s = 0) : s.Right := by
  unfold stepE2 at h
  split at h
  · cases h
  · rename_i h1
    split at h
    · cases h
    · rename_i h2
      split at h
      · rename_i h3; exact absurd h h3
      · split at h
        · cases h
        · rename_i h4
          split at h
          · rename_i h5; exact absurd h h5
          · rename_i h5
            exact ⟨by omega, by omega, by omega, rulesE_right (by simpa using h5), rulesE_right h⟩
theorem stepE_right {keys : List KeyD} {e : List StepD} {s : StepD} (h : stepE keys e s = 0) : s.Right := by
  unfold stepE at h
  split at h
  · cases h
  · split at h
    · cases h
    · split at h
      · cases h
      · split at h
        · rename_i h4; exact absurd h h4
        · exact stepE2_right h
theorem layE_right {Y : LayoutD} (h : layE Y = 0) : Y.Right := by
  unfold layE at h
  split at h
  · cases h
  · split at h
    · cases h
    · rename_i h2
      split at h
      · cases h
      · rename_i h3
        split at h
        · rename_i h4; exact absurd h h4
        · split at h
          · cases h
          · refine ⟨by omega, by omega, fun s hs => ?_⟩
            obtain ⟨k, hk, rfl⟩ := List.mem_iff_getElem.1 hs
            exact stepE_right (faultE_zero h k _ (List.getElem?_eq_getElem hk))

/-- the words of rules -/
def kwB (k : Int) : ByteArray :=
  if k = 1 then ⟨#[97, 108, 108, 111, 119]⟩ else if k = 2 then ⟨#[114, 101, 113, 117, 105, 114, 101]⟩ else if k = 3 then ⟨#[102, 111, 114, 98, 105, 100]⟩ else if k = 4 then ⟨#[109, 97, 116, 99, 104]⟩
  else if k = 5 then ⟨#[99, 114, 101, 97, 116, 101]⟩ else if k = 6 then ⟨#[100, 101, 108, 101, 116, 101]⟩ else ⟨#[109, 111, 100, 105, 102, 121]⟩
def ofB (b : Bool) : ByteArray := if b then ⟨#[112, 114, 111, 100, 117, 99, 116, 115]⟩ else ⟨#[109, 97, 116, 101, 114, 105, 97, 108, 115]⟩
def kMat0 : ByteArray := ⟨#[109, 97, 116, 101, 114, 105, 97, 108]⟩
def kProd0 : ByteArray := ⟨#[112, 114, 111, 100, 117, 99, 116]⟩
def kLay : ByteArray := ⟨#[108, 97, 121, 111, 117, 116, 32]⟩
def kKey : ByteArray := ⟨#[107, 101, 121, 32]⟩
def kBy : ByteArray := ⟨#[98, 121, 32]⟩
def itoaB (n : Int) : ByteArray := ⟨(Lib.itoa n).toArray⟩
/-- a rule's text -/
def ruleHead (list : ByteArray) (r : RuleD) : ByteArray := list ++ kSp ++ kwB r.kind ++ kSp ++ r.pat
def ruleOf (r : RuleD) : ByteArray := kSp ++ ofB r.of ++ kSp ++ r.step
def ruleS (list : ByteArray) (r : RuleD) : ByteArray := (if r.kind = 4 then ruleHead list r ++ ruleOf r else ruleHead list r) ++ kNl
def ruleP (list : ByteArray) (r : RuleD) : List UInt8 := (ruleS list r).data.toList
def layHead (Y : LayoutD) : List UInt8 := (kLay ++ Y.name ++ kSp ++ itoaB Y.exp ++ kNl).data.toList
def keyP (k : KeyD) : List UInt8 := (kKey ++ k.name ++ kSp ++ k.pub ++ kNl).data.toList
def stepHead (s : StepD) : List UInt8 := (kStep ++ s.name ++ kSp ++ itoaB s.need ++ kNl).data.toList
def byP (s : ByteArray) : List UInt8 := (kBy ++ s ++ kNl).data.toList
def stepT (s : StepD) : List UInt8 := stepHead s ++ s.keys.flatMap byP ++ s.cmd.flatMap wordP ++ s.mats.flatMap (ruleP kMat0) ++ s.prods.flatMap (ruleP kProd0)
def layL (Y : LayoutD) : List UInt8 := layHead Y ++ Y.keys.flatMap keyP ++ Y.steps.flatMap stepT
def layS' (Y : LayoutD) : ByteArray := ⟨(layL Y).toArray⟩

/-- how long it is at most -/
theorem pathB_size {s : ByteArray} (h : pathB s = true) : s.size ≤ 200 := by
  unfold pathB at h
  exact of_decide_eq_true (Bool.and_eq_true_iff.1 h).2
theorem kwB_size (k : Int) : (kwB k).size ≤ 7 := by
  unfold kwB
  repeat' split
  all_goals decide
theorem ofB_size (b : Bool) : (ofB b).size ≤ 9 := by cases b <;> decide
theorem ruleS_size (list : ByteArray) (r : RuleD) (h : r.Right) (hs : r.Small) (hl : list.size ≤ 8) : (ruleS list r).size ≤ 1049000 := by
  have h1 := pathB_size h.pat
  have h2 := hs.step
  have h3 := kwB_size r.kind
  have h4 := ofB_size r.of
  have k1 : kSp.size = 1 := rfl
  have k2 : kNl.size = 1 := rfl
  unfold ruleS ruleHead ruleOf
  split <;> simp only [ByteArray.size_append] <;> omega
theorem ruleHead_size (list : ByteArray) (r : RuleD) (h : r.Right) (hl : list.size ≤ 8) : (ruleHead list r).size ≤ 1000 := by
  have h1 := pathB_size h.pat
  have h3 := kwB_size r.kind
  have k1 : kSp.size = 1 := rfl
  unfold ruleHead
  simp only [ByteArray.size_append]
  omega
theorem itoa_small (n : Int) (h0 : 0 ≤ n) (h1 : n ≤ 1048576) : (itoaB n).size ≤ 21 := by
  have h := Lib.itoa_length_le n (by omega) (by omega)
  unfold itoaB
  simpa [ByteArray.size] using h
theorem ruleP_len (list : ByteArray) (r : RuleD) (h : r.Right) (hs : r.Small) (hl : list.size ≤ 8) : (ruleP list r).length ≤ 1049000 := by
  unfold ruleP; rw [ba_len]; exact ruleS_size list r h hs hl
theorem byP_len (s : ByteArray) : (byP s).length = s.size + 4 := by
  unfold byP; rw [ba_len, ByteArray.size_append, ByteArray.size_append]; have h1 : kBy.size = 3 := rfl; have h2 : kNl.size = 1 := rfl; omega
theorem keyP_len (k : KeyD) : (keyP k).length = k.name.size + k.pub.size + 6 := by
  unfold keyP; rw [ba_len]; simp only [ByteArray.size_append]; have h1 : kKey.size = 4 := rfl; have h2 : kNl.size = 1 := rfl; have h3 : kSp.size = 1 := rfl; omega
theorem stepT_len {s : StepD} (h : s.Right) (hs : s.Small) : (stepT s).length ≤ 1200000000000 := by
  have h0 : (stepHead s).length ≤ 1048700 := by
    unfold stepHead; rw [ba_len]; simp only [ByteArray.size_append]
    have h1 : kStep.size = 5 := rfl; have h2 : kNl.size = 1 := rfl; have h3 : kSp.size = 1 := rfl
    have h4 := itoa_small s.need (by have := h.need; omega) (by have := h.need; have := hs.lens.1; omega)
    have h5 := hs.name
    omega
  have h1 := flat_le byP 1048580 s.keys (fun x hx => by rw [byP_len]; have := hs.keys x hx; omega)
  have h2 := flat_le wordP 1048582 s.cmd (fun x hx => by rw [wordP_len]; have := hs.cmd x hx; omega)
  have h3 := flat_le (ruleP kMat0) 1049000 s.mats (fun x hx => ruleP_len kMat0 x (h.mats x hx) (hs.mats x hx) (by decide))
  have h4 := flat_le (ruleP kProd0) 1049000 s.prods (fun x hx => ruleP_len kProd0 x (h.prods x hx) (hs.prods x hx) (by decide))
  have e1 : s.keys.length * 1048580 ≤ 1048576 * 1048580 := Nat.mul_le_mul_right _ hs.lens.1
  have e2 : s.cmd.length * 1048582 ≤ 20 * 1048582 := Nat.mul_le_mul_right _ h.cmd
  have e3 : s.mats.length * 1049000 ≤ 50 * 1049000 := Nat.mul_le_mul_right _ h.rules.1
  have e4 : s.prods.length * 1049000 ≤ 50 * 1049000 := Nat.mul_le_mul_right _ h.rules.2
  unfold stepT
  simp only [List.length_append]
  omega
theorem layL_len {Y : LayoutD} (h : Y.Right) (hs : Y.Small) : (layL Y).length ≤ 100000000000000 := by
  have h0 : (layHead Y).length ≤ 1048700 := by
    unfold layHead; rw [ba_len]; simp only [ByteArray.size_append]
    have h1 : kLay.size = 7 := rfl; have h2 : kNl.size = 1 := rfl; have h3 : kSp.size = 1 := rfl
    have h4 := itoa_small Y.exp (by have := h.exp; omega) (by have := h.exp; omega)
    have h5 := hs.name
    omega
  have h1 := flat_le keyP 2097200 Y.keys (fun x hx => by rw [keyP_len]; have h1 := (hs.keys x hx).name; have h2 := (hs.keys x hx).pub; unfold szB at h1 h2; omega)
  have h2 := flat_le stepT 1200000000000 Y.steps (fun x hx => stepT_len (h.steps x hx) (hs.steps x hx))
  have e1 : Y.keys.length * 2097200 ≤ 50 * 2097200 := Nat.mul_le_mul_right _ h.lens.1
  have e2 : Y.steps.length * 1200000000000 ≤ 30 * 1200000000000 := Nat.mul_le_mul_right _ h.lens.2
  unfold layL
  simp only [List.length_append]
  omega
/-- what LayoutText gives -/
def layTV (z : Int) (Y : LayoutD) : ByteArray := if z = 0 then layS' Y else ⟨#[]⟩
/-- the texts on the way -/
def ly1 (Y : LayoutD) (k : Nat) : List UInt8 := layHead Y ++ (Y.keys.take k).flatMap keyP
def ly2 (Y : LayoutD) (k : Nat) : List UInt8 := layHead Y ++ Y.keys.flatMap keyP ++ (Y.steps.take k).flatMap stepT
def st0 (p : List UInt8) (s : StepD) : List UInt8 := p ++ stepHead s
def st1 (p : List UInt8) (s : StepD) (k : Nat) : List UInt8 := st0 p s ++ (s.keys.take k).flatMap byP
def st2 (p : List UInt8) (s : StepD) (k : Nat) : List UInt8 := st0 p s ++ s.keys.flatMap byP ++ (s.cmd.take k).flatMap wordP
def st3 (p : List UInt8) (s : StepD) (k : Nat) : List UInt8 := st0 p s ++ s.keys.flatMap byP ++ s.cmd.flatMap wordP ++ (s.mats.take k).flatMap (ruleP kMat0)
def st4 (p : List UInt8) (s : StepD) (k : Nat) : List UInt8 := st0 p s ++ s.keys.flatMap byP ++ s.cmd.flatMap wordP ++ s.mats.flatMap (ruleP kMat0) ++ (s.prods.take k).flatMap (ruleP kProd0)
section
variable {Y : LayoutD} {s : StepD} {p : List UInt8} {k : Nat}
theorem ly1_zero : ly1 Y 0 = layHead Y := by simp [ly1]
theorem ly1_succ {a : KeyD} (h : Y.keys[k]? = some a) : ly1 Y k ++ keyP a = ly1 Y (k + 1) := by unfold ly1; rw [flatMap_take_succ h, List.append_assoc]
theorem ly1_end (h : Y.keys.length ≤ k) : ly1 Y k = ly2 Y 0 := by unfold ly1 ly2; rw [List.take_of_length_le h]; simp
theorem ly2_succ {a : StepD} (h : Y.steps[k]? = some a) : ly2 Y k ++ stepT a = ly2 Y (k + 1) := by unfold ly2; rw [flatMap_take_succ h, List.append_assoc]
theorem ly2_end (h : Y.steps.length ≤ k) : ly2 Y k = layL Y := by unfold ly2 layL; rw [List.take_of_length_le h]
theorem st1_zero : st1 p s 0 = p ++ stepHead s := by simp [st1, st0]
theorem st1_succ {a : ByteArray} (h : s.keys[k]? = some a) : st1 p s k ++ byP a = st1 p s (k + 1) := by unfold st1; rw [flatMap_take_succ h, List.append_assoc]
theorem st1_end (h : s.keys.length ≤ k) : st1 p s k = st2 p s 0 := by unfold st1 st2; rw [List.take_of_length_le h]; simp
theorem st2_succ {a : ByteArray} (h : s.cmd[k]? = some a) : st2 p s k ++ wordP a = st2 p s (k + 1) := by unfold st2; rw [flatMap_take_succ h, List.append_assoc]
theorem st2_end (h : s.cmd.length ≤ k) : st2 p s k = st3 p s 0 := by unfold st2 st3; rw [List.take_of_length_le h]; simp
theorem st3_succ {a : RuleD} (h : s.mats[k]? = some a) : st3 p s k ++ ruleP kMat0 a = st3 p s (k + 1) := by unfold st3; rw [flatMap_take_succ h, List.append_assoc]
theorem st3_end (h : s.mats.length ≤ k) : st3 p s k = st4 p s 0 := by unfold st3 st4; rw [List.take_of_length_le h]; simp
theorem st4_succ {a : RuleD} (h : s.prods[k]? = some a) : st4 p s k ++ ruleP kProd0 a = st4 p s (k + 1) := by unfold st4; rw [flatMap_take_succ h, List.append_assoc]
theorem st4_end (h : s.prods.length ≤ k) : st4 p s k = p ++ stepT s := by unfold st4 st0 stepT; rw [List.take_of_length_le h]; simp [List.append_assoc]
theorem take_flat_len {α : Type} (f : α → List UInt8) (l : List α) (k : Nat) : ((l.take k).flatMap f).length ≤ (l.flatMap f).length := flatMap_take_le f l k
theorem ly1_len (Y : LayoutD) (k : Nat) : (ly1 Y k).length ≤ (layL Y).length := by
  have := take_flat_len keyP Y.keys k; unfold ly1 layL; simp only [List.length_append]; omega
theorem ly2_len (Y : LayoutD) (k : Nat) : (ly2 Y k).length ≤ (layL Y).length := by
  have := take_flat_len stepT Y.steps k; unfold ly2 layL; simp only [List.length_append]; omega
theorem st1_len (p : List UInt8) (s : StepD) (k : Nat) : (st1 p s k).length ≤ (p ++ stepT s).length := by
  have := take_flat_len byP s.keys k; unfold st1 st0 stepT; simp only [List.length_append]; omega
theorem st2_len (p : List UInt8) (s : StepD) (k : Nat) : (st2 p s k).length ≤ (p ++ stepT s).length := by
  have := take_flat_len wordP s.cmd k; unfold st2 st0 stepT; simp only [List.length_append]; omega
theorem st3_len (p : List UInt8) (s : StepD) (k : Nat) : (st3 p s k).length ≤ (p ++ stepT s).length := by
  have := take_flat_len (ruleP kMat0) s.mats k; unfold st3 st0 stepT; simp only [List.length_append]; omega
theorem st4_len (p : List UInt8) (s : StepD) (k : Nat) : (st4 p s k).length ≤ (p ++ stepT s).length := by
  have := take_flat_len (ruleP kProd0) s.prods k; unfold st4 st0 stepT; simp only [List.length_append]; omega
end
end Go.Proofs.YtnidamdfdlkoiaaDoor.A
