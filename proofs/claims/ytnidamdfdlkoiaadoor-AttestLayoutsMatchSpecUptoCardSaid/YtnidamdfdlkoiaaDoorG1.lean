/- Layouts as data; the error of a layout: plain. -/
import Derived.Test.YtnidamdfdlkoiaaDoorD6
namespace Go.Proofs.YtnidamdfdlkoiaaDoor.A
open Go.RowKit

/-- the first fault of a list, each element asked beside those ahead of it -/
def faultGo {α : Type} (f : List α → α → Int) : List α → List α → Int
  | _, [] => 0
  | seen, a :: r => if f seen a ≠ 0 then f seen a else faultGo f (seen ++ [a]) r
def faultE {α : Type} (f : List α → α → Int) (l : List α) : Int := faultGo f [] l
def FaultAt {α : Type} (f : List α → α → Int) (l : List α) (k : Nat) : Prop := faultE f l = faultGo f (l.take k) (l.drop k)
section
variable {α : Type} {f : List α → α → Int} {l : List α} {k : Nat} {a : α} {z : Int}
theorem fault_start : FaultAt f l 0 := rfl
theorem fault_hit (h : FaultAt f l k) (hk : l[k]? = some a) (hz : f (l.take k) a = z) (h0 : z ≠ 0) : faultE f l = z := by
  rw [h, drop_get hk, faultGo, hz, if_pos h0]
theorem fault_next (h : FaultAt f l k) (hk : l[k]? = some a) (hz : f (l.take k) a = 0) : FaultAt f l (k + 1) := by
  unfold FaultAt at *
  rw [h, drop_get hk, faultGo, hz, if_neg (by simp), List.take_add_one, hk]; rfl
theorem fault_end (h : FaultAt f l k) (hk : l.length ≤ k) : faultE f l = 0 := by rw [h, List.drop_of_length_le hk]; rfl
theorem faultGo_zero {seen : List α} (h : faultGo f seen l = 0) : ∀ k a, l[k]? = some a → f (seen ++ l.take k) a = 0 := by
  induction l generalizing seen with
  | nil => intro k a hk; simp at hk
  | cons x r ih =>
    rw [faultGo] at h
    by_cases hx : f seen x ≠ 0
    · rw [if_pos hx] at h; exact absurd h hx
    · rw [if_neg hx] at h
      intro k a hk
      cases k with
      | zero => obtain rfl : x = a := by simpa using hk
                simpa using hx
      | succ k => have := ih h k a (by simpa using hk); simpa using this
theorem faultE_zero (h : faultE f l = 0) : ∀ k a, l[k]? = some a → f (l.take k) a = 0 := fun k a hk => by simpa using faultGo_zero h k a hk
end

/-- a rule, a step, a layout -/
structure RuleD where
  kind : Int
  pat : ByteArray
  step : ByteArray
  of : Bool
structure StepD where
  name : ByteArray
  keys : List ByteArray
  need : Int
  cmd : List ByteArray
  mats : List RuleD
  prods : List RuleD
structure LayoutD where
  name : ByteArray
  exp : Int
  keys : List KeyD
  steps : List StepD

/-- slices of keys, of rules that read as lists -/
def RdK (w : World) (A : Option Addr) (l : List KeyD) : Prop :=
  ∀ k a, l[k]? = some a → ∃ ad, A = some ad ∧ w.cell? (ad.add (k * 3)) = some (.string a.name) ∧ w.cell? ⟨(ad.add (k * 3)).block, (ad.add (k * 3)).off + 1, none⟩ = some (.string a.secret) ∧ w.cell? ⟨(ad.add (k * 3)).block, (ad.add (k * 3)).off + 2, none⟩ = some (.string a.pub)
def RdR (w : World) (A : Option Addr) (l : List RuleD) : Prop :=
  ∀ k a, l[k]? = some a → ∃ ad, A = some ad ∧ w.cell? (ad.add (k * 4)) = some (.int .i64 a.kind) ∧ w.cell? ⟨(ad.add (k * 4)).block, (ad.add (k * 4)).off + 1, none⟩ = some (.string a.pat) ∧ w.cell? ⟨(ad.add (k * 4)).block, (ad.add (k * 4)).off + 2, none⟩ = some (.string a.step) ∧ w.cell? ⟨(ad.add (k * 4)).block, (ad.add (k * 4)).off + 3, none⟩ = some (.bool a.of)
/-- what a step's slices read as -/
structure StepR (w : World) (S : StepD) (A1 A2 A3 A4 : Option Addr) (c1 c2 c3 c4 : Nat) : Prop where
  rkeys : RdS w A1 S.keys
  rcmd : RdS w A2 S.cmd
  rmats : RdR w A3 S.mats
  rprods : RdR w A4 S.prods
  caps : S.keys.length ≤ c1 ∧ S.cmd.length ≤ c2 ∧ S.mats.length ≤ c3 ∧ S.prods.length ≤ c4
def RdSt (w : World) (A : Option Addr) (l : List StepD) : Prop :=
  ∀ k a, l[k]? = some a → ∃ ad A1 A2 A3 A4 c1 c2 c3 c4, A = some ad ∧ StepR w a A1 A2 A3 A4 c1 c2 c3 c4 ∧ w.cell? (ad.add (k * 6)) = some (.string a.name) ∧ w.cell? ⟨(ad.add (k * 6)).block, (ad.add (k * 6)).off + 1, none⟩ = some (.slice A1 a.keys.length c1) ∧ w.cell? ⟨(ad.add (k * 6)).block, (ad.add (k * 6)).off + 2, none⟩ = some (.int .i64 a.need) ∧
    w.cell? ⟨(ad.add (k * 6)).block, (ad.add (k * 6)).off + 3, none⟩ = some (.slice A2 a.cmd.length c2) ∧ w.cell? ⟨(ad.add (k * 6)).block, (ad.add (k * 6)).off + 4, none⟩ = some (.slice A3 a.mats.length c3) ∧ w.cell? ⟨(ad.add (k * 6)).block, (ad.add (k * 6)).off + 5, none⟩ = some (.slice A4 a.prods.length c4)
/-- a step's value; a layout's -/
def stepV (S : StepD) (A1 A2 A3 A4 : Option Addr) (c1 c2 c3 c4 : Nat) : Value := .agg #[.string S.name, .slice A1 S.keys.length c1, .int .i64 S.need, .slice A2 S.cmd.length c2, .slice A3 S.mats.length c3, .slice A4 S.prods.length c4]
structure LayR (w : World) (Y : LayoutD) (A1 A2 : Option Addr) (c1 c2 : Nat) : Prop where
  rkeys : RdK w A1 Y.keys
  rsteps : RdSt w A2 Y.steps
  caps : Y.keys.length ≤ c1 ∧ Y.steps.length ≤ c2
def layV (Y : LayoutD) (A1 A2 : Option Addr) (c1 c2 : Nat) : Value := .agg #[.string Y.name, .int .i64 Y.exp, .slice A1 Y.keys.length c1, .slice A2 Y.steps.length c2]
def RdLay (w : World) (v : Value) (Y : LayoutD) : Prop := ∃ A1 A2 c1 c2, v = layV Y A1 A2 c1 c2 ∧ LayR w Y A1 A2 c1 c2
section
variable {w w' : World} {A : Option Addr}
theorem RdK.below {l : List KeyD} (h : RdK w A l) (hb : Below w.heap.size w w') : RdK w' A l := by
  intro k s hs
  obtain ⟨ad, e, h0, h1, h2⟩ := h k s hs
  exact ⟨ad, e, (hb.cell (block_lt_of_cell h0)).trans h0, (hb.cell (block_lt_of_cell h1)).trans h1, (hb.cell (block_lt_of_cell h2)).trans h2⟩
theorem RdR.below {l : List RuleD} (h : RdR w A l) (hb : Below w.heap.size w w') : RdR w' A l := by
  intro k s hs
  obtain ⟨ad, e, h0, h1, h2, h3⟩ := h k s hs
  exact ⟨ad, e, (hb.cell (block_lt_of_cell h0)).trans h0, (hb.cell (block_lt_of_cell h1)).trans h1, (hb.cell (block_lt_of_cell h2)).trans h2, (hb.cell (block_lt_of_cell h3)).trans h3⟩
theorem StepR.below {S : StepD} {A1 A2 A3 A4 : Option Addr} {c1 c2 c3 c4 : Nat} (h : StepR w S A1 A2 A3 A4 c1 c2 c3 c4) (hb : Below w.heap.size w w') : StepR w' S A1 A2 A3 A4 c1 c2 c3 c4 :=
  ⟨h.rkeys.below hb, h.rcmd.below hb, h.rmats.below hb, h.rprods.below hb, h.caps⟩
theorem RdSt.below {l : List StepD} (h : RdSt w A l) (hb : Below w.heap.size w w') : RdSt w' A l := by
  intro k s hs
  obtain ⟨ad, A1, A2, A3, A4, c1, c2, c3, c4, e, hr, h0, h1, h2, h3, h4, h5⟩ := h k s hs
  exact ⟨ad, A1, A2, A3, A4, c1, c2, c3, c4, e, hr.below hb, (hb.cell (block_lt_of_cell h0)).trans h0, (hb.cell (block_lt_of_cell h1)).trans h1, (hb.cell (block_lt_of_cell h2)).trans h2, (hb.cell (block_lt_of_cell h3)).trans h3, (hb.cell (block_lt_of_cell h4)).trans h4, (hb.cell (block_lt_of_cell h5)).trans h5⟩
theorem LayR.below {Y : LayoutD} {A1 A2 : Option Addr} {c1 c2 : Nat} (h : LayR w Y A1 A2 c1 c2) (hb : Below w.heap.size w w') : LayR w' Y A1 A2 c1 c2 := ⟨h.rkeys.below hb, h.rsteps.below hb, h.caps⟩
theorem RdLay.below {v : Value} {Y : LayoutD} (h : RdLay w v Y) (hb : Below w.heap.size w w') : RdLay w' v Y := by
  obtain ⟨A1, A2, c1, c2, e, h⟩ := h
  exact ⟨A1, A2, c1, c2, e, h.below hb⟩
theorem get_of_take {α : Type} {l : List α} {n k : Nat} {a : α} (h : (l.take n)[k]? = some a) : l[k]? = some a := by
  rw [List.getElem?_take] at h
  split at h
  · exact h
  · cases h
theorem RdK.take {l : List KeyD} (h : RdK w A l) (n : Nat) : RdK w A (l.take n) := fun k a hk => h k a (get_of_take hk)
theorem RdSt.take {l : List StepD} (h : RdSt w A l) (n : Nat) : RdSt w A (l.take n) := fun k a hk => h k a (get_of_take hk)
end

/-- sizes -/
structure RuleD.Small (r : RuleD) : Prop where
  pat : r.pat.size ≤ 1048576
  step : r.step.size ≤ 1048576
structure StepD.Small (S : StepD) : Prop where
  name : S.name.size ≤ 1048576
  keys : ∀ s ∈ S.keys, s.size ≤ 1048576
  cmd : ∀ s ∈ S.cmd, s.size ≤ 1048576
  mats : ∀ r ∈ S.mats, r.Small
  prods : ∀ r ∈ S.prods, r.Small
  lens : S.keys.length ≤ 1048576 ∧ S.cmd.length ≤ 1048576 ∧ S.mats.length ≤ 1048576 ∧ S.prods.length ≤ 1048576
structure LayoutD.Small (Y : LayoutD) : Prop where
  name : Y.name.size ≤ 1048576
  keys : ∀ k ∈ Y.keys, k.Small
  steps : ∀ s ∈ Y.steps, s.Small
  lens : Y.keys.length ≤ 1048576 ∧ Y.steps.length ≤ 1048576

/-- the error of a key of a layout, behind others -/
def sameKey (k x : KeyD) : Bool := x.name.toList == k.name.toList || x.pub.toList == k.pub.toList
def keyNm (n : ByteArray) (x : KeyD) : Bool := x.name.toList == n.toList
def stepIs (n : ByteArray) (x : StepD) : Bool := x.name.toList == n.toList
def emptyB (s : ByteArray) : Bool := s.toList == ([] : List UInt8)
def keyE1 (seen : List KeyD) (k : KeyD) : Int :=
  if nameB k.name = false then 8 else if sumB k.pub = false then 2 else if emptyB k.secret = false then 2 else if seen.any (sameKey k) = true then 5 else 0
/-- the error of a rule, of rules -/
def kindBad (r : RuleD) (product : Bool) : Prop := r.kind < 1 ∨ 7 < r.kind ∨ (5 ≤ r.kind ∧ product = false)
def formBad (r : RuleD) : Prop := pathB r.pat = false ∨ (r.kind ≠ 4 ∧ (emptyB r.step = false ∨ r.of = true))
instance (r : RuleD) (p : Bool) : Decidable (kindBad r p) := by unfold kindBad; infer_instance
instance (r : RuleD) : Decidable (formBad r) := by unfold formBad; infer_instance
def ruleE (product : Bool) (earlier : List StepD) (r : RuleD) : Int :=
  if kindBad r product then 7 else if formBad r then 2 else if r.kind = 4 ∧ earlier.any (stepIs r.step) = false then 4 else 0
def rulesE (product : Bool) (earlier : List StepD) (l : List RuleD) : Int := faultE (fun _ r => ruleE product earlier r) l
/-- the error of a key of a step -/
def skE (keys : List KeyD) (seen : List ByteArray) (k : ByteArray) : Int :=
  if keys.any (keyNm k) = false then 4 else if tooLow seen.getLast? k = true then 10 else 0
/-- the error of a step -/
def stepE (keys : List KeyD) (earlier : List StepD) (s : StepD) : Int :=
  if nameB s.name = false then 8
  else if earlier.any (stepIs s.name) = true then 5
  else if s.keys.length = 0 then 13
  else if faultE (skE keys) s.keys ≠ 0 then faultE (skE keys) s.keys
  else if s.need < 1 ∨ (s.keys.length : Int) < s.need then 9
  else if 20 < s.cmd.length then 3
  else if wordsE s.cmd ≠ 0 then wordsE s.cmd
  else if 50 < s.mats.length ∨ 50 < s.prods.length then 3
  else if rulesE false earlier s.mats ≠ 0 then rulesE false earlier s.mats
  else rulesE true earlier s.prods
/-- the error of a layout -/
def layE (Y : LayoutD) : Int :=
  if nameB Y.name = false then 8
  else if Y.exp < 0 ∨ 1000000 < Y.exp then 9
  else if 50 < Y.keys.length ∨ 30 < Y.steps.length then 3
  else if faultE keyE1 Y.keys ≠ 0 then faultE keyE1 Y.keys
  else if Y.steps.length = 0 then 13
  else faultE (stepE Y.keys) Y.steps
section
variable {keys : List KeyD} {earlier : List StepD} {s : StepD}
theorem stepE_name (h : nameB s.name = false) : stepE keys earlier s = 8 := by unfold stepE; rw [if_pos h]
theorem stepE_twice (h : nameB s.name = true) (h2 : earlier.any (stepIs s.name) = true) : stepE keys earlier s = 5 := by unfold stepE; rw [if_neg (by simp [h]), if_pos h2]
theorem stepE_empty (h : nameB s.name = true) (h2 : earlier.any (stepIs s.name) = false) (h3 : s.keys.length = 0) : stepE keys earlier s = 13 := by unfold stepE; rw [if_neg (by simp [h]), if_neg (by simp [h2]), if_pos h3]
theorem stepE_keys (h : nameB s.name = true) (h2 : earlier.any (stepIs s.name) = false) (h3 : s.keys.length ≠ 0) (h4 : faultE (skE keys) s.keys ≠ 0) : stepE keys earlier s = faultE (skE keys) s.keys := by
  unfold stepE; rw [if_neg (by simp [h]), if_neg (by simp [h2]), if_neg h3, if_pos h4]
/-- behind the keys -/
def stepE2 (earlier : List StepD) (s : StepD) : Int :=
  if s.need < 1 ∨ (s.keys.length : Int) < s.need then 9
  else if 20 < s.cmd.length then 3
  else if wordsE s.cmd ≠ 0 then wordsE s.cmd
  else if 50 < s.mats.length ∨ 50 < s.prods.length then 3
  else if rulesE false earlier s.mats ≠ 0 then rulesE false earlier s.mats
  else rulesE true earlier s.prods
theorem stepE_rest (h : nameB s.name = true) (h2 : earlier.any (stepIs s.name) = false) (h3 : s.keys.length ≠ 0) (h4 : faultE (skE keys) s.keys = 0) : stepE keys earlier s = stepE2 earlier s := by
  unfold stepE; rw [if_neg (by simp [h]), if_neg (by simp [h2]), if_neg h3, if_neg (by simp [h4])]; rfl
theorem stepE2_need (h : s.need < 1 ∨ (s.keys.length : Int) < s.need) : stepE2 earlier s = 9 := by unfold stepE2; rw [if_pos h]
theorem stepE2_big (h : ¬ (s.need < 1 ∨ (s.keys.length : Int) < s.need)) (h2 : 20 < s.cmd.length) : stepE2 earlier s = 3 := by unfold stepE2; rw [if_neg h, if_pos h2]
theorem stepE2_words (h : ¬ (s.need < 1 ∨ (s.keys.length : Int) < s.need)) (h2 : ¬ 20 < s.cmd.length) (h3 : wordsE s.cmd ≠ 0) : stepE2 earlier s = wordsE s.cmd := by unfold stepE2; rw [if_neg h, if_neg h2, if_pos h3]
theorem stepE2_rules (h : ¬ (s.need < 1 ∨ (s.keys.length : Int) < s.need)) (h2 : ¬ 20 < s.cmd.length) (h3 : wordsE s.cmd = 0) (h4 : 50 < s.mats.length ∨ 50 < s.prods.length) : stepE2 earlier s = 3 := by
  unfold stepE2; rw [if_neg h, if_neg h2, if_neg (by simp [h3]), if_pos h4]
theorem stepE2_mats (h : ¬ (s.need < 1 ∨ (s.keys.length : Int) < s.need)) (h2 : ¬ 20 < s.cmd.length) (h3 : wordsE s.cmd = 0) (h4 : ¬ (50 < s.mats.length ∨ 50 < s.prods.length)) (h5 : rulesE false earlier s.mats ≠ 0) : stepE2 earlier s = rulesE false earlier s.mats := by
  unfold stepE2; rw [if_neg h, if_neg h2, if_neg (by simp [h3]), if_neg h4, if_pos h5]
theorem stepE2_prods (h : ¬ (s.need < 1 ∨ (s.keys.length : Int) < s.need)) (h2 : ¬ 20 < s.cmd.length) (h3 : wordsE s.cmd = 0) (h4 : ¬ (50 < s.mats.length ∨ 50 < s.prods.length)) (h5 : rulesE false earlier s.mats = 0) : stepE2 earlier s = rulesE true earlier s.prods := by
  unfold stepE2; rw [if_neg h, if_neg h2, if_neg (by simp [h3]), if_neg h4, if_neg (by simp [h5])]
variable {Y : LayoutD}
theorem layE_name (h : nameB Y.name = false) : layE Y = 8 := by unfold layE; rw [if_pos h]
theorem layE_exp (h : nameB Y.name = true) (h2 : Y.exp < 0 ∨ 1000000 < Y.exp) : layE Y = 9 := by unfold layE; rw [if_neg (by simp [h]), if_pos h2]
theorem layE_size (h : nameB Y.name = true) (h2 : ¬ (Y.exp < 0 ∨ 1000000 < Y.exp)) (h3 : 50 < Y.keys.length ∨ 30 < Y.steps.length) : layE Y = 3 := by unfold layE; rw [if_neg (by simp [h]), if_neg h2, if_pos h3]
theorem layE_keys (h : nameB Y.name = true) (h2 : ¬ (Y.exp < 0 ∨ 1000000 < Y.exp)) (h3 : ¬ (50 < Y.keys.length ∨ 30 < Y.steps.length)) (h4 : faultE keyE1 Y.keys ≠ 0) : layE Y = faultE keyE1 Y.keys := by
  unfold layE; rw [if_neg (by simp [h]), if_neg h2, if_neg h3, if_pos h4]
theorem layE_empty (h : nameB Y.name = true) (h2 : ¬ (Y.exp < 0 ∨ 1000000 < Y.exp)) (h3 : ¬ (50 < Y.keys.length ∨ 30 < Y.steps.length)) (h4 : faultE keyE1 Y.keys = 0) (h5 : Y.steps.length = 0) : layE Y = 13 := by
  unfold layE; rw [if_neg (by simp [h]), if_neg h2, if_neg h3, if_neg (by simp [h4]), if_pos h5]
theorem layE_steps (h : nameB Y.name = true) (h2 : ¬ (Y.exp < 0 ∨ 1000000 < Y.exp)) (h3 : ¬ (50 < Y.keys.length ∨ 30 < Y.steps.length)) (h4 : faultE keyE1 Y.keys = 0) (h5 : Y.steps.length ≠ 0) : layE Y = faultE (stepE Y.keys) Y.steps := by
  unfold layE; rw [if_neg (by simp [h]), if_neg h2, if_neg h3, if_neg (by simp [h4]), if_neg h5]
end
theorem last_take {α : Type} {l : List α} {k : Nat} (h0 : 0 < k) (hk : k ≤ l.length) : (l.take k).getLast? = l[k - 1]? := by
  rw [List.getLast?_eq_getElem?, List.length_take, List.getElem?_take, if_pos (by omega)]
  congr 1; omega
theorem low_take {l : List ByteArray} {k : Nat} {p x : ByteArray} {b : Bool} (h0 : 0 < k) (hk : k ≤ l.length) (hp : l[k - 1]? = some p) (hb : (Op.bytesLess x.toList p.toList || x.toList == p.toList) = b) : tooLow (l.take k).getLast? x = b := by
  rw [last_take h0 hk, hp]; exact hb
end Go.Proofs.YtnidamdfdlkoiaaDoor.A
