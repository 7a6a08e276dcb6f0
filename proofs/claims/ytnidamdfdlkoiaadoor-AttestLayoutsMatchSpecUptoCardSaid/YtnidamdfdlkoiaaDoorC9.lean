/- A drawn region whose last operations write what its loads read: the facts that a load is asked for need hold only till the first of those comes up. -/
import Derived.Test.YtnidamdfdlkoiaaDoorC8
import Derived.OrdersHeld
namespace Go.Proofs.YtnidamdfdlkoiaaDoor.A
open Go.RowKit
section
variable {P : Program} {ops : Array Oper} {Q : Exit → Act → World → Prop} {md : Region.Mode} {st : List Nat} {F : World → Prop}
/-- none of st has come up -/
def NoneUp (st : List Nat) (listed : Array Bool) : Bool := st.all fun j => listed.getD j true == false
/-- whatever order is picked; F holds as long as none of st has come up -/
def wpAnyL (P : Program) (md : Region.Mode) (ops : Array Oper) (Q : Exit → Act → World → Prop) (st : List Nat) (F : World → Prop) : Nat → Array Bool → Act → World → Prop
  | 0, listed, a, w => Region.ready md ops listed = [] ∧ Q .normal a w
  | fuel + 1, listed, a, w =>
    (Region.ready md ops listed = [] → Q .normal a w) ∧
    ∀ i ∈ Region.ready md ops listed, wpOp P ops Q i (fun a' w' => (NoneUp st (listed.setIfInBounds i true) = true → F w') ∧ wpAnyL P md ops Q st F fuel (listed.setIfInBounds i true) a' w') a w
theorem wpAny_of_L : ∀ (fuel : Nat) (listed : Array Bool) (a : Act) (w : World), wpAnyL P md ops Q st F fuel listed a w → wpAny P md ops Q fuel listed a w
  | 0, _, _, _, h => h
  | fuel + 1, _, _, _, h => ⟨h.1, fun i hi => wpOp_mono (fun a' w' h' => wpAny_of_L fuel _ a' w' h'.2) (h.2 i hi)⟩
theorem wpAnyL_of : ∀ (fuel : Nat) (listed : Array Bool) (a : Act) (w : World), (∀ l : Array Bool, (∀ j, listed.getD j true = true → l.getD j true = true) → NoneUp st l = false) → wpAny P md ops Q fuel listed a w → wpAnyL P md ops Q st F fuel listed a w
  | 0, _, _, _, _, h => h
  | fuel + 1, listed, a, w, hn, h => ⟨h.1, fun i hi => wpOp_mono (fun a' w' h' => by
      have hg : ∀ j, listed.getD j true = true → (listed.setIfInBounds i true).getD j true = true := fun j hj => by
        by_cases e : i = j
        · subst e
          simp only [Array.getD_eq_getD_getElem?, Array.getElem?_setIfInBounds] at *
          by_cases hb : i < listed.size <;> simp [hb]
        · rw [getD_set_ne true e]; exact hj
      exact ⟨fun h2 => absurd h2 (by rw [hn _ hg]; simp), wpAnyL_of fuel _ a' w' (fun l hl => hn l (fun j hj => hl j (hg j hj))) h'⟩) (h.2 i hi)⟩
theorem noneUp_set {st : List Nat} {listed : Array Bool} {i : Nat} (h : i ∉ st) : NoneUp st (listed.setIfInBounds i true) = NoneUp st listed := by
  unfold NoneUp
  rw [Bool.eq_iff_iff]
  simp only [List.all_eq_true]
  constructor
  · intro h1 j hj
    have := h1 j hj
    rwa [getD_set_ne true (fun e : i = j => h (by rw [e]; exact hj))] at this
  · intro h1 j hj
    have := h1 j hj
    rwa [getD_set_ne true (fun e : i = j => h (by rw [e]; exact hj))]
/-- each of st waits for i -/
def waits (md : Region.Mode) (ops : Array Oper) (st : List Nat) (i : Nat) : Bool := st.all fun j => match ops[j]? with | some o => o.after.any (fun e => Region.binds md e && e.on == i) | none => false
theorem wpAnyL_first {i : Nat} {oi : Oper} {v : Value} (hi : ops[i]? = some oi) (hsel : ∀ (j : Nat) (o : Oper) cs b, ops[j]? = some o → o.op ≠ .select cs b)
    (hQ : ∀ c a w, Q (.panic c) (a.put oi.dst v) w → Q (.panic c) a w) (hw : waits md ops st i = true) (hni : i ∉ st) :
    ∀ (fuel : Nat) (listed : Array Bool) (a : Act) (w : World), NoneUp st listed = true →
      (∀ j oj, ops[j]? = some oj → j ≠ i → listed.getD j true = false → (∀ e ∈ oj.after, Region.binds md e = true → e.on ≠ i) → oi.apart ops oj = true) →
      i ∈ Region.ready md ops listed → YieldsIf P ops F oi v a → F w →
      wpAnyL P md ops Q st F fuel (listed.setIfInBounds i true) (a.put oi.dst v) w → wpAnyL P md ops Q st F (fuel + 1) listed a w := by
  intro fuel
  induction fuel with
  | zero =>
    intro listed a w hN _ hr hy hS H
    refine ⟨fun h => (by rw [h] at hr; cases hr), fun j hj => ?_⟩
    by_cases hji : j = i
    · subst hji; exact hy.wpOp hi hS ⟨fun _ => hS, H⟩
    · have := ready_mono hj hji
      rw [H.1] at this
      cases this
  | succ fuel ih =>
    intro listed a w hN hfree hr hy hS H
    refine ⟨fun h => (by rw [h] at hr; cases hr), fun j hj => ?_⟩
    by_cases hji : j = i
    · subst hji; exact hy.wpOp hi hS ⟨fun _ => hS, H⟩
    · have h1 := H.2 j (ready_mono hj hji)
      obtain ⟨hjun, oj, hoj, hall⟩ := mem_ready.1 hj
      have hnot : ∀ e ∈ oj.after, Region.binds md e = true → e.on ≠ i := fun e he hb heq => by
        have h1 := hall e he hb
        have h0 := (mem_ready.1 hr).1
        rw [heq] at h1
        rcases Nat.lt_or_ge i listed.size with h' | h'
        · simp [h'] at h0 h1; rw [h0] at h1; cases h1
        · simp [Array.getElem?_eq_none h'] at h1
      have hnj : j ∉ st := fun hj2 => by
        have := List.all_eq_true.1 hw j hj2
        rw [hoj] at this
        obtain ⟨e, he, hb⟩ := Array.any_eq_true'.1 this
        simp only [Bool.and_eq_true, beq_iff_eq] at hb
        exact hnot e he hb.1 hb.2
      have h2 := wpOp_putIf hoj (hfree j oj hoj hji hjun hnot) (fun cs b => hsel i oi cs b hi) (fun cs b => hsel j oj cs b hoj) hQ hy h1
      have hfree' : ∀ k ok, ops[k]? = some ok → k ≠ i → (listed.setIfInBounds j true).getD k true = false →
          (∀ e ∈ ok.after, Region.binds md e = true → e.on ≠ i) → oi.apart ops ok = true := fun k ok hk hki hun hno => by
        refine hfree k ok hk hki ?_ hno
        by_cases hjk : j = k
        · subst hjk; exact hjun
        · rw [getD_set_ne true hjk] at hun; exact hun
      have hN2 : NoneUp st (listed.setIfInBounds j true) = true := by rw [noneUp_set hnj]; exact hN
      refine wpOp_mono (fun a' w' h3 => ?_) h2
      have hF := h3.2.1 (by rw [noneUp_set hnj, noneUp_set hni]; exact hN)
      refine ⟨fun _ => hF, ih (listed.setIfInBounds j true) a' w' hN2 hfree' (ready_mono hr (Ne.symm hji)) h3.1 hF ?_⟩
      rw [Array.setIfInBounds_comm _ _ hji]
      exact h3.2.2
end
end Go.Proofs.YtnidamdfdlkoiaaDoor.A
