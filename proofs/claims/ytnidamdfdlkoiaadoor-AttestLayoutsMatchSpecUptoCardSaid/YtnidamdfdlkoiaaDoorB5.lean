/- A map from texts to bools that the call makes: what is true in it. -/
import Derived.Test.YtnidamdfdlkoiaaDoorB4
import Derived.Maps.OwnOps
import Derived.Maps.OwnSet
import Derived.Maps.Views
import Derived.StringKeys
namespace Go.Proofs.YtnidamdfdlkoiaaDoor.A
open Go.RowKit Go.Maps
set_option maxRecDepth 100000

theorem zero_bool (w : World) : (zeroValue 4).run Tryd.prog w = .ok (.bool false) w := Tryd.zeroValue4 w
/-- block b is a map from texts to bools, true at what f says -/
def BSet (w : World) (b n : Nat) (f : List UInt8 → Bool) : Prop :=
  ∃ D : DataW Unit, w.ownsMap Tryd.prog 9 (plainElem Tryd.prog 4) b n D ∧ IsMap D ∧ ∀ k, D.atKey (.string k) (.lit (.bool false)) = .lit (.bool (f k))
theorem BSet.made (w : World) : BSet (w.alloc (.map #[] 0)) w.heap.size 0 (fun _ => false) :=
  ⟨.map [], World.ownsMap_made w _ _ _, isMap_empty, fun _ => rfl⟩
theorem BSet.kept {w w' : World} {b n : Nat} {f : List UInt8 → Bool} {row : Option Nat} (h : BSet w b n f) (hg : w.grownBy w' row) (hne : some b ≠ row) : BSet w' b n f := by
  obtain ⟨D, h1, h2, h3⟩ := h
  exact ⟨D, h1.kept hg hne, h2, h3⟩
theorem BSet.alloc {w : World} {b n : Nat} {f : List UInt8 → Bool} (h : BSet w b n f) (o : Obj) : BSet (w.alloc o) b n f := by
  obtain ⟨D, h1, h2, h3⟩ := h
  exact ⟨D, h1.alloc o, h2, h3⟩
theorem BSet.lt {w : World} {b n : Nat} {f : List UInt8 → Bool} (h : BSet w b n f) : b < w.heap.size := by
  obtain ⟨D, h1, _⟩ := h
  exact h1.lt
theorem BSet.look {w : World} {b n : Nat} {f : List UInt8 → Bool} (h : BSet w b n f) (s : ByteArray) (hs : s.size ≤ maxLen) :
    (Instr.lookup 62 (.map (some b)) (.string s) false).run Tryd.prog w = .ok (.bool (f s.data.toList)) w := by
  obtain ⟨D, h1, h2, h3⟩ := h
  obtain ⟨v, ps, hrun, hv⟩ := h1.lookup (string_keyed Tryd.underlying9) Tryd.underlying62 (zero_bool w) (plainElem_bool Tryd.underlying4 false) (WideMaps.keyOf_string_mk Tryd.underlying9 hs)
  rw [h3] at hv
  have : v = .bool (f s.data.toList) := by
    unfold plainElem at hv
    rw [Tryd.underlying4] at hv
    cases v <;> simp at hv
    exact congrArg Value.bool hv.1
  rw [hrun, this]
theorem BSet.put {w : World} {b n : Nat} {f : List UInt8 → Bool} (h : BSet w b n f) (hn : n < maxLen) (s : ByteArray) (hs : s.size ≤ maxLen) (v : Bool) :
    ∃ w', (Instr.mapUpdate 62 (.map (some b)) (.string s) (.bool v)).run Tryd.prog w = .ok () w' ∧ BSet w' b (n + 1) (fun k => if k = s.data.toList then v else f k) ∧ w.grownBy w' (some b) := by
  obtain ⟨D, h1, h2, h3⟩ := h
  obtain ⟨w', hrun, r1, r2⟩ := h1.update (string_keyed Tryd.underlying9) Tryd.underlying62 hn (WideMaps.keyOf_string_mk Tryd.underlying9 hs) (plainElem_bool Tryd.underlying4 v)
  refine ⟨w', hrun, ⟨_, r1, h2.put _ _, fun k => ?_⟩, r2⟩
  dsimp only
  by_cases e : k = s.data.toList
  · rw [if_pos e, e, atKey_put_same h2 (by first | trivial | simp [WideAt.IsKeyLit] | exact ⟨_, rfl⟩)]
  · rw [if_neg e, atKey_put_other (by simpa using e), h3]

theorem wpList_bset_put {ops : Array Oper} {rest : List Oper} {o : Oper} {a : Act} {w : World} {Q : Exit → Act → World → Prop} (hg : o.guard = none) (m x v : Operand) (hop : o.op = Op.mapUpdate 62 m x v)
    {b n : Nat} {f : List UInt8 → Bool} (hm : a.eval m = .map (some b)) (hown : BSet w b n f) (hn : n < maxLen) (s : ByteArray) (hs : s.size ≤ maxLen) (bv : Bool) (hx : a.eval x = .string s) (hv : a.eval v = .bool bv)
    (hK : ∀ w', BSet w' b (n + 1) (fun k => if k = s.data.toList then bv else f k) → w.grownBy w' (some b) → wpList Tryd.prog ops Q rest (a.put o.dst undef) w') : wpList Tryd.prog ops Q (o :: rest) a w := by
  refine wpList_plain hg fun K' hK' => ?_
  obtain ⟨w', hrun, r1, r2⟩ := hown.put hn s hs bv
  unfold Oper.wp
  simp [execOp, hop, hm, hx, hv, hrun, Result.andThen]
  exact hK' _ _ (hK w' r1 r2)
end Go.Proofs.YtnidamdfdlkoiaaDoor.A
