/- The moves of a walk through such a region. -/
import Derived.Test.YtnidamdfdlkoiaaDoorC9
import Derived.RegionTactic
namespace Go.Proofs.YtnidamdfdlkoiaaDoor.A
open Go.RowKit
section
variable {P : Program} {ops : Array Oper} {Q : Exit → Act → World → Prop} {md : Region.Mode} {st : List Nat} {F : World → Prop}
theorem wp_region_L {id : Nat} {a : Act} {w : World} (st : List Nat) (F : World → Prop) (hm : P.follows .mixedOrders = true)
    (h : wpAnyL P .any ops Q st F ops.size (Array.replicate ops.size false) a w.drew) : (Code.region id ops true).wp P Q a w :=
  wp_region_any hm (wpAny_of_L _ _ _ _ h)
theorem wpAnyL_take {i : Nat} {oi : Oper} {v : Value} {fuel : Nat} {listed : Array Bool} {a : Act} {w : World} (hi : ops[i]? = some oi)
    (hs : Region.noSelect ops = true) (hf : Region.free md ops listed i = true) (hr : (Region.ready md ops listed).contains i = true) (hw : waits md ops st i = true) (hni : st.contains i = false) (hN : NoneUp st listed = true)
    (hQ : ∀ c a w, Q (.panic c) (a.put oi.dst v) w → Q (.panic c) a w) (hF : F w) (hy : YieldsIf P ops F oi v a)
    (h : wpAnyL P md ops Q st F fuel (listed.setIfInBounds i true) (a.put oi.dst v) w) : wpAnyL P md ops Q st F (fuel + 1) listed a w :=
  wpAnyL_first hi (Region.noSelect_spec hs) hQ hw (fun h => by rw [List.contains_iff_mem.2 h] at hni; cases hni) fuel listed a w hN (Region.free_spec hi hf) (by simpa using hr) hy hF h
theorem wpAnyL_one {i : Nat} {oi : Oper} {fuel : Nat} {listed : Array Bool} {a : Act} {w : World} (hr : Region.ready md ops listed = [i]) (hi : ops[i]? = some oi)
    (h : ∀ K' : Act → World → Prop, (∀ a w, F w → wpAnyL P md ops Q st F fuel (listed.setIfInBounds i true) a w → K' a w) → if Region.wanted oi (yielded ops a.tmps) = true then Oper.wp P oi a w K' Q else K' (a.put oi.dst undef) w) :
    wpAnyL P md ops Q st F (fuel + 1) listed a w :=
  ⟨fun h0 => (by rw [hr] at h0; cases h0), fun j hj => by
    rw [hr] at hj
    obtain rfl := List.mem_singleton.1 hj
    exact wpOp_step hi (fun K' hK' => h K' (fun a w hF hL => hK' a w ⟨fun _ => hF, hL⟩))⟩
/-- from the first of st on: a plain region -/
theorem wpAnyL_rest {fuel : Nat} {listed : Array Bool} {a : Act} {w : World} {i : Nat} {oi : Oper} (hr : Region.ready md ops listed = [i]) (hi : ops[i]? = some oi) (hst : i ∈ st) (hlt : i < listed.size)
    (h : ∀ K' : Act → World → Prop, (∀ a w, wpAny P md ops Q fuel (listed.setIfInBounds i true) a w → K' a w) → if Region.wanted oi (yielded ops a.tmps) = true then Oper.wp P oi a w K' Q else K' (a.put oi.dst undef) w) :
    wpAnyL P md ops Q st F (fuel + 1) listed a w := by
  have hup : (listed.setIfInBounds i true).getD i true = true := by
    simp only [Array.getD_eq_getD_getElem?, Array.getElem?_setIfInBounds]
    simp [hlt]
  have hno : ∀ l : Array Bool, l.getD i true = true → NoneUp st l = false := fun l hl => by
    unfold NoneUp
    rw [List.all_eq_false]
    exact ⟨i, hst, by rw [hl]; simp⟩
  refine ⟨fun h0 => (by rw [hr] at h0; cases h0), fun j hj => ?_⟩
  rw [hr] at hj
  obtain rfl := List.mem_singleton.1 hj
  exact wpOp_step hi (fun K' hK' => h K' (fun a w hL => hK' a w ⟨fun h2 => absurd h2 (by rw [hno _ hup]; simp), wpAnyL_of _ _ _ _ (fun l hl => hno l (hl _ hup)) hL⟩))
end
end Go.Proofs.YtnidamdfdlkoiaaDoor.A
