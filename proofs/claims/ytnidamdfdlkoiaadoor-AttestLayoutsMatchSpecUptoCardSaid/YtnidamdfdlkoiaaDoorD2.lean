/- What signing a link gives: plain. -/
import Derived.Test.YtnidamdfdlkoiaaDoorD1
namespace Go.Proofs.YtnidamdfdlkoiaaDoor.A
open Go.RowKit

/-- signatures with one more, in the place of that of its key -/
def putSig (k : ByteArray) (sg : ByteArray × ByteArray) (l : List (ByteArray × ByteArray)) : List (ByteArray × ByteArray) :=
  if l.any (keyIs k) then l.map (fun x => if keyIs k x then sg else x) else l ++ [sg]
theorem sigsGo_next {seen : List (ByteArray × ByteArray)} {a : ByteArray × ByteArray} {r : List (ByteArray × ByteArray)} (h : sigsGo seen (a :: r) = 0) : seen.any (keyIs a.1) = false ∧ sigsGo (seen ++ [a]) r = 0 := by
  rw [sigsGo] at h
  split at h
  · cases h
  · split at h
    · cases h
    · split at h
      · cases h
      · rename_i h3
        exact ⟨by simpa using h3, h⟩
theorem sigsGo_fresh {l : List (ByteArray × ByteArray)} : ∀ {seen : List (ByteArray × ByteArray)}, sigsGo seen l = 0 → ∀ b ∈ l, ∀ x ∈ seen, keyIs b.1 x = false := by
  induction l with
  | nil => intro seen _ b hb; cases hb
  | cons a r ih =>
    intro seen h b hb x hx
    obtain ⟨h1, h2⟩ := sigsGo_next h
    rcases List.mem_cons.1 hb with rfl | hb
    · simpa using List.any_eq_false.1 h1 x hx
    · exact ih h2 b hb x (by simp [hx])
theorem keyIs_eq {k : ByteArray} {x : ByteArray × ByteArray} (h : keyIs k x = true) : x.1 = k := by
  unfold keyIs at h
  rw [beq_iff_eq, ByteArray.toList_eq, ByteArray.toList_eq] at h
  exact ByteArray.ext (Array.toList_inj.1 h)
theorem sigsGo_rest {l : List (ByteArray × ByteArray)} {k : ByteArray} {a : ByteArray × ByteArray} {seen : List (ByteArray × ByteArray)} (h : sigsGo seen (a :: l) = 0) (hk : keyIs k a = true) : ∀ b ∈ l, keyIs k b = false := by
  intro b hb
  have h2 := sigsGo_fresh (sigsGo_next h).2 b hb a (by simp)
  rw [← Bool.not_eq_true]
  intro h3
  rw [keyIs_eq h3] at h2
  rw [hk] at h2
  cases h2
theorem map_same {l : List (ByteArray × ByteArray)} {k : ByteArray} (sg : ByteArray × ByteArray) (h : ∀ b ∈ l, keyIs k b = false) : l.map (fun x => if keyIs k x then sg else x) = l := by
  induction l with
  | nil => rfl
  | cons a r ih => rw [List.map_cons, h a (by simp), ih (fun b hb => h b (by simp [hb]))]; rfl
theorem set_map {k : ByteArray} (sg : ByteArray × ByteArray) {l : List (ByteArray × ByteArray)} : ∀ {seen : List (ByteArray × ByteArray)} {i : Nat}, sigsGo seen l = 0 → l.findIdx? (keyIs k) = some i → l.set i sg = l.map (fun x => if keyIs k x then sg else x) := by
  induction l with
  | nil => intro seen i _ h; simp at h
  | cons a r ih =>
    intro seen i h hi
    rw [List.findIdx?_cons] at hi
    cases hk : keyIs k a with
    | true =>
      rw [hk] at hi
      obtain rfl : 0 = i := by simpa using hi
      rw [List.map_cons, hk, map_same sg (sigsGo_rest h hk)]
      rfl
    | false =>
      rw [hk] at hi
      simp only [Bool.false_eq_true, if_false, Option.map_eq_some_iff] at hi
      obtain ⟨j, hj, rfl⟩ := hi
      rw [List.map_cons, hk, List.set_cons_succ, ih (sigsGo_next h).2 hj]
      rfl
/-- set at the place that is found, or one more -/
theorem putSig_found {k : ByteArray} (sg : ByteArray × ByteArray) {l : List (ByteArray × ByteArray)} {i : Nat} (h : sigsE l = 0) (hi : findI (keyIs k) l = (i : Int)) : putSig k sg l = l.set i sg ∧ i < l.length ∧ l.any (keyIs k) = true := by
  unfold findI at hi
  cases hf : l.findIdx? (keyIs k) with
  | none => rw [hf] at hi; simp at hi
  | some j =>
    rw [hf] at hi
    obtain rfl : j = i := by simp at hi; omega
    obtain ⟨hl, hp, _⟩ := List.findIdx?_eq_some_iff_getElem.1 hf
    have ha : l.any (keyIs k) = true := List.any_eq_true.2 ⟨_, List.getElem_mem hl, hp⟩
    exact ⟨by unfold putSig; rw [if_pos ha, set_map sg h hf], hl, ha⟩
theorem putSig_none {k : ByteArray} (sg : ByteArray × ByteArray) {l : List (ByteArray × ByteArray)} (h : l.any (keyIs k) = false) : putSig k sg l = l ++ [sg] := by
  unfold putSig; rw [if_neg (by simp [h])]
theorem findI_none {k : ByteArray} {l : List (ByteArray × ByteArray)} (h : findI (keyIs k) l < 0) : l.any (keyIs k) = false := by
  unfold findI at h
  cases hf : l.findIdx? (keyIs k) with
  | none => rw [List.any_eq_false]; intro x hx; simpa using List.findIdx?_eq_none_iff.1 hf x hx
  | some j => rw [hf] at h; simp at h; omega
/-- the error of signing a link, and the link -/
def slE (L : LinkD) (K : KeyD) : Int :=
  if linkE L ≠ 0 then linkE L else if keyE K (linkS L).size true ≠ 0 then keyE K (linkS L).size true else if L.sigs.any (keyIs K.name) = false ∧ 50 ≤ L.sigs.length then 3 else 0
def slL (z : Int) (L : LinkD) (K : KeyD) : LinkD :=
  if z = 0 then { L with sigs := putSig K.name (K.name, sigS K (linkS L)) L.sigs } else ⟨⟨#[]⟩, [], [], [], []⟩
/-- the post of SignLink -/
def SLPost (L : LinkD) (K : KeyD) (w : World) (e : Ending) (w' : World) : Prop :=
  ∃ v, e = .returned (.tuple #[v, .int .i64 (slE L K)]) ∧ RdLink w' v (slL (slE L K) L K) ∧ Below w.heap.size w w'
theorem linkE_ok {L : LinkD} (h : linkE L = 0) : sigsE L.sigs = 0 ∧ ¬ L.big := by
  unfold linkE at h
  split at h
  · cases h
  · split at h
    · cases h
    · rename_i hb
      split at h
      · rename_i h1; exact absurd h h1
      · split at h
        · rename_i h1; exact absurd h h1
        · split at h
          · rename_i h1; exact absurd h h1
          · exact ⟨h, hb⟩
section
variable {L : LinkD} {K : KeyD}
theorem slE_link (h : linkE L ≠ 0) : slE L K = linkE L := by unfold slE; rw [if_pos h]
theorem slE_key (h : linkE L = 0) (h2 : keyE K (linkS L).size true ≠ 0) : slE L K = keyE K (linkS L).size true := by unfold slE; rw [if_neg (by simp [h]), if_pos h2]
theorem slE_full (h : linkE L = 0) (h2 : keyE K (linkS L).size true = 0) (h3 : L.sigs.any (keyIs K.name) = false) (h4 : 50 ≤ L.sigs.length) : slE L K = 3 := by unfold slE; rw [if_neg (by simp [h]), if_neg (by simp [h2]), if_pos ⟨h3, h4⟩]
theorem slE_ok (h : linkE L = 0) (h2 : keyE K (linkS L).size true = 0) (h3 : L.sigs.any (keyIs K.name) = true ∨ L.sigs.length < 50) : slE L K = 0 := by
  unfold slE
  rw [if_neg (by simp [h]), if_neg (by simp [h2]), if_neg (by rcases h3 with h3 | h3 <;> simp [h3])]
theorem slL_no {z : Int} (h : z ≠ 0) : slL z L K = ⟨⟨#[]⟩, [], [], [], []⟩ := if_neg h
theorem slL_ok : slL 0 L K = { L with sigs := putSig K.name (K.name, sigS K (linkS L)) L.sigs } := if_pos rfl
end
theorem zero_link (w : World) : RdLink w (.agg #[.string ⟨#[]⟩, .slice none 0 0, .slice none 0 0, .slice none 0 0, .slice none 0 0]) ⟨⟨#[]⟩, [], [], [], []⟩ :=
  ⟨none, none, none, none, 0, 0, 0, 0, rfl, fun k s h => by simp at h, fun k s h => by simp at h, fun k s h => by simp at h, fun k s h => by simp at h, ⟨Nat.le_refl _, Nat.le_refl _, Nat.le_refl _, Nat.le_refl _⟩⟩
end Go.Proofs.YtnidamdfdlkoiaaDoor.A
