/- Sign of the reference; keys that are made; what is signed. -/
import Derived.Test.YtnidamdfdlkoiaaDoorB9
import Derived.Test.YtnidamdfdlkoiaaDoorC2
namespace Go.Proofs.YtnidamdfdlkoiaaDoor.A
open Go.RowKit

set_option maxHeartbeats 4000000 in
set_option maxRecDepth 100000 in
theorem sign8_any (K : KeyD) (t : ByteArray) (w : World) (hK : K.Small) (ht : t.size ≤ maxLen) :
    Calls Tryd.prog 25 #[K.val, .string t] w fun e w' => e = .returned (.tuple #[signV (keyE K t.size true) K t, .int .i64 (keyE K t.size true)]) ∧ Below w.heap.size w w' := by
  have HE := Lib.hid (fun W => keyFault_any K t true W hK ht)
  have HC := Lib.hid (fun W h => signature8_any K t W hK (keyE_le (K := K) (sec := true) h))
  have HT2 := Lib.hid (TwoAt.new (x := .string K.name) (y := .string K.secret) (z := .string K.pub) (t1 := 28) (u := .string ⟨#[]⟩) (v := .string ⟨#[]⟩) (t2 := 47) w)
  have HB0 := Lib.hid (two_below (x := .string K.name) (y := .string K.secret) (z := .string K.pub) (t1 := 28) (u := .string ⟨#[]⟩) (v := .string ⟨#[]⟩) (t2 := 47) w)
  obtain ⟨z, hz⟩ : ∃ z, keyE K t.size true = z := ⟨_, rfl⟩
  rw [hz] at HE ⊢
  have HZ := Lib.hid hz
  clear hz hK ht
  unfold KeyD.val at *
  by_cases hz0 : z = 0
  · subst hz0
    have HC := Lib.hid (fun W => HC.out W HZ.out)
    rw [signV_ok]
    go_enter Tryd.func25, Tryd.ntmps25
    go_wp2_with fail
    refine (HE.out _).mono ?_
    rintro e w1 ⟨rfl, hb⟩
    have HT3 := Lib.hid (HT2.out.keep hb)
    have HB1 := Lib.hid (HB0.out.trans (hb.mono HB0.out.size))
    obtain ⟨k0, k1, k2⟩ := HT3.out.box
    clear hb
    go_wp2_with fail
    refine (HC.out _).mono ?_
    rintro e w2 ⟨rfl, hb⟩
    have HT4 := Lib.hid (HT3.out.keep hb)
    have HB2 := Lib.hid (HB1.out.trans (hb.mono HB1.out.size))
    obtain ⟨⟨r0, r1⟩, ⟨f0, f1⟩⟩ := HT4.out.res
    clear hb k0 k1 k2
    go_wp2
    refine bodyPost_ret (v := .tuple #[.agg #[.string K.name, .string (sigS K t)], .int .i64 0]) (by simp [results, Tryd.results25, go_sem]; go_simp) rfl ?_
    exact ⟨rfl, (HB2.out.setCell (by simp) _).setCell (by simp) _⟩
  · have hne : (z != 0) = true := by simpa using hz0
    rw [signV_no K t hz0]
    clear HC
    go_enter Tryd.func25, Tryd.ntmps25
    go_wp2_with fail
    refine (HE.out _).mono ?_
    rintro e w1 ⟨rfl, hb⟩
    have HT3 := Lib.hid (HT2.out.keep hb)
    have HB1 := Lib.hid (HB0.out.trans (hb.mono HB0.out.size))
    obtain ⟨⟨r0, r1⟩, ⟨f0, f1⟩⟩ := HT3.out.res
    clear hb
    go_wp2
    refine bodyPost_ret (v := .tuple #[.agg #[.string ⟨#[]⟩, .string ⟨#[]⟩], .int .i64 z]) (by simp [results, Tryd.results25, go_sem]; go_simp) rfl ?_
    exact ⟨rfl, (HB1.out.setCell (by simp) _).setCell (by simp) _⟩

theorem three_res {w wr : World} {x y z : Value} {t : TypeId} (h : BoxAt w (.cells #[x, y, z] t) wr) :
    (wr.cell? ⟨w.heap.size, 0, none⟩ = some x ∧ wr.cell? ⟨w.heap.size, 1, none⟩ = some y ∧ wr.cell? ⟨w.heap.size, 2, none⟩ = some z) ∧ (wr.frozen? ⟨w.heap.size, 0, none⟩ = false ∧ wr.frozen? ⟨w.heap.size, 1, none⟩ = false ∧ wr.frozen? ⟨w.heap.size, 2, none⟩ = false) := by
  have h1 := (Below.block h w.heap.size (by simp)).trans (heap_alloc_new w (.cells #[x, y, z] t))
  refine ⟨⟨?_, ?_, ?_⟩, ⟨?_, ?_, ?_⟩⟩ <;> simp [World.cell?, World.frozen?, h1]
theorem signS {b : Nat} {x y z u v : Value} {t1 t2 : TypeId} {w W : World} (h : TwoAt b x y z t1 u v t2 W) (hb : Below w.heap.size w W) :
    (W.cell? ⟨b, 0, none⟩ = some x ∧ W.cell? ⟨b, 1, none⟩ = some y ∧ W.cell? ⟨b, 2, none⟩ = some z) ∧ W.cell? ⟨b + 1, 0, none⟩ = some u ∧ W.cell? ⟨b + 1, 1, none⟩ = some v ∧ TwoAt b x y z t1 u v t2 W ∧ Below w.heap.size w W :=
  ⟨h.box, h.res.1.1, h.res.1.2, h, hb⟩

/-- a key is made -/
theorem newKey_ok (s t : ByteArray) (w : World) (hs : nameB s = true) (hsz : s.size ≤ 60) (ht0 : 1 ≤ t.size) (ht : t.size ≤ 60) (hT : Tab w) :
    Calls Tryd.prog 39 #[.string s, .string t] w fun e w' => e = .returned (.tuple #[KeyD.val ⟨s, t, pubS t⟩, .int .i64 0]) ∧ Below w.heap.size w w' := by
  have HN := Lib.hid (fun W => isName_any s W (by unfold maxLen; omega))
  rw [hs] at HN
  have HP := Lib.hid (fun W (hb : Below w.heap.size w W) => public_any t W (by unfold szB; omega) (hT.below hb))
  have HB0 := Lib.hid (BoxAt.new w (.cells #[.string ⟨#[]⟩, .string ⟨#[]⟩, .string ⟨#[]⟩] 28))
  have hne : (t.toList == ([] : List UInt8)) = false := by
    rw [ByteArray.toList_eq]
    have : t.data.toList ≠ [] := fun h => by have h2 := congrArg List.length h; simp at h2; have : t.size = 0 := by simp [ByteArray.size, h2]
                                             omega
    simpa using this
  have hgt : decide ((t.size : Int) > 60) = false := by simp; omega
  clear hs hT
  unfold KeyD.val
  go_enter Tryd.func39, Tryd.ntmps39
  go_wp2_with (go_at_call 26; refine (HN.out _).mono ?_; rintro e w' ⟨rfl, rfl⟩)
  refine (HP.out _ HB0.out.below).mono ?_
  rintro e w1 ⟨rfl, hb⟩
  have HB1 := Lib.hid (HB0.out.trans hb).below
  obtain ⟨⟨r0, r1, r2⟩, ⟨f0, f1, f2⟩⟩ := three_res (HB0.out.trans hb)
  clear hb
  go_wp2
  refine bodyPost_ret (v := .tuple #[.agg #[.string s, .string t, .string (pubS t)], .int .i64 0]) (by simp [results, Tryd.results39, go_sem]; go_simp) rfl ?_
  exact ⟨rfl, ((HB1.out.setCell (by simp) _).setCell (by simp) _).setCell (by simp) _⟩

/-- two signatures are the same -/
theorem eql_sig (a b c d : ByteArray) (w : World) : (binOp .eql 47 (.agg #[.string a, .string b]) (.agg #[.string c, .string d])).run Tryd.prog w = .ok (.bool (a.toList == c.toList && b.toList == d.toList)) w := by
  have u9 := Tryd.underlying9
  have hS : Tryd.prog.underlying 47 = some (.struct (Tryd.prog.fieldsOf 47)) := by kernel_rfl
  have hp : Tryd.prog.stoodInHeld 47 = false := by kernel_rfl
  rw [run_eql_struct, show (10000 : Nat) = 9999 + 1 from rfl, run_equalIn_agg w 9999 47 _ _ hS hp]
  simp only [Program.fieldsOf, Tryd.underlying47]
  go_simp
  by_cases h1 : a.toList = c.toList <;> by_cases h2 : b.toList = d.toList <;> simp [h1, h2]

/-- what is signed -/
def signedB (K : KeyD) (t : ByteArray) (s : ByteArray × ByteArray) : Bool := K.name.toList == s.1.toList && (sigS K t).toList == s.2.toList
def signedV (z : Int) (K : KeyD) (t : ByteArray) (s : ByteArray × ByteArray) : Bool := if z = 0 then signedB K t s else false

set_option maxHeartbeats 4000000 in
set_option maxRecDepth 100000 in
theorem signed_any (K : KeyD) (t : ByteArray) (s : ByteArray × ByteArray) (w : World) (hK : K.Small) (ht : t.size ≤ maxLen) (hT : Tab w) :
    Calls Tryd.prog 40 #[K.val, .string t, .agg #[.string s.1, .string s.2]] w fun e w' => e = .returned (.tuple #[.bool (signedV (keyE K t.size false) K t s), .int .i64 (keyE K t.size false)]) ∧ Below w.heap.size w w' := by
  have hq := eql_sig K.name (sigS K t) s.1 s.2
  have HE := Lib.hid (fun W (hb : Below w.heap.size w W) => checkKey_any K t false W hK ht (hT.below hb))
  have HC := Lib.hid (fun W (hb : Below w.heap.size w W) h => signature_any K t W hK (keyE_le (K := K) (sec := false) h) (hT.below hb))
  have HT2 := Lib.hid (TwoAt.new (x := .string K.name) (y := .string K.secret) (z := .string K.pub) (t1 := 28) (u := .string s.1) (v := .string s.2) (t2 := 47) w)
  have HB0 := Lib.hid (two_below (x := .string K.name) (y := .string K.secret) (z := .string K.pub) (t1 := 28) (u := .string s.1) (v := .string s.2) (t2 := 47) w)
  obtain ⟨z, hz⟩ : ∃ z, keyE K t.size false = z := ⟨_, rfl⟩
  rw [hz] at HE ⊢
  have HZ := Lib.hid hz
  clear hz hK ht hT
  unfold KeyD.val at *
  by_cases hz0 : z = 0
  · subst hz0
    have HC := Lib.hid (fun W hb => HC.out W hb HZ.out)
    have HV : Hid (signedV 0 K t s = signedB K t s) := Lib.hid (if_pos rfl)
    go_enter Tryd.func40, Tryd.ntmps40
    go_wp2_with fail
    refine (HE.out _ HB0.out).mono ?_
    rintro e w1 ⟨rfl, hb⟩
    have HT3 := Lib.hid (HT2.out.keep hb)
    have HB1 := Lib.hid (HB0.out.trans (hb.mono HB0.out.size))
    have hk := signS HT3.out.drew HB1.out.drew
    clear hb
    go_wp2_with fail
    first | go_region_held3 (fun w' => (w'.cell? ⟨w.heap.size, 0, none⟩ = some (.string K.name) ∧ w'.cell? ⟨w.heap.size, 1, none⟩ = some (.string K.secret) ∧ w'.cell? ⟨w.heap.size, 2, none⟩ = some (.string K.pub)) ∧ w'.cell? ⟨w.heap.size + 1, 0, none⟩ = some (.string s.1) ∧ w'.cell? ⟨w.heap.size + 1, 1, none⟩ = some (.string s.2) ∧ TwoAt w.heap.size (.string K.name) (.string K.secret) (.string K.pub) 28 (.string s.1) (.string s.2) 47 w' ∧ Below w.heap.size w w')
      (first
        | exact hk
        | (go_split_ands; exact signS (TwoAt.keep (by assumption) hb) (Below.trans (by assumption) (hb.mono (Below.size (by assumption)))))
        | (go_split_ands; exact signS (by assumption) (by assumption)))
      (first
        | (go_at_call 50; go_split_ands; refine (HC.out _ (by assumption)).mono ?_; rintro e w1 ⟨rfl, hb⟩)) | fail
    go_wp2
    refine bodyPost_ret (v := .tuple #[.bool (signedB K t s), .int .i64 0]) (by simp [results, Tryd.results40, go_sem, signedB]) rfl ?_
    exact ⟨by rw [HV.out], by go_split_ands; assumption⟩
  · have hne : (z != 0) = true := by simpa using hz0
    have HV : Hid (signedV z K t s = false) := Lib.hid (if_neg hz0)
    clear HC
    go_enter Tryd.func40, Tryd.ntmps40
    go_wp2_with fail
    refine (HE.out _ HB0.out).mono ?_
    rintro e w1 ⟨rfl, hb⟩
    have HB1 := Lib.hid (HB0.out.trans (hb.mono HB0.out.size))
    clear hb
    go_wp2
    refine bodyPost_ret (v := .tuple #[.bool false, .int .i64 z]) (by simp [results, Tryd.results40, go_sem]) rfl ?_
    exact ⟨by rw [HV.out], HB1.out⟩
end Go.Proofs.YtnidamdfdlkoiaaDoor.A
