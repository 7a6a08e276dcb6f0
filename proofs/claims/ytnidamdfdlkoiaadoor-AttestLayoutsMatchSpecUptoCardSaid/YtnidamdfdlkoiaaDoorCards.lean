/-
  DERIVED. GIVEN WITH THE SEED: THE CARDS: each row of YtnidamdfdlkoiaaDoorRows.lean that lists a variable, with what it lists TIED to the program's text (the seventh form; the later family's looks); each row that meets fmt, with fmt's text TOLD by the authors' own Lean function (tested against real Go, not proved from fmt's source: count such statements apart). THE CARD IS WHAT COUNTS. Prove the row's statement (the work); the ties are given (YtnidamdfdlkoiaaDoorTie.lean); close each card by the builder's one call (the guide's Derived/Test/ToyasCard.lean, 'card_holds'). Laid BY PROGRAM, IN A SANDBOX (cutbox-door.mjs). By AI agents, Wed Nov 11 2026. No macro, syntax, notation, axiom, sorry.
-/
import Derived.Test.YtnidamdfdlkoiaaDoorRows
import GoSem.ClaimSeven
namespace Go.Proofs.YtnidamdfdlkoiaaDoor
namespace Rows

/-- THE TIED CARD OF 'provenderlaw8.AttestLinksMatchSpec'. -/
def attestLinksMatchSpecCard : Claim7 := { stood := { row := attestLinksMatchSpecRow, standIns := [], harness := (true, "7349bacabea01065691126f480fbea5c2192fec86067ef6bc376e0c1ebf1f465"), looks := false }, kinds := [], alts := [], laidByText := true, laidKinds := [.data, .data, .data], laidTests := true, laidLooks := .later }
def AttestLinksMatchSpecCardSaid : Prop := Claim7.holds Tryd.pinned (.plain (OpenSpec.ofChange attestLinksMatchSpecSpec)) attestLinksMatchSpecCard

/-- THE TIED CARD OF 'provenderlaw8.AttestLayoutsMatchSpec'. -/
def attestLayoutsMatchSpecCard : Claim7 := { stood := { row := attestLayoutsMatchSpecRow, standIns := [], harness := (true, "7349bacabea01065691126f480fbea5c2192fec86067ef6bc376e0c1ebf1f465"), looks := false }, kinds := [], alts := [], laidByText := true, laidKinds := [.data, .data, .data], laidTests := true, laidLooks := .later }
def AttestLayoutsMatchSpecCardSaid : Prop := Claim7.holds Tryd.pinned (.plain (OpenSpec.ofChange attestLayoutsMatchSpecSpec)) attestLayoutsMatchSpecCard

/-- THE SECOND FORM's CARD OF 'provenderlaw8.AttestLinksMatchSpec'. -/
def attestLinksMatchSpecUptoCard : Claim7 := { stood := { row := attestLinksMatchSpecUptoRow, standIns := [], harness := (true, "7349bacabea01065691126f480fbea5c2192fec86067ef6bc376e0c1ebf1f465"), looks := false }, kinds := [], alts := [], laidByText := true, laidKinds := [.data, .data, .data], laidTests := true, laidLooks := .later }
def AttestLinksMatchSpecUptoCardSaid : Prop := Claim7.holds Tryd.pinned (.plain (OpenSpec.upto attestLinksMatchSpecSpec)) attestLinksMatchSpecUptoCard

/-- THE SECOND FORM's CARD OF 'provenderlaw8.AttestLayoutsMatchSpec'. -/
def attestLayoutsMatchSpecUptoCard : Claim7 := { stood := { row := attestLayoutsMatchSpecUptoRow, standIns := [], harness := (true, "7349bacabea01065691126f480fbea5c2192fec86067ef6bc376e0c1ebf1f465"), looks := false }, kinds := [], alts := [], laidByText := true, laidKinds := [.data, .data, .data], laidTests := true, laidLooks := .later }
def AttestLayoutsMatchSpecUptoCardSaid : Prop := Claim7.holds Tryd.pinned (.plain (OpenSpec.upto attestLayoutsMatchSpecSpec)) attestLayoutsMatchSpecUptoCard
end Rows
end Go.Proofs.YtnidamdfdlkoiaaDoor
