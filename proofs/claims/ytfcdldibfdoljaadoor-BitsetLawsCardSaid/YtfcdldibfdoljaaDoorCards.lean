/-
  DERIVED. GIVEN WITH THE SEED: THE CARDS: each row of YtfcdldibfdoljaaDoorRows.lean that lists a variable, with what it lists TIED to the program's text (the seventh form; the later family's looks); each row that meets fmt, with fmt's text TOLD by the authors' own Lean function (tested against real Go, not proved from fmt's source: count such statements apart). THE CARD IS WHAT COUNTS. Prove the row's statement (the work); the ties are given (YtfcdldibfdoljaaDoorTie.lean); close each card by the builder's one call (the guide's Derived/Test/ToyasCard.lean, 'card_holds'). Laid BY PROGRAM, IN A SANDBOX (cutbox-door.mjs). By AI agents, Wed Nov 11 2026. No macro, syntax, notation, axiom, sorry.
-/
import Derived.Test.YtfcdldibfdoljaaDoorRows
import GoSem.ClaimSeven
namespace Go.Proofs.YtfcdldibfdoljaaDoor
namespace Rows

/-- THE TIED CARD OF 'lanternlaw15.BitsetAsks'. -/
def bitsetAsksCard : Claim7 := { stood := { row := bitsetAsksRow, standIns := [], harness := (true, "53a0e138baab9db2100574960a61e976519b8833632429e2dd3ab20e55969282"), looks := false }, kinds := [], alts := [], laidByText := true, laidKinds := [.data], laidTests := true, laidLooks := .later }
def BitsetAsksCardSaid : Prop := Claim7.holds Tryd.pinned (.plain (OpenSpec.ofChange bitsetAsksSpec)) bitsetAsksCard

/-- THE TIED CARD OF 'lanternlaw15.BitsetLaws'. -/
def bitsetLawsCard : Claim7 := { stood := { row := bitsetLawsRow, standIns := [], harness := (true, "53a0e138baab9db2100574960a61e976519b8833632429e2dd3ab20e55969282"), looks := false }, kinds := [], alts := [], laidByText := true, laidKinds := [.data], laidTests := true, laidLooks := .later }
def BitsetLawsCardSaid : Prop := Claim7.holds Tryd.pinned (.plain (OpenSpec.ofChange bitsetLawsSpec)) bitsetLawsCard

/-- THE SECOND FORM's CARD OF 'lanternlaw15.BitsetAsks'. -/
def bitsetAsksUptoCard : Claim7 := { stood := { row := bitsetAsksUptoRow, standIns := [], harness := (true, "53a0e138baab9db2100574960a61e976519b8833632429e2dd3ab20e55969282"), looks := false }, kinds := [], alts := [], laidByText := true, laidKinds := [.data], laidTests := true, laidLooks := .later }
def BitsetAsksUptoCardSaid : Prop := Claim7.holds Tryd.pinned (.plain (OpenSpec.upto bitsetAsksSpec)) bitsetAsksUptoCard

/-- THE SECOND FORM's CARD OF 'lanternlaw15.BitsetLaws'. -/
def bitsetLawsUptoCard : Claim7 := { stood := { row := bitsetLawsUptoRow, standIns := [], harness := (true, "53a0e138baab9db2100574960a61e976519b8833632429e2dd3ab20e55969282"), looks := false }, kinds := [], alts := [], laidByText := true, laidKinds := [.data], laidTests := true, laidLooks := .later }
def BitsetLawsUptoCardSaid : Prop := Claim7.holds Tryd.pinned (.plain (OpenSpec.upto bitsetLawsSpec)) bitsetLawsUptoCard
end Rows
end Go.Proofs.YtfcdldibfdoljaaDoor
