/-
  DERIVED. GIVEN WITH THE SEED: THE CARDS: each row of YtjanjjkgnilhoaaDoorRows.lean that lists a variable, with what it lists TIED to the program's text (the seventh form; the later family's looks); each row that meets fmt, with fmt's text TOLD by the authors' own Lean function (tested against real Go, not proved from fmt's source: count such statements apart). THE CARD IS WHAT COUNTS. Prove the row's statement (the work); the ties are given (YtjanjjkgnilhoaaDoorTie.lean); close each card by the builder's one call (the guide's Derived/Test/ToyasCard.lean, 'card_holds'). Laid BY PROGRAM, IN A SANDBOX (cutbox-door.mjs). By AI agents, Wed Nov 11 2026. No macro, syntax, notation, axiom, sorry.
-/
import Derived.Test.YtjanjjkgnilhoaaDoorRows
import GoSem.ClaimSeven
namespace Go.Proofs.YtjanjjkgnilhoaaDoor
namespace Rows

/-- THE TIED CARD OF 'scriniumlaw22.LockTells'. -/
def lockTellsCard : Claim7 := { stood := { row := lockTellsRow, standIns := [], harness := (true, "b7ed0a1f0701c8d96e1613d8995174cdd56eaf73afee60b43037804154589e92"), looks := false }, kinds := [], alts := [], laidByText := true, laidKinds := [.data, .pinned], laidTests := true, laidLooks := .later }
def LockTellsCardSaid : Prop := Claim7.holds Tryd.pinned (.plain (OpenSpec.ofChange lockTellsSpec)) lockTellsCard

/-- THE TIED CARD OF 'scriniumlaw22.LockApart'. -/
def lockApartCard : Claim7 := { stood := { row := lockApartRow, standIns := [], harness := (true, "b7ed0a1f0701c8d96e1613d8995174cdd56eaf73afee60b43037804154589e92"), looks := false }, kinds := [], alts := [], laidByText := true, laidKinds := [.data, .pinned], laidTests := true, laidLooks := .later }
def LockApartCardSaid : Prop := Claim7.holds Tryd.pinned (.plain (OpenSpec.ofChange lockApartSpec)) lockApartCard

/-- THE TIED CARD OF 'scriniumlaw22.LockMeans'. -/
def lockMeansCard : Claim7 := { stood := { row := lockMeansRow, standIns := [], harness := (true, "b7ed0a1f0701c8d96e1613d8995174cdd56eaf73afee60b43037804154589e92"), looks := false }, kinds := [], alts := [], laidByText := true, laidKinds := [.data, .pinned], laidTests := true, laidLooks := .later }
def LockMeansCardSaid : Prop := Claim7.holds Tryd.pinned (.plain (OpenSpec.ofChange lockMeansSpec)) lockMeansCard

/-- THE TIED CARD OF 'scriniumlaw22.LockFull'. -/
def lockFullCard : Claim7 := { stood := { row := lockFullRow, standIns := [], harness := (true, "b7ed0a1f0701c8d96e1613d8995174cdd56eaf73afee60b43037804154589e92"), looks := false }, kinds := [], alts := [], laidByText := true, laidKinds := [.data, .pinned], laidTests := true, laidLooks := .later }
def LockFullCardSaid : Prop := Claim7.holds Tryd.pinned (.plain (OpenSpec.ofChange lockFullSpec)) lockFullCard

/-- THE SECOND FORM's CARD OF 'scriniumlaw22.LockTells'. -/
def lockTellsUptoCard : Claim7 := { stood := { row := lockTellsUptoRow, standIns := [], harness := (true, "b7ed0a1f0701c8d96e1613d8995174cdd56eaf73afee60b43037804154589e92"), looks := false }, kinds := [], alts := [], laidByText := true, laidKinds := [.data, .pinned], laidTests := true, laidLooks := .later }
def LockTellsUptoCardSaid : Prop := Claim7.holds Tryd.pinned (.plain (OpenSpec.upto lockTellsSpec)) lockTellsUptoCard

/-- THE SECOND FORM's CARD OF 'scriniumlaw22.LockApart'. -/
def lockApartUptoCard : Claim7 := { stood := { row := lockApartUptoRow, standIns := [], harness := (true, "b7ed0a1f0701c8d96e1613d8995174cdd56eaf73afee60b43037804154589e92"), looks := false }, kinds := [], alts := [], laidByText := true, laidKinds := [.data, .pinned], laidTests := true, laidLooks := .later }
def LockApartUptoCardSaid : Prop := Claim7.holds Tryd.pinned (.plain (OpenSpec.upto lockApartSpec)) lockApartUptoCard

/-- THE SECOND FORM's CARD OF 'scriniumlaw22.LockMeans'. -/
def lockMeansUptoCard : Claim7 := { stood := { row := lockMeansUptoRow, standIns := [], harness := (true, "b7ed0a1f0701c8d96e1613d8995174cdd56eaf73afee60b43037804154589e92"), looks := false }, kinds := [], alts := [], laidByText := true, laidKinds := [.data, .pinned], laidTests := true, laidLooks := .later }
def LockMeansUptoCardSaid : Prop := Claim7.holds Tryd.pinned (.plain (OpenSpec.upto lockMeansSpec)) lockMeansUptoCard

/-- THE SECOND FORM's CARD OF 'scriniumlaw22.LockFull'. -/
def lockFullUptoCard : Claim7 := { stood := { row := lockFullUptoRow, standIns := [], harness := (true, "b7ed0a1f0701c8d96e1613d8995174cdd56eaf73afee60b43037804154589e92"), looks := false }, kinds := [], alts := [], laidByText := true, laidKinds := [.data, .pinned], laidTests := true, laidLooks := .later }
def LockFullUptoCardSaid : Prop := Claim7.holds Tryd.pinned (.plain (OpenSpec.upto lockFullSpec)) lockFullUptoCard
end Rows
end Go.Proofs.YtjanjjkgnilhoaaDoor
