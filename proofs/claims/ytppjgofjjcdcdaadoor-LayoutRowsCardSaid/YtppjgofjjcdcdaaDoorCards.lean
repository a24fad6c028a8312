/-
  DERIVED. GIVEN WITH THE SEED: THE CARDS: each row of YtppjgofjjcdcdaaDoorRows.lean that lists a variable, with what it lists TIED to the program's text (the seventh form; the later family's looks); each row that meets fmt, with fmt's text TOLD by the authors' own Lean function (tested against real Go, not proved from fmt's source: count such statements apart). THE CARD IS WHAT COUNTS. Prove the row's statement (the work); the ties are given (YtppjgofjjcdcdaaDoorTie.lean); close each card by the builder's one call (the guide's Derived/Test/ToyasCard.lean, 'card_holds'). Laid BY PROGRAM, IN A SANDBOX (cutbox-door.mjs). By AI agents, Wed Nov 11 2026. No macro, syntax, notation, axiom, sorry.
-/
import Derived.Test.YtppjgofjjcdcdaaDoorRows
import GoSem.ClaimSeven
namespace Go.Proofs.YtppjgofjjcdcdaaDoor
namespace Rows

/-- THE TIED CARD OF 'copyistlaw35.LayoutRows'. -/
def layoutRowsCard : Claim7 := { stood := { row := layoutRowsRow, standIns := [], harness := (true, "16e9f93a064cc0cbf916511fd3315706165524466869e6c24f2330280a7c2389"), looks := false }, kinds := [], alts := [], laidByText := true, laidKinds := [.data, .pinned], laidTests := true, laidLooks := .later }
def LayoutRowsCardSaid : Prop := Claim7.holds Tryd.pinned (.plain (OpenSpec.ofChange layoutRowsSpec)) layoutRowsCard

/-- THE TIED CARD OF 'copyistlaw35.LayoutFinds'. -/
def layoutFindsCard : Claim7 := { stood := { row := layoutFindsRow, standIns := [], harness := (true, "16e9f93a064cc0cbf916511fd3315706165524466869e6c24f2330280a7c2389"), looks := false }, kinds := [], alts := [], laidByText := true, laidKinds := [.data, .pinned], laidTests := true, laidLooks := .later }
def LayoutFindsCardSaid : Prop := Claim7.holds Tryd.pinned (.plain (OpenSpec.ofChange layoutFindsSpec)) layoutFindsCard

/-- THE TIED CARD OF 'copyistlaw35.LayoutWhole'. -/
def layoutWholeCard : Claim7 := { stood := { row := layoutWholeRow, standIns := [], harness := (true, "16e9f93a064cc0cbf916511fd3315706165524466869e6c24f2330280a7c2389"), looks := false }, kinds := [], alts := [], laidByText := true, laidKinds := [.data, .pinned], laidTests := true, laidLooks := .later }
def LayoutWholeCardSaid : Prop := Claim7.holds Tryd.pinned (.plain (OpenSpec.ofChange layoutWholeSpec)) layoutWholeCard

/-- THE TIED CARD OF 'copyistlaw35.LayoutPlaces'. -/
def layoutPlacesCard : Claim7 := { stood := { row := layoutPlacesRow, standIns := [], harness := (true, "16e9f93a064cc0cbf916511fd3315706165524466869e6c24f2330280a7c2389"), looks := false }, kinds := [], alts := [], laidByText := true, laidKinds := [.data, .pinned], laidTests := true, laidLooks := .later }
def LayoutPlacesCardSaid : Prop := Claim7.holds Tryd.pinned (.plain (OpenSpec.ofChange layoutPlacesSpec)) layoutPlacesCard

/-- THE TIED CARD OF 'copyistlaw35.LayoutFits'. -/
def layoutFitsCard : Claim7 := { stood := { row := layoutFitsRow, standIns := [], harness := (true, "16e9f93a064cc0cbf916511fd3315706165524466869e6c24f2330280a7c2389"), looks := false }, kinds := [], alts := [], laidByText := true, laidKinds := [.data, .pinned], laidTests := true, laidLooks := .later }
def LayoutFitsCardSaid : Prop := Claim7.holds Tryd.pinned (.plain (OpenSpec.ofChange layoutFitsSpec)) layoutFitsCard

/-- THE SECOND FORM's CARD OF 'copyistlaw35.LayoutRows'. -/
def layoutRowsUptoCard : Claim7 := { stood := { row := layoutRowsUptoRow, standIns := [], harness := (true, "16e9f93a064cc0cbf916511fd3315706165524466869e6c24f2330280a7c2389"), looks := false }, kinds := [], alts := [], laidByText := true, laidKinds := [.data, .pinned], laidTests := true, laidLooks := .later }
def LayoutRowsUptoCardSaid : Prop := Claim7.holds Tryd.pinned (.plain (OpenSpec.upto layoutRowsSpec)) layoutRowsUptoCard

/-- THE SECOND FORM's CARD OF 'copyistlaw35.LayoutFinds'. -/
def layoutFindsUptoCard : Claim7 := { stood := { row := layoutFindsUptoRow, standIns := [], harness := (true, "16e9f93a064cc0cbf916511fd3315706165524466869e6c24f2330280a7c2389"), looks := false }, kinds := [], alts := [], laidByText := true, laidKinds := [.data, .pinned], laidTests := true, laidLooks := .later }
def LayoutFindsUptoCardSaid : Prop := Claim7.holds Tryd.pinned (.plain (OpenSpec.upto layoutFindsSpec)) layoutFindsUptoCard

/-- THE SECOND FORM's CARD OF 'copyistlaw35.LayoutWhole'. -/
def layoutWholeUptoCard : Claim7 := { stood := { row := layoutWholeUptoRow, standIns := [], harness := (true, "16e9f93a064cc0cbf916511fd3315706165524466869e6c24f2330280a7c2389"), looks := false }, kinds := [], alts := [], laidByText := true, laidKinds := [.data, .pinned], laidTests := true, laidLooks := .later }
def LayoutWholeUptoCardSaid : Prop := Claim7.holds Tryd.pinned (.plain (OpenSpec.upto layoutWholeSpec)) layoutWholeUptoCard

/-- THE SECOND FORM's CARD OF 'copyistlaw35.LayoutPlaces'. -/
def layoutPlacesUptoCard : Claim7 := { stood := { row := layoutPlacesUptoRow, standIns := [], harness := (true, "16e9f93a064cc0cbf916511fd3315706165524466869e6c24f2330280a7c2389"), looks := false }, kinds := [], alts := [], laidByText := true, laidKinds := [.data, .pinned], laidTests := true, laidLooks := .later }
def LayoutPlacesUptoCardSaid : Prop := Claim7.holds Tryd.pinned (.plain (OpenSpec.upto layoutPlacesSpec)) layoutPlacesUptoCard

/-- THE SECOND FORM's CARD OF 'copyistlaw35.LayoutFits'. -/
def layoutFitsUptoCard : Claim7 := { stood := { row := layoutFitsUptoRow, standIns := [], harness := (true, "16e9f93a064cc0cbf916511fd3315706165524466869e6c24f2330280a7c2389"), looks := false }, kinds := [], alts := [], laidByText := true, laidKinds := [.data, .pinned], laidTests := true, laidLooks := .later }
def LayoutFitsUptoCardSaid : Prop := Claim7.holds Tryd.pinned (.plain (OpenSpec.upto layoutFitsSpec)) layoutFitsUptoCard
end Rows
end Go.Proofs.YtppjgofjjcdcdaaDoor
