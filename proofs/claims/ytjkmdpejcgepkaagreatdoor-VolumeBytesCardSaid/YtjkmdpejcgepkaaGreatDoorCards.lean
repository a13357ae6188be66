/-
  DERIVED. GIVEN WITH THE SEED: THE CARDS: each row of YtjkmdpejcgepkaaGreatDoorRows.lean that lists a variable, with what it lists TIED to the program's text (the seventh form; the later family's looks); each row that meets fmt, with fmt's text TOLD by the authors' own Lean function (tested against real Go, not proved from fmt's source: count such statements apart). THE CARD IS WHAT COUNTS. Prove the row's statement (the work); the ties are given (YtjkmdpejcgepkaaGreatDoorTie.lean); close each card by the builder's one call (the guide's Derived/Test/ToyasCard.lean, 'card_holds'). Laid BY PROGRAM, IN A SANDBOX (cutbox-door.mjs). By AI agents, Wed Nov 11 2026. No macro, syntax, notation, axiom, sorry.
-/
import Derived.Test.YtjkmdpejcgepkaaGreatDoorRows
import GoSem.ClaimSeven
namespace Go.Proofs.YtjkmdpejcgepkaaGreatDoor
namespace Rows

/-- THE TIED CARD OF 'palantypelaw10.VolumeEver'. -/
def volumeEverCard : Claim7 := { stood := { row := volumeEverRow, standIns := [], harness := (true, "3f0750684767fb5c76fed738a528635a78963ad99a5522d2521a2acb81435c90"), looks := true }, kinds := [], alts := [], laidByText := true, laidKinds := [.data, .data, .data, .sentinel, .sentinel], laidTests := true, laidLooks := .later }
def VolumeEverCardSaid : Prop := Claim7.holds Tryz.pinned (.plain (OpenSpec.ofChange volumeEverSpec)) volumeEverCard

/-- THE TIED CARD OF 'palantypelaw10.VolumeLinks'. -/
def volumeLinksCard : Claim7 := { stood := { row := volumeLinksRow, standIns := [], harness := (true, "3f0750684767fb5c76fed738a528635a78963ad99a5522d2521a2acb81435c90"), looks := true }, kinds := [], alts := [], laidByText := true, laidKinds := [.data, .data, .data, .sentinel, .sentinel], laidTests := true, laidLooks := .later }
def VolumeLinksCardSaid : Prop := Claim7.holds Tryz.pinned (.plain (OpenSpec.ofChange volumeLinksSpec)) volumeLinksCard

/-- THE TIED CARD OF 'palantypelaw10.VolumeLines'. -/
def volumeLinesCard : Claim7 := { stood := { row := volumeLinesRow, standIns := [], harness := (true, "3f0750684767fb5c76fed738a528635a78963ad99a5522d2521a2acb81435c90"), looks := true }, kinds := [], alts := [], laidByText := true, laidKinds := [.data, .data, .data, .sentinel, .sentinel], laidTests := true, laidLooks := .later }
def VolumeLinesCardSaid : Prop := Claim7.holds Tryz.pinned (.plain (OpenSpec.ofChange volumeLinesSpec)) volumeLinesCard

/-- THE TIED CARD OF 'palantypelaw10.VolumeLives'. -/
def volumeLivesCard : Claim7 := { stood := { row := volumeLivesRow, standIns := [], harness := (true, "3f0750684767fb5c76fed738a528635a78963ad99a5522d2521a2acb81435c90"), looks := true }, kinds := [], alts := [], laidByText := true, laidKinds := [.data, .data, .data, .sentinel, .sentinel], laidTests := true, laidLooks := .later }
def VolumeLivesCardSaid : Prop := Claim7.holds Tryz.pinned (.plain (OpenSpec.ofChange volumeLivesSpec)) volumeLivesCard

/-- THE TIED CARD OF 'palantypelaw10.VolumeWords'. -/
def volumeWordsCard : Claim7 := { stood := { row := volumeWordsRow, standIns := [], harness := (true, "3f0750684767fb5c76fed738a528635a78963ad99a5522d2521a2acb81435c90"), looks := true }, kinds := [], alts := [], laidByText := true, laidKinds := [.data, .data, .data, .sentinel, .sentinel], laidTests := true, laidLooks := .later }
def VolumeWordsCardSaid : Prop := Claim7.holds Tryz.pinned (.plain (OpenSpec.ofChange volumeWordsSpec)) volumeWordsCard

/-- THE TIED CARD OF 'palantypelaw10.VolumeBytes'. -/
def volumeBytesCard : Claim7 := { stood := { row := volumeBytesRow, standIns := [], harness := (true, "3f0750684767fb5c76fed738a528635a78963ad99a5522d2521a2acb81435c90"), looks := true }, kinds := [], alts := [], laidByText := true, laidKinds := [.data, .data, .data, .sentinel, .sentinel], laidTests := true, laidLooks := .later }
def VolumeBytesCardSaid : Prop := Claim7.holds Tryz.pinned (.plain (OpenSpec.ofChange volumeBytesSpec)) volumeBytesCard

/-- THE TIED CARD OF 'palantypelaw10.VolumeNames'. -/
def volumeNamesCard : Claim7 := { stood := { row := volumeNamesRow, standIns := [], harness := (true, "3f0750684767fb5c76fed738a528635a78963ad99a5522d2521a2acb81435c90"), looks := true }, kinds := [], alts := [], laidByText := true, laidKinds := [.data, .data, .data, .sentinel, .sentinel], laidTests := true, laidLooks := .later }
def VolumeNamesCardSaid : Prop := Claim7.holds Tryz.pinned (.plain (OpenSpec.ofChange volumeNamesSpec)) volumeNamesCard

/-- THE TIED CARD OF 'palantypelaw10.VolumeOrder'. -/
def volumeOrderCard : Claim7 := { stood := { row := volumeOrderRow, standIns := [], harness := (true, "3f0750684767fb5c76fed738a528635a78963ad99a5522d2521a2acb81435c90"), looks := true }, kinds := [], alts := [], laidByText := true, laidKinds := [.data, .data, .data, .sentinel, .sentinel], laidTests := true, laidLooks := .later }
def VolumeOrderCardSaid : Prop := Claim7.holds Tryz.pinned (.plain (OpenSpec.ofChange volumeOrderSpec)) volumeOrderCard

/-- THE SECOND FORM's CARD OF 'palantypelaw10.VolumeEver'. -/
def volumeEverUptoCard : Claim7 := { stood := { row := volumeEverUptoRow, standIns := [], harness := (true, "3f0750684767fb5c76fed738a528635a78963ad99a5522d2521a2acb81435c90"), looks := true }, kinds := [], alts := [], laidByText := true, laidKinds := [.data, .data, .data, .sentinel, .sentinel], laidTests := true, laidLooks := .later }
def VolumeEverUptoCardSaid : Prop := Claim7.holds Tryz.pinned (.plain (OpenSpec.upto volumeEverSpec)) volumeEverUptoCard

/-- THE SECOND FORM's CARD OF 'palantypelaw10.VolumeLinks'. -/
def volumeLinksUptoCard : Claim7 := { stood := { row := volumeLinksUptoRow, standIns := [], harness := (true, "3f0750684767fb5c76fed738a528635a78963ad99a5522d2521a2acb81435c90"), looks := true }, kinds := [], alts := [], laidByText := true, laidKinds := [.data, .data, .data, .sentinel, .sentinel], laidTests := true, laidLooks := .later }
def VolumeLinksUptoCardSaid : Prop := Claim7.holds Tryz.pinned (.plain (OpenSpec.upto volumeLinksSpec)) volumeLinksUptoCard

/-- THE SECOND FORM's CARD OF 'palantypelaw10.VolumeLines'. -/
def volumeLinesUptoCard : Claim7 := { stood := { row := volumeLinesUptoRow, standIns := [], harness := (true, "3f0750684767fb5c76fed738a528635a78963ad99a5522d2521a2acb81435c90"), looks := true }, kinds := [], alts := [], laidByText := true, laidKinds := [.data, .data, .data, .sentinel, .sentinel], laidTests := true, laidLooks := .later }
def VolumeLinesUptoCardSaid : Prop := Claim7.holds Tryz.pinned (.plain (OpenSpec.upto volumeLinesSpec)) volumeLinesUptoCard

/-- THE SECOND FORM's CARD OF 'palantypelaw10.VolumeLives'. -/
def volumeLivesUptoCard : Claim7 := { stood := { row := volumeLivesUptoRow, standIns := [], harness := (true, "3f0750684767fb5c76fed738a528635a78963ad99a5522d2521a2acb81435c90"), looks := true }, kinds := [], alts := [], laidByText := true, laidKinds := [.data, .data, .data, .sentinel, .sentinel], laidTests := true, laidLooks := .later }
def VolumeLivesUptoCardSaid : Prop := Claim7.holds Tryz.pinned (.plain (OpenSpec.upto volumeLivesSpec)) volumeLivesUptoCard

/-- THE SECOND FORM's CARD OF 'palantypelaw10.VolumeWords'. -/
def volumeWordsUptoCard : Claim7 := { stood := { row := volumeWordsUptoRow, standIns := [], harness := (true, "3f0750684767fb5c76fed738a528635a78963ad99a5522d2521a2acb81435c90"), looks := true }, kinds := [], alts := [], laidByText := true, laidKinds := [.data, .data, .data, .sentinel, .sentinel], laidTests := true, laidLooks := .later }
def VolumeWordsUptoCardSaid : Prop := Claim7.holds Tryz.pinned (.plain (OpenSpec.upto volumeWordsSpec)) volumeWordsUptoCard

/-- THE SECOND FORM's CARD OF 'palantypelaw10.VolumeBytes'. -/
def volumeBytesUptoCard : Claim7 := { stood := { row := volumeBytesUptoRow, standIns := [], harness := (true, "3f0750684767fb5c76fed738a528635a78963ad99a5522d2521a2acb81435c90"), looks := true }, kinds := [], alts := [], laidByText := true, laidKinds := [.data, .data, .data, .sentinel, .sentinel], laidTests := true, laidLooks := .later }
def VolumeBytesUptoCardSaid : Prop := Claim7.holds Tryz.pinned (.plain (OpenSpec.upto volumeBytesSpec)) volumeBytesUptoCard

/-- THE SECOND FORM's CARD OF 'palantypelaw10.VolumeNames'. -/
def volumeNamesUptoCard : Claim7 := { stood := { row := volumeNamesUptoRow, standIns := [], harness := (true, "3f0750684767fb5c76fed738a528635a78963ad99a5522d2521a2acb81435c90"), looks := true }, kinds := [], alts := [], laidByText := true, laidKinds := [.data, .data, .data, .sentinel, .sentinel], laidTests := true, laidLooks := .later }
def VolumeNamesUptoCardSaid : Prop := Claim7.holds Tryz.pinned (.plain (OpenSpec.upto volumeNamesSpec)) volumeNamesUptoCard

/-- THE SECOND FORM's CARD OF 'palantypelaw10.VolumeOrder'. -/
def volumeOrderUptoCard : Claim7 := { stood := { row := volumeOrderUptoRow, standIns := [], harness := (true, "3f0750684767fb5c76fed738a528635a78963ad99a5522d2521a2acb81435c90"), looks := true }, kinds := [], alts := [], laidByText := true, laidKinds := [.data, .data, .data, .sentinel, .sentinel], laidTests := true, laidLooks := .later }
def VolumeOrderUptoCardSaid : Prop := Claim7.holds Tryz.pinned (.plain (OpenSpec.upto volumeOrderSpec)) volumeOrderUptoCard
end Rows
end Go.Proofs.YtjkmdpejcgepkaaGreatDoor
