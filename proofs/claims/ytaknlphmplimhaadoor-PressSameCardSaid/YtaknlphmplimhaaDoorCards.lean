/-
  DERIVED. GIVEN WITH THE SEED: THE CARDS: each row of YtaknlphmplimhaaDoorRows.lean that lists a variable, with what it lists TIED to the program's text (the seventh form; the later family's looks); each row that meets fmt, with fmt's text TOLD by the authors' own Lean function (tested against real Go, not proved from fmt's source: count such statements apart). THE CARD IS WHAT COUNTS. Prove the row's statement (the work); the ties are given (YtaknlphmplimhaaDoorTie.lean); close each card by the builder's one call (the guide's Derived/Test/ToyasCard.lean, 'card_holds'). Laid BY PROGRAM, IN A SANDBOX (cutbox-door.mjs). By AI agents, Wed Nov 11 2026. No macro, syntax, notation, axiom, sorry.
-/
import Derived.Test.YtaknlphmplimhaaDoorRows
import GoSem.ClaimSeven
namespace Go.Proofs.YtaknlphmplimhaaDoor
namespace Rows

/-- THE TIED CARD OF 'patchbaykeep2.TrieKeeps'. -/
def trieKeepsCard : Claim7 := { stood := { row := trieKeepsRow, standIns := [], harness := (true, "423d8af964683c22c9de3d6c771a0a9e2b4aecd1b26d0bcecdd20706f76eab91"), looks := false }, kinds := [], alts := [], laidByText := true, laidKinds := [.data], laidTests := true, laidLooks := .later }
def TrieKeepsCardSaid : Prop := Claim7.holds Tryd.pinned (.plain (OpenSpec.ofChange trieKeepsSpec)) trieKeepsCard

/-- THE TIED CARD OF 'patchbaykeep2.TrieLongest'. -/
def trieLongestCard : Claim7 := { stood := { row := trieLongestRow, standIns := [], harness := (true, "423d8af964683c22c9de3d6c771a0a9e2b4aecd1b26d0bcecdd20706f76eab91"), looks := false }, kinds := [], alts := [], laidByText := true, laidKinds := [.data], laidTests := true, laidLooks := .later }
def TrieLongestCardSaid : Prop := Claim7.holds Tryd.pinned (.plain (OpenSpec.ofChange trieLongestSpec)) trieLongestCard

/-- THE TIED CARD OF 'patchbaykeep2.TrieUnder'. -/
def trieUnderCard : Claim7 := { stood := { row := trieUnderRow, standIns := [], harness := (true, "423d8af964683c22c9de3d6c771a0a9e2b4aecd1b26d0bcecdd20706f76eab91"), looks := false }, kinds := [], alts := [], laidByText := true, laidKinds := [.data], laidTests := true, laidLooks := .later }
def TrieUnderCardSaid : Prop := Claim7.holds Tryd.pinned (.plain (OpenSpec.ofChange trieUnderSpec)) trieUnderCard

/-- THE TIED CARD OF 'patchbaykeep2.TrieOrder'. -/
def trieOrderCard : Claim7 := { stood := { row := trieOrderRow, standIns := [], harness := (true, "423d8af964683c22c9de3d6c771a0a9e2b4aecd1b26d0bcecdd20706f76eab91"), looks := false }, kinds := [], alts := [], laidByText := true, laidKinds := [.data], laidTests := true, laidLooks := .later }
def TrieOrderCardSaid : Prop := Claim7.holds Tryd.pinned (.plain (OpenSpec.ofChange trieOrderSpec)) trieOrderCard

/-- THE TIED CARD OF 'patchbaykeep2.PressFew'. -/
def pressFewCard : Claim7 := { stood := { row := pressFewRow, standIns := [], harness := (true, "423d8af964683c22c9de3d6c771a0a9e2b4aecd1b26d0bcecdd20706f76eab91"), looks := false }, kinds := [], alts := [], laidByText := true, laidKinds := [.data], laidTests := true, laidLooks := .later }
def PressFewCardSaid : Prop := Claim7.holds Tryd.pinned (.plain (OpenSpec.ofChange pressFewSpec)) pressFewCard

/-- THE TIED CARD OF 'patchbaykeep2.PressAsTrie'. -/
def pressAsTrieCard : Claim7 := { stood := { row := pressAsTrieRow, standIns := [], harness := (true, "423d8af964683c22c9de3d6c771a0a9e2b4aecd1b26d0bcecdd20706f76eab91"), looks := false }, kinds := [], alts := [], laidByText := true, laidKinds := [.data], laidTests := true, laidLooks := .later }
def PressAsTrieCardSaid : Prop := Claim7.holds Tryd.pinned (.plain (OpenSpec.ofChange pressAsTrieSpec)) pressAsTrieCard

/-- THE TIED CARD OF 'patchbaykeep2.PressSame'. -/
def pressSameCard : Claim7 := { stood := { row := pressSameRow, standIns := [], harness := (true, "423d8af964683c22c9de3d6c771a0a9e2b4aecd1b26d0bcecdd20706f76eab91"), looks := false }, kinds := [], alts := [], laidByText := true, laidKinds := [.data], laidTests := true, laidLooks := .later }
def PressSameCardSaid : Prop := Claim7.holds Tryd.pinned (.plain (OpenSpec.ofChange pressSameSpec)) pressSameCard

/-- THE TIED CARD OF 'patchbaykeep2.AddrHalves'. -/
def addrHalvesCard : Claim7 := { stood := { row := addrHalvesRow, standIns := [], harness := (true, "423d8af964683c22c9de3d6c771a0a9e2b4aecd1b26d0bcecdd20706f76eab91"), looks := false }, kinds := [], alts := [], laidByText := true, laidKinds := [.data, .data, .data, .data], laidTests := true, laidLooks := .later }
def AddrHalvesCardSaid : Prop := Claim7.holds Tryd.pinned (.plain (OpenSpec.ofChange addrHalvesSpec)) addrHalvesCard

/-- THE TIED CARD OF 'patchbaykeep2.AddrNested'. -/
def addrNestedCard : Claim7 := { stood := { row := addrNestedRow, standIns := [], harness := (true, "423d8af964683c22c9de3d6c771a0a9e2b4aecd1b26d0bcecdd20706f76eab91"), looks := false }, kinds := [], alts := [], laidByText := true, laidKinds := [.data, .data, .data, .data], laidTests := true, laidLooks := .later }
def AddrNestedCardSaid : Prop := Claim7.holds Tryd.pinned (.plain (OpenSpec.ofChange addrNestedSpec)) addrNestedCard

/-- THE TIED CARD OF 'patchbaykeep2.AddrOrder'. -/
def addrOrderCard : Claim7 := { stood := { row := addrOrderRow, standIns := [], harness := (true, "423d8af964683c22c9de3d6c771a0a9e2b4aecd1b26d0bcecdd20706f76eab91"), looks := false }, kinds := [], alts := [], laidByText := true, laidKinds := [.data, .data, .data, .data], laidTests := true, laidLooks := .later }
def AddrOrderCardSaid : Prop := Claim7.holds Tryd.pinned (.plain (OpenSpec.ofChange addrOrderSpec)) addrOrderCard

/-- THE TIED CARD OF 'patchbaykeep2.PsetOne'. -/
def psetOneCard : Claim7 := { stood := { row := psetOneRow, standIns := [], harness := (true, "423d8af964683c22c9de3d6c771a0a9e2b4aecd1b26d0bcecdd20706f76eab91"), looks := false }, kinds := [], alts := [], laidByText := true, laidKinds := [.data], laidTests := true, laidLooks := .later }
def PsetOneCardSaid : Prop := Claim7.holds Tryd.pinned (.plain (OpenSpec.ofChange psetOneSpec)) psetOneCard

/-- THE TIED CARD OF 'patchbaykeep2.PsetRanges'. -/
def psetRangesCard : Claim7 := { stood := { row := psetRangesRow, standIns := [], harness := (true, "423d8af964683c22c9de3d6c771a0a9e2b4aecd1b26d0bcecdd20706f76eab91"), looks := false }, kinds := [], alts := [], laidByText := true, laidKinds := [.data], laidTests := true, laidLooks := .later }
def PsetRangesCardSaid : Prop := Claim7.holds Tryd.pinned (.plain (OpenSpec.ofChange psetRangesSpec)) psetRangesCard

/-- THE TIED CARD OF 'patchbaykeep2.PsetMorgan'. -/
def psetMorganCard : Claim7 := { stood := { row := psetMorganRow, standIns := [], harness := (true, "423d8af964683c22c9de3d6c771a0a9e2b4aecd1b26d0bcecdd20706f76eab91"), looks := false }, kinds := [], alts := [], laidByText := true, laidKinds := [.data], laidTests := true, laidLooks := .later }
def PsetMorganCardSaid : Prop := Claim7.holds Tryd.pinned (.plain (OpenSpec.ofChange psetMorganSpec)) psetMorganCard

/-- THE TIED CARD OF 'patchbaykeep2.PsetSizes'. -/
def psetSizesCard : Claim7 := { stood := { row := psetSizesRow, standIns := [], harness := (true, "423d8af964683c22c9de3d6c771a0a9e2b4aecd1b26d0bcecdd20706f76eab91"), looks := false }, kinds := [], alts := [], laidByText := true, laidKinds := [.data], laidTests := true, laidLooks := .later }
def PsetSizesCardSaid : Prop := Claim7.holds Tryd.pinned (.plain (OpenSpec.ofChange psetSizesSpec)) psetSizesCard

/-- THE TIED CARD OF 'patchbaykeep2.AddrBack'. -/
def addrBackCard : Claim7 := { stood := { row := addrBackRow, standIns := [], harness := (true, "423d8af964683c22c9de3d6c771a0a9e2b4aecd1b26d0bcecdd20706f76eab91"), looks := false }, kinds := [], alts := [], laidByText := true, laidKinds := [.data, .data, .data, .data, .data, .pinned], laidTests := true, laidLooks := .later }
def AddrBackCardSaid : Prop := Claim7.holds Tryd.pinned (.plain (OpenSpec.ofChange addrBackSpec)) addrBackCard

/-- THE TIED CARD OF 'patchbaykeep2.AddrUnique'. -/
def addrUniqueCard : Claim7 := { stood := { row := addrUniqueRow, standIns := [], harness := (true, "423d8af964683c22c9de3d6c771a0a9e2b4aecd1b26d0bcecdd20706f76eab91"), looks := false }, kinds := [], alts := [], laidByText := true, laidKinds := [.data, .data, .data, .data, .data, .pinned], laidTests := true, laidLooks := .later }
def AddrUniqueCardSaid : Prop := Claim7.holds Tryd.pinned (.plain (OpenSpec.ofChange addrUniqueSpec)) addrUniqueCard

/-- THE TIED CARD OF 'patchbaykeep2.PsetExact'. -/
def psetExactCard : Claim7 := { stood := { row := psetExactRow, standIns := [], harness := (true, "423d8af964683c22c9de3d6c771a0a9e2b4aecd1b26d0bcecdd20706f76eab91"), looks := false }, kinds := [], alts := [], laidByText := true, laidKinds := [.data], laidTests := true, laidLooks := .later }
def PsetExactCardSaid : Prop := Claim7.holds Tryd.pinned (.plain (OpenSpec.ofChange psetExactSpec)) psetExactCard

/-- THE SECOND FORM's CARD OF 'patchbaykeep2.TrieKeeps'. -/
def trieKeepsUptoCard : Claim7 := { stood := { row := trieKeepsUptoRow, standIns := [], harness := (true, "423d8af964683c22c9de3d6c771a0a9e2b4aecd1b26d0bcecdd20706f76eab91"), looks := false }, kinds := [], alts := [], laidByText := true, laidKinds := [.data], laidTests := true, laidLooks := .later }
def TrieKeepsUptoCardSaid : Prop := Claim7.holds Tryd.pinned (.plain (OpenSpec.upto trieKeepsSpec)) trieKeepsUptoCard

/-- THE SECOND FORM's CARD OF 'patchbaykeep2.TrieLongest'. -/
def trieLongestUptoCard : Claim7 := { stood := { row := trieLongestUptoRow, standIns := [], harness := (true, "423d8af964683c22c9de3d6c771a0a9e2b4aecd1b26d0bcecdd20706f76eab91"), looks := false }, kinds := [], alts := [], laidByText := true, laidKinds := [.data], laidTests := true, laidLooks := .later }
def TrieLongestUptoCardSaid : Prop := Claim7.holds Tryd.pinned (.plain (OpenSpec.upto trieLongestSpec)) trieLongestUptoCard

/-- THE SECOND FORM's CARD OF 'patchbaykeep2.TrieUnder'. -/
def trieUnderUptoCard : Claim7 := { stood := { row := trieUnderUptoRow, standIns := [], harness := (true, "423d8af964683c22c9de3d6c771a0a9e2b4aecd1b26d0bcecdd20706f76eab91"), looks := false }, kinds := [], alts := [], laidByText := true, laidKinds := [.data], laidTests := true, laidLooks := .later }
def TrieUnderUptoCardSaid : Prop := Claim7.holds Tryd.pinned (.plain (OpenSpec.upto trieUnderSpec)) trieUnderUptoCard

/-- THE SECOND FORM's CARD OF 'patchbaykeep2.TrieOrder'. -/
def trieOrderUptoCard : Claim7 := { stood := { row := trieOrderUptoRow, standIns := [], harness := (true, "423d8af964683c22c9de3d6c771a0a9e2b4aecd1b26d0bcecdd20706f76eab91"), looks := false }, kinds := [], alts := [], laidByText := true, laidKinds := [.data], laidTests := true, laidLooks := .later }
def TrieOrderUptoCardSaid : Prop := Claim7.holds Tryd.pinned (.plain (OpenSpec.upto trieOrderSpec)) trieOrderUptoCard

/-- THE SECOND FORM's CARD OF 'patchbaykeep2.PressFew'. -/
def pressFewUptoCard : Claim7 := { stood := { row := pressFewUptoRow, standIns := [], harness := (true, "423d8af964683c22c9de3d6c771a0a9e2b4aecd1b26d0bcecdd20706f76eab91"), looks := false }, kinds := [], alts := [], laidByText := true, laidKinds := [.data], laidTests := true, laidLooks := .later }
def PressFewUptoCardSaid : Prop := Claim7.holds Tryd.pinned (.plain (OpenSpec.upto pressFewSpec)) pressFewUptoCard

/-- THE SECOND FORM's CARD OF 'patchbaykeep2.PressAsTrie'. -/
def pressAsTrieUptoCard : Claim7 := { stood := { row := pressAsTrieUptoRow, standIns := [], harness := (true, "423d8af964683c22c9de3d6c771a0a9e2b4aecd1b26d0bcecdd20706f76eab91"), looks := false }, kinds := [], alts := [], laidByText := true, laidKinds := [.data], laidTests := true, laidLooks := .later }
def PressAsTrieUptoCardSaid : Prop := Claim7.holds Tryd.pinned (.plain (OpenSpec.upto pressAsTrieSpec)) pressAsTrieUptoCard

/-- THE SECOND FORM's CARD OF 'patchbaykeep2.PressSame'. -/
def pressSameUptoCard : Claim7 := { stood := { row := pressSameUptoRow, standIns := [], harness := (true, "423d8af964683c22c9de3d6c771a0a9e2b4aecd1b26d0bcecdd20706f76eab91"), looks := false }, kinds := [], alts := [], laidByText := true, laidKinds := [.data], laidTests := true, laidLooks := .later }
def PressSameUptoCardSaid : Prop := Claim7.holds Tryd.pinned (.plain (OpenSpec.upto pressSameSpec)) pressSameUptoCard

/-- THE SECOND FORM's CARD OF 'patchbaykeep2.AddrHalves'. -/
def addrHalvesUptoCard : Claim7 := { stood := { row := addrHalvesUptoRow, standIns := [], harness := (true, "423d8af964683c22c9de3d6c771a0a9e2b4aecd1b26d0bcecdd20706f76eab91"), looks := false }, kinds := [], alts := [], laidByText := true, laidKinds := [.data, .data, .data, .data], laidTests := true, laidLooks := .later }
def AddrHalvesUptoCardSaid : Prop := Claim7.holds Tryd.pinned (.plain (OpenSpec.upto addrHalvesSpec)) addrHalvesUptoCard

/-- THE SECOND FORM's CARD OF 'patchbaykeep2.AddrNested'. -/
def addrNestedUptoCard : Claim7 := { stood := { row := addrNestedUptoRow, standIns := [], harness := (true, "423d8af964683c22c9de3d6c771a0a9e2b4aecd1b26d0bcecdd20706f76eab91"), looks := false }, kinds := [], alts := [], laidByText := true, laidKinds := [.data, .data, .data, .data], laidTests := true, laidLooks := .later }
def AddrNestedUptoCardSaid : Prop := Claim7.holds Tryd.pinned (.plain (OpenSpec.upto addrNestedSpec)) addrNestedUptoCard

/-- THE SECOND FORM's CARD OF 'patchbaykeep2.AddrOrder'. -/
def addrOrderUptoCard : Claim7 := { stood := { row := addrOrderUptoRow, standIns := [], harness := (true, "423d8af964683c22c9de3d6c771a0a9e2b4aecd1b26d0bcecdd20706f76eab91"), looks := false }, kinds := [], alts := [], laidByText := true, laidKinds := [.data, .data, .data, .data], laidTests := true, laidLooks := .later }
def AddrOrderUptoCardSaid : Prop := Claim7.holds Tryd.pinned (.plain (OpenSpec.upto addrOrderSpec)) addrOrderUptoCard

/-- THE SECOND FORM's CARD OF 'patchbaykeep2.PsetOne'. -/
def psetOneUptoCard : Claim7 := { stood := { row := psetOneUptoRow, standIns := [], harness := (true, "423d8af964683c22c9de3d6c771a0a9e2b4aecd1b26d0bcecdd20706f76eab91"), looks := false }, kinds := [], alts := [], laidByText := true, laidKinds := [.data], laidTests := true, laidLooks := .later }
def PsetOneUptoCardSaid : Prop := Claim7.holds Tryd.pinned (.plain (OpenSpec.upto psetOneSpec)) psetOneUptoCard

/-- THE SECOND FORM's CARD OF 'patchbaykeep2.PsetRanges'. -/
def psetRangesUptoCard : Claim7 := { stood := { row := psetRangesUptoRow, standIns := [], harness := (true, "423d8af964683c22c9de3d6c771a0a9e2b4aecd1b26d0bcecdd20706f76eab91"), looks := false }, kinds := [], alts := [], laidByText := true, laidKinds := [.data], laidTests := true, laidLooks := .later }
def PsetRangesUptoCardSaid : Prop := Claim7.holds Tryd.pinned (.plain (OpenSpec.upto psetRangesSpec)) psetRangesUptoCard

/-- THE SECOND FORM's CARD OF 'patchbaykeep2.PsetMorgan'. -/
def psetMorganUptoCard : Claim7 := { stood := { row := psetMorganUptoRow, standIns := [], harness := (true, "423d8af964683c22c9de3d6c771a0a9e2b4aecd1b26d0bcecdd20706f76eab91"), looks := false }, kinds := [], alts := [], laidByText := true, laidKinds := [.data], laidTests := true, laidLooks := .later }
def PsetMorganUptoCardSaid : Prop := Claim7.holds Tryd.pinned (.plain (OpenSpec.upto psetMorganSpec)) psetMorganUptoCard

/-- THE SECOND FORM's CARD OF 'patchbaykeep2.PsetSizes'. -/
def psetSizesUptoCard : Claim7 := { stood := { row := psetSizesUptoRow, standIns := [], harness := (true, "423d8af964683c22c9de3d6c771a0a9e2b4aecd1b26d0bcecdd20706f76eab91"), looks := false }, kinds := [], alts := [], laidByText := true, laidKinds := [.data], laidTests := true, laidLooks := .later }
def PsetSizesUptoCardSaid : Prop := Claim7.holds Tryd.pinned (.plain (OpenSpec.upto psetSizesSpec)) psetSizesUptoCard

/-- THE SECOND FORM's CARD OF 'patchbaykeep2.AddrBack'. -/
def addrBackUptoCard : Claim7 := { stood := { row := addrBackUptoRow, standIns := [], harness := (true, "423d8af964683c22c9de3d6c771a0a9e2b4aecd1b26d0bcecdd20706f76eab91"), looks := false }, kinds := [], alts := [], laidByText := true, laidKinds := [.data, .data, .data, .data, .data, .pinned], laidTests := true, laidLooks := .later }
def AddrBackUptoCardSaid : Prop := Claim7.holds Tryd.pinned (.plain (OpenSpec.upto addrBackSpec)) addrBackUptoCard

/-- THE SECOND FORM's CARD OF 'patchbaykeep2.AddrUnique'. -/
def addrUniqueUptoCard : Claim7 := { stood := { row := addrUniqueUptoRow, standIns := [], harness := (true, "423d8af964683c22c9de3d6c771a0a9e2b4aecd1b26d0bcecdd20706f76eab91"), looks := false }, kinds := [], alts := [], laidByText := true, laidKinds := [.data, .data, .data, .data, .data, .pinned], laidTests := true, laidLooks := .later }
def AddrUniqueUptoCardSaid : Prop := Claim7.holds Tryd.pinned (.plain (OpenSpec.upto addrUniqueSpec)) addrUniqueUptoCard

/-- THE SECOND FORM's CARD OF 'patchbaykeep2.PsetExact'. -/
def psetExactUptoCard : Claim7 := { stood := { row := psetExactUptoRow, standIns := [], harness := (true, "423d8af964683c22c9de3d6c771a0a9e2b4aecd1b26d0bcecdd20706f76eab91"), looks := false }, kinds := [], alts := [], laidByText := true, laidKinds := [.data], laidTests := true, laidLooks := .later }
def PsetExactUptoCardSaid : Prop := Claim7.holds Tryd.pinned (.plain (OpenSpec.upto psetExactSpec)) psetExactUptoCard
end Rows
end Go.Proofs.YtaknlphmplimhaaDoor
