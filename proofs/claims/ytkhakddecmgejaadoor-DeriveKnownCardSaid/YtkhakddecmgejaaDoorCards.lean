/-
  DERIVED. GIVEN WITH THE SEED: THE CARDS: each row of YtkhakddecmgejaaDoorRows.lean that lists a variable, with what it lists TIED to the program's text (the seventh form; the later family's looks); each row that meets fmt, with fmt's text TOLD by the authors' own Lean function (tested against real Go, not proved from fmt's source: count such statements apart). THE CARD IS WHAT COUNTS. Prove the row's statement (the work); the ties are given (YtkhakddecmgejaaDoorTie.lean); close each card by the builder's one call (the guide's Derived/Test/ToyasCard.lean, 'card_holds'). Laid BY PROGRAM, IN A SANDBOX (cutbox-door.mjs). By AI agents, Wed Nov 11 2026. No macro, syntax, notation, axiom, sorry.
-/
import Derived.Test.YtkhakddecmgejaaDoorRows
import GoSem.ClaimSeven
namespace Go.Proofs.YtkhakddecmgejaaDoor
namespace Rows

/-- THE TIED CARD OF 'trystlaw03.DigestNames'. -/
def digestNamesCard : Claim7 := { stood := { row := digestNamesRow, standIns := [], harness := (true, "1cc17d690c5502d916ec08ba823b31b3e5875baf6008a8086ec571968326b807"), looks := true }, kinds := [], alts := [], laidByText := true, laidKinds := [.data, .data], laidTests := true, laidLooks := .later }
def DigestNamesCardSaid : Prop := Claim7.holds Tryd.pinned (.plain (OpenSpec.ofChange digestNamesSpec)) digestNamesCard

/-- THE TIED CARD OF 'trystlaw03.DigestSums'. -/
def digestSumsCard : Claim7 := { stood := { row := digestSumsRow, standIns := [], harness := (true, "1cc17d690c5502d916ec08ba823b31b3e5875baf6008a8086ec571968326b807"), looks := true }, kinds := [], alts := [], laidByText := true, laidKinds := [.data, .data], laidTests := true, laidLooks := .later }
def DigestSumsCardSaid : Prop := Claim7.holds Tryd.pinned (.plain (OpenSpec.ofChange digestSumsSpec)) digestSumsCard

/-- THE TIED CARD OF 'trystlaw03.DigestPieces'. -/
def digestPiecesCard : Claim7 := { stood := { row := digestPiecesRow, standIns := [], harness := (true, "1cc17d690c5502d916ec08ba823b31b3e5875baf6008a8086ec571968326b807"), looks := true }, kinds := [], alts := [], laidByText := true, laidKinds := [.data, .data], laidTests := true, laidLooks := .later }
def DigestPiecesCardSaid : Prop := Claim7.holds Tryd.pinned (.plain (OpenSpec.ofChange digestPiecesSpec)) digestPiecesCard

/-- THE TIED CARD OF 'trystlaw03.DigestPlays'. -/
def digestPlaysCard : Claim7 := { stood := { row := digestPlaysRow, standIns := [], harness := (true, "1cc17d690c5502d916ec08ba823b31b3e5875baf6008a8086ec571968326b807"), looks := true }, kinds := [], alts := [], laidByText := true, laidKinds := [.data, .data], laidTests := true, laidLooks := .later }
def DigestPlaysCardSaid : Prop := Claim7.holds Tryd.pinned (.plain (OpenSpec.ofChange digestPlaysSpec)) digestPlaysCard

/-- THE TIED CARD OF 'trystlaw03.DigestCopies'. -/
def digestCopiesCard : Claim7 := { stood := { row := digestCopiesRow, standIns := [], harness := (true, "1cc17d690c5502d916ec08ba823b31b3e5875baf6008a8086ec571968326b807"), looks := true }, kinds := [], alts := [], laidByText := true, laidKinds := [.data, .data], laidTests := true, laidLooks := .later }
def DigestCopiesCardSaid : Prop := Claim7.holds Tryd.pinned (.plain (OpenSpec.ofChange digestCopiesSpec)) digestCopiesCard

/-- THE TIED CARD OF 'trystlaw04.DeriveWrites'. -/
def deriveWritesCard : Claim7 := { stood := { row := deriveWritesRow, standIns := [], harness := (true, "1cc17d690c5502d916ec08ba823b31b3e5875baf6008a8086ec571968326b807"), looks := true }, kinds := [], alts := [], laidByText := true, laidKinds := [.data, .data], laidTests := true, laidLooks := .later }
def DeriveWritesCardSaid : Prop := Claim7.holds Tryd.pinned (.plain (OpenSpec.ofChange deriveWritesSpec)) deriveWritesCard

/-- THE TIED CARD OF 'trystlaw04.DeriveFrames'. -/
def deriveFramesCard : Claim7 := { stood := { row := deriveFramesRow, standIns := [], harness := (true, "1cc17d690c5502d916ec08ba823b31b3e5875baf6008a8086ec571968326b807"), looks := true }, kinds := [], alts := [], laidByText := true, laidKinds := [.data, .data], laidTests := true, laidLooks := .later }
def DeriveFramesCardSaid : Prop := Claim7.holds Tryd.pinned (.plain (OpenSpec.ofChange deriveFramesSpec)) deriveFramesCard

/-- THE TIED CARD OF 'trystlaw04.DeriveSums'. -/
def deriveSumsCard : Claim7 := { stood := { row := deriveSumsRow, standIns := [], harness := (true, "1cc17d690c5502d916ec08ba823b31b3e5875baf6008a8086ec571968326b807"), looks := true }, kinds := [], alts := [], laidByText := true, laidKinds := [.data, .data], laidTests := true, laidLooks := .later }
def DeriveSumsCardSaid : Prop := Claim7.holds Tryd.pinned (.plain (OpenSpec.ofChange deriveSumsSpec)) deriveSumsCard

/-- THE TIED CARD OF 'trystlaw04.DerivePieces'. -/
def derivePiecesCard : Claim7 := { stood := { row := derivePiecesRow, standIns := [], harness := (true, "1cc17d690c5502d916ec08ba823b31b3e5875baf6008a8086ec571968326b807"), looks := true }, kinds := [], alts := [], laidByText := true, laidKinds := [.data, .data], laidTests := true, laidLooks := .later }
def DerivePiecesCardSaid : Prop := Claim7.holds Tryd.pinned (.plain (OpenSpec.ofChange derivePiecesSpec)) derivePiecesCard

/-- THE TIED CARD OF 'trystlaw04.DeriveExpands'. -/
def deriveExpandsCard : Claim7 := { stood := { row := deriveExpandsRow, standIns := [], harness := (true, "1cc17d690c5502d916ec08ba823b31b3e5875baf6008a8086ec571968326b807"), looks := true }, kinds := [], alts := [], laidByText := true, laidKinds := [.data, .data], laidTests := true, laidLooks := .later }
def DeriveExpandsCardSaid : Prop := Claim7.holds Tryd.pinned (.plain (OpenSpec.ofChange deriveExpandsSpec)) deriveExpandsCard

/-- THE TIED CARD OF 'trystlaw04.DeriveKeys'. -/
def deriveKeysCard : Claim7 := { stood := { row := deriveKeysRow, standIns := [], harness := (true, "1cc17d690c5502d916ec08ba823b31b3e5875baf6008a8086ec571968326b807"), looks := true }, kinds := [], alts := [], laidByText := true, laidKinds := [.data, .data], laidTests := true, laidLooks := .later }
def DeriveKeysCardSaid : Prop := Claim7.holds Tryd.pinned (.plain (OpenSpec.ofChange deriveKeysSpec)) deriveKeysCard

/-- THE TIED CARD OF 'trystlaw04.DeriveBeginnings'. -/
def deriveBeginningsCard : Claim7 := { stood := { row := deriveBeginningsRow, standIns := [], harness := (true, "1cc17d690c5502d916ec08ba823b31b3e5875baf6008a8086ec571968326b807"), looks := true }, kinds := [], alts := [], laidByText := true, laidKinds := [.data, .data], laidTests := true, laidLooks := .later }
def DeriveBeginningsCardSaid : Prop := Claim7.holds Tryd.pinned (.plain (OpenSpec.ofChange deriveBeginningsSpec)) deriveBeginningsCard

/-- THE TIED CARD OF 'trystlaw04.DeriveKnown'. -/
def deriveKnownCard : Claim7 := { stood := { row := deriveKnownRow, standIns := [], harness := (true, "1cc17d690c5502d916ec08ba823b31b3e5875baf6008a8086ec571968326b807"), looks := true }, kinds := [], alts := [], laidByText := true, laidKinds := [.data, .data], laidTests := true, laidLooks := .later }
def DeriveKnownCardSaid : Prop := Claim7.holds Tryd.pinned (.plain (OpenSpec.ofChange deriveKnownSpec)) deriveKnownCard

/-- THE SECOND FORM's CARD OF 'trystlaw03.DigestNames'. -/
def digestNamesUptoCard : Claim7 := { stood := { row := digestNamesUptoRow, standIns := [], harness := (true, "1cc17d690c5502d916ec08ba823b31b3e5875baf6008a8086ec571968326b807"), looks := true }, kinds := [], alts := [], laidByText := true, laidKinds := [.data, .data], laidTests := true, laidLooks := .later }
def DigestNamesUptoCardSaid : Prop := Claim7.holds Tryd.pinned (.plain (OpenSpec.upto digestNamesSpec)) digestNamesUptoCard

/-- THE SECOND FORM's CARD OF 'trystlaw03.DigestSums'. -/
def digestSumsUptoCard : Claim7 := { stood := { row := digestSumsUptoRow, standIns := [], harness := (true, "1cc17d690c5502d916ec08ba823b31b3e5875baf6008a8086ec571968326b807"), looks := true }, kinds := [], alts := [], laidByText := true, laidKinds := [.data, .data], laidTests := true, laidLooks := .later }
def DigestSumsUptoCardSaid : Prop := Claim7.holds Tryd.pinned (.plain (OpenSpec.upto digestSumsSpec)) digestSumsUptoCard

/-- THE SECOND FORM's CARD OF 'trystlaw03.DigestPieces'. -/
def digestPiecesUptoCard : Claim7 := { stood := { row := digestPiecesUptoRow, standIns := [], harness := (true, "1cc17d690c5502d916ec08ba823b31b3e5875baf6008a8086ec571968326b807"), looks := true }, kinds := [], alts := [], laidByText := true, laidKinds := [.data, .data], laidTests := true, laidLooks := .later }
def DigestPiecesUptoCardSaid : Prop := Claim7.holds Tryd.pinned (.plain (OpenSpec.upto digestPiecesSpec)) digestPiecesUptoCard

/-- THE SECOND FORM's CARD OF 'trystlaw03.DigestPlays'. -/
def digestPlaysUptoCard : Claim7 := { stood := { row := digestPlaysUptoRow, standIns := [], harness := (true, "1cc17d690c5502d916ec08ba823b31b3e5875baf6008a8086ec571968326b807"), looks := true }, kinds := [], alts := [], laidByText := true, laidKinds := [.data, .data], laidTests := true, laidLooks := .later }
def DigestPlaysUptoCardSaid : Prop := Claim7.holds Tryd.pinned (.plain (OpenSpec.upto digestPlaysSpec)) digestPlaysUptoCard

/-- THE SECOND FORM's CARD OF 'trystlaw03.DigestCopies'. -/
def digestCopiesUptoCard : Claim7 := { stood := { row := digestCopiesUptoRow, standIns := [], harness := (true, "1cc17d690c5502d916ec08ba823b31b3e5875baf6008a8086ec571968326b807"), looks := true }, kinds := [], alts := [], laidByText := true, laidKinds := [.data, .data], laidTests := true, laidLooks := .later }
def DigestCopiesUptoCardSaid : Prop := Claim7.holds Tryd.pinned (.plain (OpenSpec.upto digestCopiesSpec)) digestCopiesUptoCard

/-- THE SECOND FORM's CARD OF 'trystlaw04.DeriveWrites'. -/
def deriveWritesUptoCard : Claim7 := { stood := { row := deriveWritesUptoRow, standIns := [], harness := (true, "1cc17d690c5502d916ec08ba823b31b3e5875baf6008a8086ec571968326b807"), looks := true }, kinds := [], alts := [], laidByText := true, laidKinds := [.data, .data], laidTests := true, laidLooks := .later }
def DeriveWritesUptoCardSaid : Prop := Claim7.holds Tryd.pinned (.plain (OpenSpec.upto deriveWritesSpec)) deriveWritesUptoCard

/-- THE SECOND FORM's CARD OF 'trystlaw04.DeriveFrames'. -/
def deriveFramesUptoCard : Claim7 := { stood := { row := deriveFramesUptoRow, standIns := [], harness := (true, "1cc17d690c5502d916ec08ba823b31b3e5875baf6008a8086ec571968326b807"), looks := true }, kinds := [], alts := [], laidByText := true, laidKinds := [.data, .data], laidTests := true, laidLooks := .later }
def DeriveFramesUptoCardSaid : Prop := Claim7.holds Tryd.pinned (.plain (OpenSpec.upto deriveFramesSpec)) deriveFramesUptoCard

/-- THE SECOND FORM's CARD OF 'trystlaw04.DeriveSums'. -/
def deriveSumsUptoCard : Claim7 := { stood := { row := deriveSumsUptoRow, standIns := [], harness := (true, "1cc17d690c5502d916ec08ba823b31b3e5875baf6008a8086ec571968326b807"), looks := true }, kinds := [], alts := [], laidByText := true, laidKinds := [.data, .data], laidTests := true, laidLooks := .later }
def DeriveSumsUptoCardSaid : Prop := Claim7.holds Tryd.pinned (.plain (OpenSpec.upto deriveSumsSpec)) deriveSumsUptoCard

/-- THE SECOND FORM's CARD OF 'trystlaw04.DerivePieces'. -/
def derivePiecesUptoCard : Claim7 := { stood := { row := derivePiecesUptoRow, standIns := [], harness := (true, "1cc17d690c5502d916ec08ba823b31b3e5875baf6008a8086ec571968326b807"), looks := true }, kinds := [], alts := [], laidByText := true, laidKinds := [.data, .data], laidTests := true, laidLooks := .later }
def DerivePiecesUptoCardSaid : Prop := Claim7.holds Tryd.pinned (.plain (OpenSpec.upto derivePiecesSpec)) derivePiecesUptoCard

/-- THE SECOND FORM's CARD OF 'trystlaw04.DeriveExpands'. -/
def deriveExpandsUptoCard : Claim7 := { stood := { row := deriveExpandsUptoRow, standIns := [], harness := (true, "1cc17d690c5502d916ec08ba823b31b3e5875baf6008a8086ec571968326b807"), looks := true }, kinds := [], alts := [], laidByText := true, laidKinds := [.data, .data], laidTests := true, laidLooks := .later }
def DeriveExpandsUptoCardSaid : Prop := Claim7.holds Tryd.pinned (.plain (OpenSpec.upto deriveExpandsSpec)) deriveExpandsUptoCard

/-- THE SECOND FORM's CARD OF 'trystlaw04.DeriveKeys'. -/
def deriveKeysUptoCard : Claim7 := { stood := { row := deriveKeysUptoRow, standIns := [], harness := (true, "1cc17d690c5502d916ec08ba823b31b3e5875baf6008a8086ec571968326b807"), looks := true }, kinds := [], alts := [], laidByText := true, laidKinds := [.data, .data], laidTests := true, laidLooks := .later }
def DeriveKeysUptoCardSaid : Prop := Claim7.holds Tryd.pinned (.plain (OpenSpec.upto deriveKeysSpec)) deriveKeysUptoCard

/-- THE SECOND FORM's CARD OF 'trystlaw04.DeriveBeginnings'. -/
def deriveBeginningsUptoCard : Claim7 := { stood := { row := deriveBeginningsUptoRow, standIns := [], harness := (true, "1cc17d690c5502d916ec08ba823b31b3e5875baf6008a8086ec571968326b807"), looks := true }, kinds := [], alts := [], laidByText := true, laidKinds := [.data, .data], laidTests := true, laidLooks := .later }
def DeriveBeginningsUptoCardSaid : Prop := Claim7.holds Tryd.pinned (.plain (OpenSpec.upto deriveBeginningsSpec)) deriveBeginningsUptoCard

/-- THE SECOND FORM's CARD OF 'trystlaw04.DeriveKnown'. -/
def deriveKnownUptoCard : Claim7 := { stood := { row := deriveKnownUptoRow, standIns := [], harness := (true, "1cc17d690c5502d916ec08ba823b31b3e5875baf6008a8086ec571968326b807"), looks := true }, kinds := [], alts := [], laidByText := true, laidKinds := [.data, .data], laidTests := true, laidLooks := .later }
def DeriveKnownUptoCardSaid : Prop := Claim7.holds Tryd.pinned (.plain (OpenSpec.upto deriveKnownSpec)) deriveKnownUptoCard
end Rows
end Go.Proofs.YtkhakddecmgejaaDoor
