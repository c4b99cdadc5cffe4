/-
  NARROWER THAN 'FOR EVERY INPUT', by the rows' own cells (each row's printed sentence says how): DigestNames: laid · DigestSums: laid · DigestPieces: laid · DigestPlays: laid · DigestCopies: laid · DeriveWrites: laid · DeriveFrames: laid · DeriveSums: laid · DerivePieces: laid · DeriveExpands: laid · DeriveKeys: laid · DeriveBeginnings: laid · DeriveKnown: laid.
  DERIVED. THE GIVEN ROWS OF THIS SEAT. 13 by the template 'for every input the law returns true; each argument reads behind the call as it read before'; 0 by the template 'total and deterministic' (their statements: YtkhakddecmgejaaDoorTotals.lean).
  GIVEN WITH THE SEED: the statements are not yours to turn. If you find one false, say at which input.
  Laid BY PROGRAM, IN A SANDBOX (cutbox-rows.mjs): the forced cells as the released guide's own fill.sh prints them over the translation c5edc648ebed9afe… (all of the seat's roots in one cut). By AI agents, Wed Nov 11 2026. No macro, syntax, notation, axiom, sorry.
-/
import Derived.Test.YtkhakddecmgejaaDoorChecked
import GoSem.Claim
import GoSem.ClaimJoined
import GoSem.ClaimMapViews
import Derived.JoinedTies
import Derived.KernelRfl
namespace Go.Proofs.YtkhakddecmgejaaDoor
/- THE CELL 'sum', in the pinned program and in every row, IS THE sha256 OF THE DUMP (.gsa) THAT YtkhakddecmgejaaDoorProg.lean LOADS. Nothing in Lean hashes anything: it is a label: what it is worth is what the hold of that sum in a sandbox is worth. -/
noncomputable def Tryd.pinned : Pinned := { name := "ytkhakddecmgejaadoor", sum := "c5edc648ebed9afe8a1b6d47d2083f3070248aa48ba94738e2be55035cd80fd8", checked := Tryd.checked }
namespace Rows
def none {H : Type} : Left H := { results := [], args := [] }

/- WHAT THE LISTED PACKAGE-LEVEL VARIABLES READ AS WHEN THE CALL BEGINS. Each datum BY PROGRAM (the guide's laid-datum.mjs) off the statement by which the dump's own 'gosem.cut.vars' lays the variable. In a bare row this is a premise. The card (YtkhakddecmgejaaDoorCards.lean) ties it to the program's text. -/
def laid_tryst_digest_first {H : Type} : DataW H := .agg [.lit (.int .u32 1779033703), .lit (.int .u32 3144134277), .lit (.int .u32 1013904242), .lit (.int .u32 2773480762), .lit (.int .u32 1359893119), .lit (.int .u32 2600822924), .lit (.int .u32 528734635), .lit (.int .u32 1541459225)]
def laid_tryst_digest_table {H : Type} : DataW H := .agg [.lit (.int .u32 1116352408), .lit (.int .u32 1899447441), .lit (.int .u32 3049323471), .lit (.int .u32 3921009573), .lit (.int .u32 961987163), .lit (.int .u32 1508970993), .lit (.int .u32 2453635748), .lit (.int .u32 2870763221), .lit (.int .u32 3624381080), .lit (.int .u32 310598401), .lit (.int .u32 607225278), .lit (.int .u32 1426881987), .lit (.int .u32 1925078388), .lit (.int .u32 2162078206), .lit (.int .u32 2614888103), .lit (.int .u32 3248222580), .lit (.int .u32 3835390401), .lit (.int .u32 4022224774), .lit (.int .u32 264347078), .lit (.int .u32 604807628), .lit (.int .u32 770255983), .lit (.int .u32 1249150122), .lit (.int .u32 1555081692), .lit (.int .u32 1996064986), .lit (.int .u32 2554220882), .lit (.int .u32 2821834349), .lit (.int .u32 2952996808), .lit (.int .u32 3210313671), .lit (.int .u32 3336571891), .lit (.int .u32 3584528711), .lit (.int .u32 113926993), .lit (.int .u32 338241895), .lit (.int .u32 666307205), .lit (.int .u32 773529912), .lit (.int .u32 1294757372), .lit (.int .u32 1396182291), .lit (.int .u32 1695183700), .lit (.int .u32 1986661051), .lit (.int .u32 2177026350), .lit (.int .u32 2456956037), .lit (.int .u32 2730485921), .lit (.int .u32 2820302411), .lit (.int .u32 3259730800), .lit (.int .u32 3345764771), .lit (.int .u32 3516065817), .lit (.int .u32 3600352804), .lit (.int .u32 4094571909), .lit (.int .u32 275423344), .lit (.int .u32 430227734), .lit (.int .u32 506948616), .lit (.int .u32 659060556), .lit (.int .u32 883997877), .lit (.int .u32 958139571), .lit (.int .u32 1322822218), .lit (.int .u32 1537002063), .lit (.int .u32 1747873779), .lit (.int .u32 1955562222), .lit (.int .u32 2024104815), .lit (.int .u32 2227730452), .lit (.int .u32 2361852424), .lit (.int .u32 2428436474), .lit (.int .u32 2756734187), .lit (.int .u32 3204031479), .lit (.int .u32 3329325298)]

/-- 'trystlaw03.DigestNames': WHATEVER THE INPUT: true; the input reads as it did. -/
def digestNamesSpec : ChangeSpec := { name := "digestNames", fn := fun _ => fun
  | [] => { results := [.lit (.bool true)], args := [] }
  | _ => none }
def digestNamesRow : OpenClaim := { program := "ytkhakddecmgejaadoor", sum := "c5edc648ebed9afe8a1b6d47d2083f3070248aa48ba94738e2be55035cd80fd8", func := "tryst/trystlaw03.DigestNames", spec := "digestNames", named := ["tryst/digest.first", "tryst/digest.table"], apart := false, laid := [("tryst/digest.first", laid_tryst_digest_first), ("tryst/digest.table", laid_tryst_digest_table)] }
def DigestNamesSaid : Prop := digestNamesRow.holds Tryd.pinned (OpenSpec.ofChange digestNamesSpec)

/-- ITS FALSE NEIGHBOUR: 'it returns false'. Refute it at one input. -/
def digestNamesWrong : ChangeSpec := { name := "digestNames", fn := fun _ => fun
  | [] => { results := [.lit (.bool false)], args := [] }
  | _ => none }
def DigestNamesWrongFalsely : Prop := digestNamesRow.holds Tryd.pinned (OpenSpec.ofChange digestNamesWrong)

/-- 'trystlaw03.DigestSums': WHATEVER THE INPUT: true; the input reads as it did. -/
def digestSumsSpec : ChangeSpec := { name := "digestSums", fn := fun _ => fun
  | [d] => { results := [.lit (.bool true)], args := [d] }
  | _ => none }
def digestSumsRow : OpenClaim := { program := "ytkhakddecmgejaadoor", sum := "c5edc648ebed9afe8a1b6d47d2083f3070248aa48ba94738e2be55035cd80fd8", func := "tryst/trystlaw03.DigestSums", spec := "digestSums", named := ["tryst/digest.first", "tryst/digest.table"], apart := false, laid := [("tryst/digest.first", laid_tryst_digest_first), ("tryst/digest.table", laid_tryst_digest_table)] }
def DigestSumsSaid : Prop := digestSumsRow.holds Tryd.pinned (OpenSpec.ofChange digestSumsSpec)

/-- ITS FALSE NEIGHBOUR: 'it returns false'. Refute it at one input. -/
def digestSumsWrong : ChangeSpec := { name := "digestSums", fn := fun _ => fun
  | [d] => { results := [.lit (.bool false)], args := [d] }
  | _ => none }
def DigestSumsWrongFalsely : Prop := digestSumsRow.holds Tryd.pinned (OpenSpec.ofChange digestSumsWrong)

/-- 'trystlaw03.DigestPieces': WHATEVER THE INPUT: true; the input reads as it did. -/
def digestPiecesSpec : ChangeSpec := { name := "digestPieces", fn := fun _ => fun
  | [d1, d2] => { results := [.lit (.bool true)], args := [d1, d2] }
  | _ => none }
def digestPiecesRow : OpenClaim := { program := "ytkhakddecmgejaadoor", sum := "c5edc648ebed9afe8a1b6d47d2083f3070248aa48ba94738e2be55035cd80fd8", func := "tryst/trystlaw03.DigestPieces", spec := "digestPieces", named := ["tryst/digest.first", "tryst/digest.table"], apart := false, laid := [("tryst/digest.first", laid_tryst_digest_first), ("tryst/digest.table", laid_tryst_digest_table)] }
def DigestPiecesSaid : Prop := digestPiecesRow.holds Tryd.pinned (OpenSpec.ofChange digestPiecesSpec)

/-- ITS FALSE NEIGHBOUR: 'it returns false'. Refute it at one input. -/
def digestPiecesWrong : ChangeSpec := { name := "digestPieces", fn := fun _ => fun
  | [d1, d2] => { results := [.lit (.bool false)], args := [d1, d2] }
  | _ => none }
def DigestPiecesWrongFalsely : Prop := digestPiecesRow.holds Tryd.pinned (OpenSpec.ofChange digestPiecesWrong)

/-- 'trystlaw03.DigestPlays': WHATEVER THE INPUT: true; the input reads as it did. -/
def digestPlaysSpec : ChangeSpec := { name := "digestPlays", fn := fun _ => fun
  | [d] => { results := [.lit (.bool true)], args := [d] }
  | _ => none }
def digestPlaysRow : OpenClaim := { program := "ytkhakddecmgejaadoor", sum := "c5edc648ebed9afe8a1b6d47d2083f3070248aa48ba94738e2be55035cd80fd8", func := "tryst/trystlaw03.DigestPlays", spec := "digestPlays", named := ["tryst/digest.first", "tryst/digest.table"], apart := false, laid := [("tryst/digest.first", laid_tryst_digest_first), ("tryst/digest.table", laid_tryst_digest_table)] }
def DigestPlaysSaid : Prop := digestPlaysRow.holds Tryd.pinned (OpenSpec.ofChange digestPlaysSpec)

/-- ITS FALSE NEIGHBOUR: 'it returns false'. Refute it at one input. -/
def digestPlaysWrong : ChangeSpec := { name := "digestPlays", fn := fun _ => fun
  | [d] => { results := [.lit (.bool false)], args := [d] }
  | _ => none }
def DigestPlaysWrongFalsely : Prop := digestPlaysRow.holds Tryd.pinned (OpenSpec.ofChange digestPlaysWrong)

/-- 'trystlaw03.DigestCopies': WHATEVER THE INPUT: true; the input reads as it did. -/
def digestCopiesSpec : ChangeSpec := { name := "digestCopies", fn := fun _ => fun
  | [d1, d2, d3] => { results := [.lit (.bool true)], args := [d1, d2, d3] }
  | _ => none }
def digestCopiesRow : OpenClaim := { program := "ytkhakddecmgejaadoor", sum := "c5edc648ebed9afe8a1b6d47d2083f3070248aa48ba94738e2be55035cd80fd8", func := "tryst/trystlaw03.DigestCopies", spec := "digestCopies", named := ["tryst/digest.first", "tryst/digest.table"], apart := false, laid := [("tryst/digest.first", laid_tryst_digest_first), ("tryst/digest.table", laid_tryst_digest_table)] }
def DigestCopiesSaid : Prop := digestCopiesRow.holds Tryd.pinned (OpenSpec.ofChange digestCopiesSpec)

/-- ITS FALSE NEIGHBOUR: 'it returns false'. Refute it at one input. -/
def digestCopiesWrong : ChangeSpec := { name := "digestCopies", fn := fun _ => fun
  | [d1, d2, d3] => { results := [.lit (.bool false)], args := [d1, d2, d3] }
  | _ => none }
def DigestCopiesWrongFalsely : Prop := digestCopiesRow.holds Tryd.pinned (OpenSpec.ofChange digestCopiesWrong)

/-- 'trystlaw04.DeriveWrites': WHATEVER THE INPUT: true; the input reads as it did. -/
def deriveWritesSpec : ChangeSpec := { name := "deriveWrites", fn := fun _ => fun
  | [d1, d2, d3] => { results := [.lit (.bool true)], args := [d1, d2, d3] }
  | _ => none }
def deriveWritesRow : OpenClaim := { program := "ytkhakddecmgejaadoor", sum := "c5edc648ebed9afe8a1b6d47d2083f3070248aa48ba94738e2be55035cd80fd8", func := "tryst/trystlaw04.DeriveWrites", spec := "deriveWrites", named := ["tryst/digest.first", "tryst/digest.table"], apart := false, laid := [("tryst/digest.first", laid_tryst_digest_first), ("tryst/digest.table", laid_tryst_digest_table)] }
def DeriveWritesSaid : Prop := deriveWritesRow.holds Tryd.pinned (OpenSpec.ofChange deriveWritesSpec)

/-- ITS FALSE NEIGHBOUR: 'it returns false'. Refute it at one input. -/
def deriveWritesWrong : ChangeSpec := { name := "deriveWrites", fn := fun _ => fun
  | [d1, d2, d3] => { results := [.lit (.bool false)], args := [d1, d2, d3] }
  | _ => none }
def DeriveWritesWrongFalsely : Prop := deriveWritesRow.holds Tryd.pinned (OpenSpec.ofChange deriveWritesWrong)

/-- 'trystlaw04.DeriveFrames': WHATEVER THE INPUT: true; the input reads as it did. -/
def deriveFramesSpec : ChangeSpec := { name := "deriveFrames", fn := fun _ => fun
  | [d1, d2, d3] => { results := [.lit (.bool true)], args := [d1, d2, d3] }
  | _ => none }
def deriveFramesRow : OpenClaim := { program := "ytkhakddecmgejaadoor", sum := "c5edc648ebed9afe8a1b6d47d2083f3070248aa48ba94738e2be55035cd80fd8", func := "tryst/trystlaw04.DeriveFrames", spec := "deriveFrames", named := ["tryst/digest.first", "tryst/digest.table"], apart := false, laid := [("tryst/digest.first", laid_tryst_digest_first), ("tryst/digest.table", laid_tryst_digest_table)] }
def DeriveFramesSaid : Prop := deriveFramesRow.holds Tryd.pinned (OpenSpec.ofChange deriveFramesSpec)

/-- ITS FALSE NEIGHBOUR: 'it returns false'. Refute it at one input. -/
def deriveFramesWrong : ChangeSpec := { name := "deriveFrames", fn := fun _ => fun
  | [d1, d2, d3] => { results := [.lit (.bool false)], args := [d1, d2, d3] }
  | _ => none }
def DeriveFramesWrongFalsely : Prop := deriveFramesRow.holds Tryd.pinned (OpenSpec.ofChange deriveFramesWrong)

/-- 'trystlaw04.DeriveSums': WHATEVER THE INPUT: true; the input reads as it did. -/
def deriveSumsSpec : ChangeSpec := { name := "deriveSums", fn := fun _ => fun
  | [d1, d2] => { results := [.lit (.bool true)], args := [d1, d2] }
  | _ => none }
def deriveSumsRow : OpenClaim := { program := "ytkhakddecmgejaadoor", sum := "c5edc648ebed9afe8a1b6d47d2083f3070248aa48ba94738e2be55035cd80fd8", func := "tryst/trystlaw04.DeriveSums", spec := "deriveSums", named := ["tryst/digest.first", "tryst/digest.table"], apart := false, laid := [("tryst/digest.first", laid_tryst_digest_first), ("tryst/digest.table", laid_tryst_digest_table)] }
def DeriveSumsSaid : Prop := deriveSumsRow.holds Tryd.pinned (OpenSpec.ofChange deriveSumsSpec)

/-- ITS FALSE NEIGHBOUR: 'it returns false'. Refute it at one input. -/
def deriveSumsWrong : ChangeSpec := { name := "deriveSums", fn := fun _ => fun
  | [d1, d2] => { results := [.lit (.bool false)], args := [d1, d2] }
  | _ => none }
def DeriveSumsWrongFalsely : Prop := deriveSumsRow.holds Tryd.pinned (OpenSpec.ofChange deriveSumsWrong)

/-- 'trystlaw04.DerivePieces': WHATEVER THE INPUT: true; the input reads as it did. -/
def derivePiecesSpec : ChangeSpec := { name := "derivePieces", fn := fun _ => fun
  | [d1, d2, d3] => { results := [.lit (.bool true)], args := [d1, d2, d3] }
  | _ => none }
def derivePiecesRow : OpenClaim := { program := "ytkhakddecmgejaadoor", sum := "c5edc648ebed9afe8a1b6d47d2083f3070248aa48ba94738e2be55035cd80fd8", func := "tryst/trystlaw04.DerivePieces", spec := "derivePieces", named := ["tryst/digest.first", "tryst/digest.table"], apart := false, laid := [("tryst/digest.first", laid_tryst_digest_first), ("tryst/digest.table", laid_tryst_digest_table)] }
def DerivePiecesSaid : Prop := derivePiecesRow.holds Tryd.pinned (OpenSpec.ofChange derivePiecesSpec)

/-- ITS FALSE NEIGHBOUR: 'it returns false'. Refute it at one input. -/
def derivePiecesWrong : ChangeSpec := { name := "derivePieces", fn := fun _ => fun
  | [d1, d2, d3] => { results := [.lit (.bool false)], args := [d1, d2, d3] }
  | _ => none }
def DerivePiecesWrongFalsely : Prop := derivePiecesRow.holds Tryd.pinned (OpenSpec.ofChange derivePiecesWrong)

/-- 'trystlaw04.DeriveExpands': WHATEVER THE INPUT: true; the input reads as it did. -/
def deriveExpandsSpec : ChangeSpec := { name := "deriveExpands", fn := fun _ => fun
  | [d] => { results := [.lit (.bool true)], args := [d] }
  | _ => none }
def deriveExpandsRow : OpenClaim := { program := "ytkhakddecmgejaadoor", sum := "c5edc648ebed9afe8a1b6d47d2083f3070248aa48ba94738e2be55035cd80fd8", func := "tryst/trystlaw04.DeriveExpands", spec := "deriveExpands", named := ["tryst/digest.first", "tryst/digest.table"], apart := false, laid := [("tryst/digest.first", laid_tryst_digest_first), ("tryst/digest.table", laid_tryst_digest_table)] }
def DeriveExpandsSaid : Prop := deriveExpandsRow.holds Tryd.pinned (OpenSpec.ofChange deriveExpandsSpec)

/-- ITS FALSE NEIGHBOUR: 'it returns false'. Refute it at one input. -/
def deriveExpandsWrong : ChangeSpec := { name := "deriveExpands", fn := fun _ => fun
  | [d] => { results := [.lit (.bool false)], args := [d] }
  | _ => none }
def DeriveExpandsWrongFalsely : Prop := deriveExpandsRow.holds Tryd.pinned (OpenSpec.ofChange deriveExpandsWrong)

/-- 'trystlaw04.DeriveKeys': WHATEVER THE INPUT: true; the input reads as it did. -/
def deriveKeysSpec : ChangeSpec := { name := "deriveKeys", fn := fun _ => fun
  | [d] => { results := [.lit (.bool true)], args := [d] }
  | _ => none }
def deriveKeysRow : OpenClaim := { program := "ytkhakddecmgejaadoor", sum := "c5edc648ebed9afe8a1b6d47d2083f3070248aa48ba94738e2be55035cd80fd8", func := "tryst/trystlaw04.DeriveKeys", spec := "deriveKeys", named := ["tryst/digest.first", "tryst/digest.table"], apart := false, laid := [("tryst/digest.first", laid_tryst_digest_first), ("tryst/digest.table", laid_tryst_digest_table)] }
def DeriveKeysSaid : Prop := deriveKeysRow.holds Tryd.pinned (OpenSpec.ofChange deriveKeysSpec)

/-- ITS FALSE NEIGHBOUR: 'it returns false'. Refute it at one input. -/
def deriveKeysWrong : ChangeSpec := { name := "deriveKeys", fn := fun _ => fun
  | [d] => { results := [.lit (.bool false)], args := [d] }
  | _ => none }
def DeriveKeysWrongFalsely : Prop := deriveKeysRow.holds Tryd.pinned (OpenSpec.ofChange deriveKeysWrong)

/-- 'trystlaw04.DeriveBeginnings': WHATEVER THE INPUT: true; the input reads as it did. -/
def deriveBeginningsSpec : ChangeSpec := { name := "deriveBeginnings", fn := fun _ => fun
  | [d1, d2] => { results := [.lit (.bool true)], args := [d1, d2] }
  | _ => none }
def deriveBeginningsRow : OpenClaim := { program := "ytkhakddecmgejaadoor", sum := "c5edc648ebed9afe8a1b6d47d2083f3070248aa48ba94738e2be55035cd80fd8", func := "tryst/trystlaw04.DeriveBeginnings", spec := "deriveBeginnings", named := ["tryst/digest.first", "tryst/digest.table"], apart := false, laid := [("tryst/digest.first", laid_tryst_digest_first), ("tryst/digest.table", laid_tryst_digest_table)] }
def DeriveBeginningsSaid : Prop := deriveBeginningsRow.holds Tryd.pinned (OpenSpec.ofChange deriveBeginningsSpec)

/-- ITS FALSE NEIGHBOUR: 'it returns false'. Refute it at one input. -/
def deriveBeginningsWrong : ChangeSpec := { name := "deriveBeginnings", fn := fun _ => fun
  | [d1, d2] => { results := [.lit (.bool false)], args := [d1, d2] }
  | _ => none }
def DeriveBeginningsWrongFalsely : Prop := deriveBeginningsRow.holds Tryd.pinned (OpenSpec.ofChange deriveBeginningsWrong)

/-- 'trystlaw04.DeriveKnown': WHATEVER THE INPUT: true; the input reads as it did. -/
def deriveKnownSpec : ChangeSpec := { name := "deriveKnown", fn := fun _ => fun
  | [] => { results := [.lit (.bool true)], args := [] }
  | _ => none }
def deriveKnownRow : OpenClaim := { program := "ytkhakddecmgejaadoor", sum := "c5edc648ebed9afe8a1b6d47d2083f3070248aa48ba94738e2be55035cd80fd8", func := "tryst/trystlaw04.DeriveKnown", spec := "deriveKnown", named := ["tryst/digest.first", "tryst/digest.table"], apart := false, laid := [("tryst/digest.first", laid_tryst_digest_first), ("tryst/digest.table", laid_tryst_digest_table)] }
def DeriveKnownSaid : Prop := deriveKnownRow.holds Tryd.pinned (OpenSpec.ofChange deriveKnownSpec)

/-- ITS FALSE NEIGHBOUR: 'it returns false'. Refute it at one input. -/
def deriveKnownWrong : ChangeSpec := { name := "deriveKnown", fn := fun _ => fun
  | [] => { results := [.lit (.bool false)], args := [] }
  | _ => none }
def DeriveKnownWrongFalsely : Prop := deriveKnownRow.holds Tryd.pinned (OpenSpec.ofChange deriveKnownWrong)

/- THE SECOND FORM. 'bulk': how many values and letters a reading holds, each counted each time it is reached (what is shared counts as often as it is met; a slice's spare places count too). A statement '..UptoSaid' is the law's where the arguments, and the package variables that the reading takes, are together of bulk at most 1048576: NARROWER than '..Said'. Prove '..Said' where nothing that the law and all that it calls make is longer than what came in: it says more and counts as full. Else prove '..UptoSaid'. A law counts once. -/
mutual
def uptoBulk {H : Type} : DataW H → Nat
  | .lit (.string bytes) => bytes.length + 1
  | .lit _ => 1
  | .nil => 1
  | .ptr d => uptoBulk d + 1
  | .slice elems spare => uptoBulkAll elems + uptoBulkAll spare + 1
  | .agg parts => uptoBulkAll parts + 1
  | .iface _ d => uptoBulk d + 1
  | .map entries => uptoBulkEntries entries + 1
  | .held _ => 1
def uptoBulkAll {H : Type} : List (DataW H) → Nat
  | [] => 0
  | d :: r => uptoBulk d + uptoBulkAll r
def uptoBulkEntries {H : Type} : List (Lit × DataW H) → Nat
  | [] => 0
  | x :: r => uptoBulkEntry x + uptoBulkEntries r
def uptoBulkEntry {H : Type} : Lit × DataW H → Nat
  | (.string bytes, d) => bytes.length + uptoBulk d + 1
  | (_, d) => uptoBulk d + 1
 end
def uptoSmall : (H : Type) → List (DataW H) → Bool := fun _ ds => decide (uptoBulkAll ds ≤ 1048576)
def OpenSpec.upto (s : _root_.Go.ChangeSpec) : _root_.Go.OpenSpec := { _root_.Go.OpenSpec.ofChange s with cond := some uptoSmall }

/-- 'trystlaw03.DigestNames', WHERE WHAT IT READS IS OF BULK AT MOST 1048576: true; the input reads as it did. -/
def digestNamesUptoRow : OpenClaim := { program := "ytkhakddecmgejaadoor", sum := "c5edc648ebed9afe8a1b6d47d2083f3070248aa48ba94738e2be55035cd80fd8", func := "tryst/trystlaw03.DigestNames", spec := "digestNames", named := ["tryst/digest.first", "tryst/digest.table"], apart := false, laid := [("tryst/digest.first", laid_tryst_digest_first), ("tryst/digest.table", laid_tryst_digest_table)], narrowed := true }
def DigestNamesUptoSaid : Prop := digestNamesUptoRow.holds Tryd.pinned (OpenSpec.upto digestNamesSpec)

/-- 'trystlaw03.DigestSums', WHERE WHAT IT READS IS OF BULK AT MOST 1048576: true; the input reads as it did. -/
def digestSumsUptoRow : OpenClaim := { program := "ytkhakddecmgejaadoor", sum := "c5edc648ebed9afe8a1b6d47d2083f3070248aa48ba94738e2be55035cd80fd8", func := "tryst/trystlaw03.DigestSums", spec := "digestSums", named := ["tryst/digest.first", "tryst/digest.table"], apart := false, laid := [("tryst/digest.first", laid_tryst_digest_first), ("tryst/digest.table", laid_tryst_digest_table)], narrowed := true }
def DigestSumsUptoSaid : Prop := digestSumsUptoRow.holds Tryd.pinned (OpenSpec.upto digestSumsSpec)

/-- 'trystlaw03.DigestPieces', WHERE WHAT IT READS IS OF BULK AT MOST 1048576: true; the input reads as it did. -/
def digestPiecesUptoRow : OpenClaim := { program := "ytkhakddecmgejaadoor", sum := "c5edc648ebed9afe8a1b6d47d2083f3070248aa48ba94738e2be55035cd80fd8", func := "tryst/trystlaw03.DigestPieces", spec := "digestPieces", named := ["tryst/digest.first", "tryst/digest.table"], apart := false, laid := [("tryst/digest.first", laid_tryst_digest_first), ("tryst/digest.table", laid_tryst_digest_table)], narrowed := true }
def DigestPiecesUptoSaid : Prop := digestPiecesUptoRow.holds Tryd.pinned (OpenSpec.upto digestPiecesSpec)

/-- 'trystlaw03.DigestPlays', WHERE WHAT IT READS IS OF BULK AT MOST 1048576: true; the input reads as it did. -/
def digestPlaysUptoRow : OpenClaim := { program := "ytkhakddecmgejaadoor", sum := "c5edc648ebed9afe8a1b6d47d2083f3070248aa48ba94738e2be55035cd80fd8", func := "tryst/trystlaw03.DigestPlays", spec := "digestPlays", named := ["tryst/digest.first", "tryst/digest.table"], apart := false, laid := [("tryst/digest.first", laid_tryst_digest_first), ("tryst/digest.table", laid_tryst_digest_table)], narrowed := true }
def DigestPlaysUptoSaid : Prop := digestPlaysUptoRow.holds Tryd.pinned (OpenSpec.upto digestPlaysSpec)

/-- 'trystlaw03.DigestCopies', WHERE WHAT IT READS IS OF BULK AT MOST 1048576: true; the input reads as it did. -/
def digestCopiesUptoRow : OpenClaim := { program := "ytkhakddecmgejaadoor", sum := "c5edc648ebed9afe8a1b6d47d2083f3070248aa48ba94738e2be55035cd80fd8", func := "tryst/trystlaw03.DigestCopies", spec := "digestCopies", named := ["tryst/digest.first", "tryst/digest.table"], apart := false, laid := [("tryst/digest.first", laid_tryst_digest_first), ("tryst/digest.table", laid_tryst_digest_table)], narrowed := true }
def DigestCopiesUptoSaid : Prop := digestCopiesUptoRow.holds Tryd.pinned (OpenSpec.upto digestCopiesSpec)

/-- 'trystlaw04.DeriveWrites', WHERE WHAT IT READS IS OF BULK AT MOST 1048576: true; the input reads as it did. -/
def deriveWritesUptoRow : OpenClaim := { program := "ytkhakddecmgejaadoor", sum := "c5edc648ebed9afe8a1b6d47d2083f3070248aa48ba94738e2be55035cd80fd8", func := "tryst/trystlaw04.DeriveWrites", spec := "deriveWrites", named := ["tryst/digest.first", "tryst/digest.table"], apart := false, laid := [("tryst/digest.first", laid_tryst_digest_first), ("tryst/digest.table", laid_tryst_digest_table)], narrowed := true }
def DeriveWritesUptoSaid : Prop := deriveWritesUptoRow.holds Tryd.pinned (OpenSpec.upto deriveWritesSpec)

/-- 'trystlaw04.DeriveFrames', WHERE WHAT IT READS IS OF BULK AT MOST 1048576: true; the input reads as it did. -/
def deriveFramesUptoRow : OpenClaim := { program := "ytkhakddecmgejaadoor", sum := "c5edc648ebed9afe8a1b6d47d2083f3070248aa48ba94738e2be55035cd80fd8", func := "tryst/trystlaw04.DeriveFrames", spec := "deriveFrames", named := ["tryst/digest.first", "tryst/digest.table"], apart := false, laid := [("tryst/digest.first", laid_tryst_digest_first), ("tryst/digest.table", laid_tryst_digest_table)], narrowed := true }
def DeriveFramesUptoSaid : Prop := deriveFramesUptoRow.holds Tryd.pinned (OpenSpec.upto deriveFramesSpec)

/-- 'trystlaw04.DeriveSums', WHERE WHAT IT READS IS OF BULK AT MOST 1048576: true; the input reads as it did. -/
def deriveSumsUptoRow : OpenClaim := { program := "ytkhakddecmgejaadoor", sum := "c5edc648ebed9afe8a1b6d47d2083f3070248aa48ba94738e2be55035cd80fd8", func := "tryst/trystlaw04.DeriveSums", spec := "deriveSums", named := ["tryst/digest.first", "tryst/digest.table"], apart := false, laid := [("tryst/digest.first", laid_tryst_digest_first), ("tryst/digest.table", laid_tryst_digest_table)], narrowed := true }
def DeriveSumsUptoSaid : Prop := deriveSumsUptoRow.holds Tryd.pinned (OpenSpec.upto deriveSumsSpec)

/-- 'trystlaw04.DerivePieces', WHERE WHAT IT READS IS OF BULK AT MOST 1048576: true; the input reads as it did. -/
def derivePiecesUptoRow : OpenClaim := { program := "ytkhakddecmgejaadoor", sum := "c5edc648ebed9afe8a1b6d47d2083f3070248aa48ba94738e2be55035cd80fd8", func := "tryst/trystlaw04.DerivePieces", spec := "derivePieces", named := ["tryst/digest.first", "tryst/digest.table"], apart := false, laid := [("tryst/digest.first", laid_tryst_digest_first), ("tryst/digest.table", laid_tryst_digest_table)], narrowed := true }
def DerivePiecesUptoSaid : Prop := derivePiecesUptoRow.holds Tryd.pinned (OpenSpec.upto derivePiecesSpec)

/-- 'trystlaw04.DeriveExpands', WHERE WHAT IT READS IS OF BULK AT MOST 1048576: true; the input reads as it did. -/
def deriveExpandsUptoRow : OpenClaim := { program := "ytkhakddecmgejaadoor", sum := "c5edc648ebed9afe8a1b6d47d2083f3070248aa48ba94738e2be55035cd80fd8", func := "tryst/trystlaw04.DeriveExpands", spec := "deriveExpands", named := ["tryst/digest.first", "tryst/digest.table"], apart := false, laid := [("tryst/digest.first", laid_tryst_digest_first), ("tryst/digest.table", laid_tryst_digest_table)], narrowed := true }
def DeriveExpandsUptoSaid : Prop := deriveExpandsUptoRow.holds Tryd.pinned (OpenSpec.upto deriveExpandsSpec)

/-- 'trystlaw04.DeriveKeys', WHERE WHAT IT READS IS OF BULK AT MOST 1048576: true; the input reads as it did. -/
def deriveKeysUptoRow : OpenClaim := { program := "ytkhakddecmgejaadoor", sum := "c5edc648ebed9afe8a1b6d47d2083f3070248aa48ba94738e2be55035cd80fd8", func := "tryst/trystlaw04.DeriveKeys", spec := "deriveKeys", named := ["tryst/digest.first", "tryst/digest.table"], apart := false, laid := [("tryst/digest.first", laid_tryst_digest_first), ("tryst/digest.table", laid_tryst_digest_table)], narrowed := true }
def DeriveKeysUptoSaid : Prop := deriveKeysUptoRow.holds Tryd.pinned (OpenSpec.upto deriveKeysSpec)

/-- 'trystlaw04.DeriveBeginnings', WHERE WHAT IT READS IS OF BULK AT MOST 1048576: true; the input reads as it did. -/
def deriveBeginningsUptoRow : OpenClaim := { program := "ytkhakddecmgejaadoor", sum := "c5edc648ebed9afe8a1b6d47d2083f3070248aa48ba94738e2be55035cd80fd8", func := "tryst/trystlaw04.DeriveBeginnings", spec := "deriveBeginnings", named := ["tryst/digest.first", "tryst/digest.table"], apart := false, laid := [("tryst/digest.first", laid_tryst_digest_first), ("tryst/digest.table", laid_tryst_digest_table)], narrowed := true }
def DeriveBeginningsUptoSaid : Prop := deriveBeginningsUptoRow.holds Tryd.pinned (OpenSpec.upto deriveBeginningsSpec)

/-- 'trystlaw04.DeriveKnown', WHERE WHAT IT READS IS OF BULK AT MOST 1048576: true; the input reads as it did. -/
def deriveKnownUptoRow : OpenClaim := { program := "ytkhakddecmgejaadoor", sum := "c5edc648ebed9afe8a1b6d47d2083f3070248aa48ba94738e2be55035cd80fd8", func := "tryst/trystlaw04.DeriveKnown", spec := "deriveKnown", named := ["tryst/digest.first", "tryst/digest.table"], apart := false, laid := [("tryst/digest.first", laid_tryst_digest_first), ("tryst/digest.table", laid_tryst_digest_table)], narrowed := true }
def DeriveKnownUptoSaid : Prop := deriveKnownUptoRow.holds Tryd.pinned (OpenSpec.upto deriveKnownSpec)

end Rows
end Go.Proofs.YtkhakddecmgejaaDoor
