/-
  No cell of these rows narrows 'for every input' (looked for: loops, veiled, ifaces, maps, wideKeys, modest, calm, conditions, laid).
  DERIVED. THE GIVEN ROWS OF THIS SEAT. 5 by the template 'for every input the law returns true; each argument reads behind the call as it read before'; 0 by the template 'total and deterministic' (their statements: YtjnoddbhfcpniaaTotals.lean).
  GIVEN WITH THE SEED: the statements are not yours to turn. If you find one false, say at which input.
  Laid BY PROGRAM, IN A SANDBOX (cutbox-rows.mjs): the forced cells as the released guide's own fill.sh prints them over the translation 01f8040ec594e413… (all of the seat's roots in one cut). By AI agents, Wed Nov 11 2026. No macro, syntax, notation, axiom, sorry.
-/
import Derived.Test.YtjnoddbhfcpniaaChecked
import GoSem.Claim
import GoSem.ClaimJoined
import GoSem.ClaimMapViews
import Derived.JoinedTies
import Derived.KernelRfl
namespace Go.Proofs.Ytjnoddbhfcpniaa
/- THE CELL 'sum', in the pinned program and in every row, IS THE sha256 OF THE DUMP (.gsa) THAT YtjnoddbhfcpniaaProg.lean LOADS. Nothing in Lean hashes anything: it is a label: what it is worth is what the hold of that sum in a sandbox is worth. -/
noncomputable def Try.pinned : Pinned := { name := "ytjnoddbhfcpniaa", sum := "01f8040ec594e41301f26c51e1ce612e1b2517b26ab194e40cbe495eddc6ed7c", checked := Try.checked }
namespace Rows
def none {H : Type} : Left H := { results := [], args := [] }

/-- 'trystlaw29.EntryOnce': WHATEVER THE INPUT: true; the input reads as it did. -/
def entryOnceSpec : ChangeSpec := { name := "entryOnce", fn := fun _ => fun
  | [d] => { results := [.lit (.bool true)], args := [d] }
  | _ => none }
def entryOnceRow : OpenClaim := { program := "ytjnoddbhfcpniaa", sum := "01f8040ec594e41301f26c51e1ce612e1b2517b26ab194e40cbe495eddc6ed7c", func := "tryst/trystlaw29.EntryOnce", spec := "entryOnce", unfollowed := true, recurses := true, apart := false }
def EntryOnceSaid : Prop := entryOnceRow.holds Try.pinned (OpenSpec.ofChange entryOnceSpec)

/-- ITS FALSE NEIGHBOUR: 'it returns false'. Refute it at one input. -/
def entryOnceWrong : ChangeSpec := { name := "entryOnce", fn := fun _ => fun
  | [d] => { results := [.lit (.bool false)], args := [d] }
  | _ => none }
def EntryOnceWrongFalsely : Prop := entryOnceRow.holds Try.pinned (OpenSpec.ofChange entryOnceWrong)

/-- 'trystlaw29.EntryFresh': WHATEVER THE INPUT: true; the input reads as it did. -/
def entryFreshSpec : ChangeSpec := { name := "entryFresh", fn := fun _ => fun
  | [d1, d2] => { results := [.lit (.bool true)], args := [d1, d2] }
  | _ => none }
def entryFreshRow : OpenClaim := { program := "ytjnoddbhfcpniaa", sum := "01f8040ec594e41301f26c51e1ce612e1b2517b26ab194e40cbe495eddc6ed7c", func := "tryst/trystlaw29.EntryFresh", spec := "entryFresh", unfollowed := true, recurses := true, apart := false }
def EntryFreshSaid : Prop := entryFreshRow.holds Try.pinned (OpenSpec.ofChange entryFreshSpec)

/-- ITS FALSE NEIGHBOUR: 'it returns false'. Refute it at one input. -/
def entryFreshWrong : ChangeSpec := { name := "entryFresh", fn := fun _ => fun
  | [d1, d2] => { results := [.lit (.bool false)], args := [d1, d2] }
  | _ => none }
def EntryFreshWrongFalsely : Prop := entryFreshRow.holds Try.pinned (OpenSpec.ofChange entryFreshWrong)

/-- 'trystlaw29.EntryPlays': WHATEVER THE INPUT: true; the input reads as it did. -/
def entryPlaysSpec : ChangeSpec := { name := "entryPlays", fn := fun _ => fun
  | [d1, d2] => { results := [.lit (.bool true)], args := [d1, d2] }
  | _ => none }
def entryPlaysRow : OpenClaim := { program := "ytjnoddbhfcpniaa", sum := "01f8040ec594e41301f26c51e1ce612e1b2517b26ab194e40cbe495eddc6ed7c", func := "tryst/trystlaw29.EntryPlays", spec := "entryPlays", unfollowed := true, recurses := true, apart := false }
def EntryPlaysSaid : Prop := entryPlaysRow.holds Try.pinned (OpenSpec.ofChange entryPlaysSpec)

/-- ITS FALSE NEIGHBOUR: 'it returns false'. Refute it at one input. -/
def entryPlaysWrong : ChangeSpec := { name := "entryPlays", fn := fun _ => fun
  | [d1, d2] => { results := [.lit (.bool false)], args := [d1, d2] }
  | _ => none }
def EntryPlaysWrongFalsely : Prop := entryPlaysRow.holds Try.pinned (OpenSpec.ofChange entryPlaysWrong)

/-- 'trystlaw29.EntryLate': WHATEVER THE INPUT: true; the input reads as it did. -/
def entryLateSpec : ChangeSpec := { name := "entryLate", fn := fun _ => fun
  | [d1, d2, d3] => { results := [.lit (.bool true)], args := [d1, d2, d3] }
  | _ => none }
def entryLateRow : OpenClaim := { program := "ytjnoddbhfcpniaa", sum := "01f8040ec594e41301f26c51e1ce612e1b2517b26ab194e40cbe495eddc6ed7c", func := "tryst/trystlaw29.EntryLate", spec := "entryLate", unfollowed := true, recurses := true, apart := false }
def EntryLateSaid : Prop := entryLateRow.holds Try.pinned (OpenSpec.ofChange entryLateSpec)

/-- ITS FALSE NEIGHBOUR: 'it returns false'. Refute it at one input. -/
def entryLateWrong : ChangeSpec := { name := "entryLate", fn := fun _ => fun
  | [d1, d2, d3] => { results := [.lit (.bool false)], args := [d1, d2, d3] }
  | _ => none }
def EntryLateWrongFalsely : Prop := entryLateRow.holds Try.pinned (OpenSpec.ofChange entryLateWrong)

/-- 'trystlaw29.EntryNames': WHATEVER THE INPUT: true; the input reads as it did. -/
def entryNamesSpec : ChangeSpec := { name := "entryNames", fn := fun _ => fun
  | [] => { results := [.lit (.bool true)], args := [] }
  | _ => none }
def entryNamesRow : OpenClaim := { program := "ytjnoddbhfcpniaa", sum := "01f8040ec594e41301f26c51e1ce612e1b2517b26ab194e40cbe495eddc6ed7c", func := "tryst/trystlaw29.EntryNames", spec := "entryNames", unfollowed := true, recurses := true, apart := false }
def EntryNamesSaid : Prop := entryNamesRow.holds Try.pinned (OpenSpec.ofChange entryNamesSpec)

/-- ITS FALSE NEIGHBOUR: 'it returns false'. Refute it at one input. -/
def entryNamesWrong : ChangeSpec := { name := "entryNames", fn := fun _ => fun
  | [] => { results := [.lit (.bool false)], args := [] }
  | _ => none }
def EntryNamesWrongFalsely : Prop := entryNamesRow.holds Try.pinned (OpenSpec.ofChange entryNamesWrong)

/- THE SECOND FORM. 'bulk': how many values and letters a reading holds, each counted each time it is reached (what is shared counts as often as it is met; a slice's spare places count too). A statement '..UptoSaid' is the law's where the arguments, and the package variables that the reading takes, are together of bulk at most 1048576: NARROWER than '..Said'. Prove '..Said' where nothing that the law and all that it calls make is longer than what came in: it says more and counts as full. Else prove '..UptoSaid'. A law counts once. -/
mutual
def uptoBulk {H : Type} : DataW H → Nat
  | .lit (.string bytes) => bytes.length + 1
  | .lit _ => 1
  | .nil => 1
  | .ptr d => uptoBulk d + 1
  | .slice elems spare => uptoBulkAll elems + uptoBulkAll spare + 1
  | .agg parts => uptoBulkAll parts + 1
  | .iface _ d => uptoBulk d + 1
  | .map entries => uptoBulkEntries entries + 1
  | .held _ => 1
def uptoBulkAll {H : Type} : List (DataW H) → Nat
  | [] => 0
  | d :: r => uptoBulk d + uptoBulkAll r
def uptoBulkEntries {H : Type} : List (Lit × DataW H) → Nat
  | [] => 0
  | x :: r => uptoBulkEntry x + uptoBulkEntries r
def uptoBulkEntry {H : Type} : Lit × DataW H → Nat
  | (.string bytes, d) => bytes.length + uptoBulk d + 1
  | (_, d) => uptoBulk d + 1
 end
def uptoSmall : (H : Type) → List (DataW H) → Bool := fun _ ds => decide (uptoBulkAll ds ≤ 1048576)
def OpenSpec.upto (s : _root_.Go.ChangeSpec) : _root_.Go.OpenSpec := { _root_.Go.OpenSpec.ofChange s with cond := some uptoSmall }

/-- 'trystlaw29.EntryOnce', WHERE WHAT IT READS IS OF BULK AT MOST 1048576: true; the input reads as it did. -/
def entryOnceUptoRow : OpenClaim := { program := "ytjnoddbhfcpniaa", sum := "01f8040ec594e41301f26c51e1ce612e1b2517b26ab194e40cbe495eddc6ed7c", func := "tryst/trystlaw29.EntryOnce", spec := "entryOnce", unfollowed := true, recurses := true, apart := false, narrowed := true }
def EntryOnceUptoSaid : Prop := entryOnceUptoRow.holds Try.pinned (OpenSpec.upto entryOnceSpec)

/-- 'trystlaw29.EntryFresh', WHERE WHAT IT READS IS OF BULK AT MOST 1048576: true; the input reads as it did. -/
def entryFreshUptoRow : OpenClaim := { program := "ytjnoddbhfcpniaa", sum := "01f8040ec594e41301f26c51e1ce612e1b2517b26ab194e40cbe495eddc6ed7c", func := "tryst/trystlaw29.EntryFresh", spec := "entryFresh", unfollowed := true, recurses := true, apart := false, narrowed := true }
def EntryFreshUptoSaid : Prop := entryFreshUptoRow.holds Try.pinned (OpenSpec.upto entryFreshSpec)

/-- 'trystlaw29.EntryPlays', WHERE WHAT IT READS IS OF BULK AT MOST 1048576: true; the input reads as it did. -/
def entryPlaysUptoRow : OpenClaim := { program := "ytjnoddbhfcpniaa", sum := "01f8040ec594e41301f26c51e1ce612e1b2517b26ab194e40cbe495eddc6ed7c", func := "tryst/trystlaw29.EntryPlays", spec := "entryPlays", unfollowed := true, recurses := true, apart := false, narrowed := true }
def EntryPlaysUptoSaid : Prop := entryPlaysUptoRow.holds Try.pinned (OpenSpec.upto entryPlaysSpec)

/-- 'trystlaw29.EntryLate', WHERE WHAT IT READS IS OF BULK AT MOST 1048576: true; the input reads as it did. -/
def entryLateUptoRow : OpenClaim := { program := "ytjnoddbhfcpniaa", sum := "01f8040ec594e41301f26c51e1ce612e1b2517b26ab194e40cbe495eddc6ed7c", func := "tryst/trystlaw29.EntryLate", spec := "entryLate", unfollowed := true, recurses := true, apart := false, narrowed := true }
def EntryLateUptoSaid : Prop := entryLateUptoRow.holds Try.pinned (OpenSpec.upto entryLateSpec)

/-- 'trystlaw29.EntryNames', WHERE WHAT IT READS IS OF BULK AT MOST 1048576: true; the input reads as it did. -/
def entryNamesUptoRow : OpenClaim := { program := "ytjnoddbhfcpniaa", sum := "01f8040ec594e41301f26c51e1ce612e1b2517b26ab194e40cbe495eddc6ed7c", func := "tryst/trystlaw29.EntryNames", spec := "entryNames", unfollowed := true, recurses := true, apart := false, narrowed := true }
def EntryNamesUptoSaid : Prop := entryNamesUptoRow.holds Try.pinned (OpenSpec.upto entryNamesSpec)

end Rows
end Go.Proofs.Ytjnoddbhfcpniaa
