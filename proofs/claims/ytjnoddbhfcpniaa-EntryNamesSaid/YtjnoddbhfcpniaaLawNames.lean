/-
  EntryNames: the walk.
-/
import Derived.Test.YtjnoddbhfcpniaaAwake
namespace Go.Proofs.Ytjnoddbhfcpniaa
open Go.RowKit
set_option linter.unusedVariables false
set_option linter.unusedSimpArgs false

set_option maxHeartbeats 1000000 in
theorem entryNames_any (w : World) : Calls Try.prog 7 #[] w fun e w' => e = .returned (.bool true) ∧ Frm noB w w' := by
  go_enter Try.func7, Try.ntmps7
  go_wp2_with (first | (go_at_call 8; refine (awake_any _).mono ?_; rintro e w' ⟨rfl, hf⟩) | go_in)
  go_ret
  refine ⟨rfl, Frm.trans' ?_ hf⟩
  repeat (first | exact Frm.refl _ _ | refine Frm.alloc ?_ _)
end Go.Proofs.Ytjnoddbhfcpniaa
