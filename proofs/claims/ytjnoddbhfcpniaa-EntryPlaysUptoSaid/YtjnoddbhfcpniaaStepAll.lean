/-
  EntryPlays: the law's step, of every kind.
-/
import Derived.Test.YtjnoddbhfcpniaaStepO
import Derived.Test.YtjnoddbhfcpniaaStepL
import Derived.Test.YtjnoddbhfcpniaaStepT
import Derived.Test.YtjnoddbhfcpniaaStepY
namespace Go.Proofs.Ytjnoddbhfcpniaa
open Go.RowKit
set_option linter.unusedVariables false
set_option linter.unusedSimpArgs false

section
variable {w : World} {I : Ids} {F G P : Nat → Prop} {s : ES} {t : RS} {m : Int} {B : Nat}
theorem step_any (h : PrM w I F G P s t m m) (hr : Rel s t) (hb : RB t B) (hBB : B ≤ 1048576) (dv : Int) (kind round at_ client : Int) (A Ar : Option Addr) (data : List UInt8) (rows : List (List UInt8)) (c cr : Nat) (hD : Rd w A (data.map bv)) (hA : data ≠ [] → ∀ k, aB A k → ¬ P k) (hL : data.length ≤ B) (hR : RdRows w Ar rows (fun k => ¬ P k)) (hRl : ∀ l ∈ rows, l.length ≤ B) (hRn : rows.length ≤ B) :
    Calls Try.prog 28 #[.pointer (some ⟨I.bb, 0, none⟩), .agg #[.int .i64 dv, .int .i64 kind, .int .u64 round, .int .i64 at_, .int .i64 client, .slice A data.length c, .slice Ar rows.length cr]] w fun e w' => e = .returned (.bool true) ∧ StepTo w I P B w' := by
  by_cases v1 : dv = 1
  · subst v1; exact step_open h hr hb hBB kind round at_ client A Ar data rows c cr hD hA hL hR hRl hRn
  by_cases v2 : dv = 2
  · subst v2; exact step_sub h hr hb hBB kind round at_ client A Ar data rows c cr hD hA hL hR hRl hRn
  by_cases v4 : dv = 4
  · subst v4; exact step_close h hr hb hBB kind round at_ client A Ar data rows c cr hD hA hL hR hRl hRn
  by_cases v5 : dv = 5
  · subst v5; exact step_ans h hr hb hBB kind round at_ client A Ar data rows c cr hD hA hL hR hRl hRn
  by_cases v6 : dv = 6
  · subst v6; exact step_col h hr hb hBB kind round at_ client A Ar data rows c cr hD hA hL hR hRl hRn
  by_cases v3 : dv = 3
  · subst v3
    by_cases hy : s.phase = 1 ∧ s.til ≤ at_
    · exact step_tick_yes h hr hb hBB kind round at_ client A Ar data rows c cr hD hA hL hR hRl hRn hy
    · exact step_tick_no h hr hb hBB kind round at_ client A Ar data rows c cr hD hA hL hR hRl hRn hy
  · exact step_none h hr hb hBB dv ⟨by simpa using v1, by simpa using v2, by simpa using v3, by simpa using v4, by simpa using v5, by simpa using v6⟩ kind round at_ client A Ar data rows c cr hD hA hL hR hRl hRn
end
end Go.Proofs.Ytjnoddbhfcpniaa
