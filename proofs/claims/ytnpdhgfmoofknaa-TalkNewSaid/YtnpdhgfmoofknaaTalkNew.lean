/-
  PROVED: trystlaw23.TalkNew: whatever the pages, the text, the config and the number, the Go function returns true, in whatever memory, and leaves what was there as it was. No condition.
-/
import Derived.Test.YtnpdhgfmoofknaaRows
import Derived.Test.YtnpdhgfmoofknaaLawNew
import Derived.ProofKit
import Derived.OpenShut
import Derived.Deep.Fields
import Derived.Deep.Slices
import Derived.Lib.SmallJoins
namespace Go.Proofs.Ytnpdhgfmoofknaa.talkNew
open Go.ChangeShapes Go.WideShapes Go.ChangeAt Go.RowKit
set_option linter.unusedVariables false
set_option linter.unusedSimpArgs false

theorem own : ownKnob Try.prog.godebug = none := by kernel_rfl
theorem laidOut : laidOutB Try.prog = true := by kernel_rfl
theorem cells_n : Try.prog.cellsOf 3 = 1 := by kernel_rfl
theorem cells_cfg : Try.prog.cellsOf 23 = 6 := by kernel_rfl
theorem cells_ask : Try.prog.cellsOf 25 = 9 := by kernel_rfl
theorem wf_i64 {n : Int} (h : (Lit.int .i64 n).wf = true) : i64 n := by
  have h1 : IntKind.i64.min = -9223372036854775808 := rfl
  have h2 : IntKind.i64.max = 9223372036854775807 := rfl
  simp only [Lit.wf, Bool.and_eq_true, decide_eq_true_eq] at h
  unfold i64
  omega
theorem int_of {H : Type} {enc : TypeId × Value → H} {W : World} {b : Nat} {v : Value} {x : DataW H × List MemPlace} {sp : Nat → Bool} {hd : Bool} {fuel : Nat}
    (h : DataW.trod enc Try.prog W b sp hd fuel 3 [v] = some x) : ∃ n, v = .int .i64 n ∧ i64 n := by
  obtain ⟨n, hn, _, wn⟩ := DataW.trod_int Try.underlying3 h
  injection hn with hn
  exact ⟨n, hn, wf_i64 wn⟩

set_option maxRecDepth 100000 in
theorem opened_cfg {H : Type} {enc : TypeId × Value → H} {W : World} {b : Nat} {v1 v2 v3 v4 v5 v6 : Value} {x : DataW H × List MemPlace} {sp : Nat → Bool} {hd : Bool} {fuel : Nat}
    (h : DataW.trod enc Try.prog W b sp hd fuel 23 [v1, v2, v3, v4, v5, v6] = some x) :
    ∃ x1 x2 x3 x4 x5 x6, v1 = .int .i64 x1 ∧ v2 = .int .i64 x2 ∧ v3 = .int .i64 x3 ∧ v4 = .int .i64 x4 ∧ v5 = .int .i64 x5 ∧ v6 = .int .i64 x6 ∧ Cfg.fits ⟨x1, x2, x3, x4, x5, x6⟩ := by
  obtain ⟨xs, k, hk, hxy, hl, hxl, hf⟩ := DataW.trod_struct Try.underlying23 h
  obtain ⟨y1, y2, y3, y4, y5, y6, hxs⟩ : ∃ y1 y2 y3 y4 y5 y6, xs = [y1, y2, y3, y4, y5, y6] := by
    match xs, hxl with
    | [y1, y2, y3, y4, y5, y6], _ => exact ⟨y1, y2, y3, y4, y5, y6, rfl⟩
  subst hxs
  have f1 := hf 0 _ rfl
  have f2 := hf 1 _ rfl
  have f3 := hf 2 _ rfl
  have f4 := hf 3 _ rfl
  have f5 := hf 4 _ rfl
  have f6 := hf 5 _ rfl
  simp only [cells_n, List.drop_zero, List.drop_succ_cons, List.take_succ_cons, List.take_zero, List.getElem?_cons_zero, List.getElem?_cons_succ] at f1 f2 f3 f4 f5 f6
  obtain ⟨x1, rfl, w1⟩ := int_of f1
  obtain ⟨x2, rfl, w2⟩ := int_of f2
  obtain ⟨x3, rfl, w3⟩ := int_of f3
  obtain ⟨x4, rfl, w4⟩ := int_of f4
  obtain ⟨x5, rfl, w5⟩ := int_of f5
  obtain ⟨x6, rfl, w6⟩ := int_of f6
  exact ⟨x1, x2, x3, x4, x5, x6, rfl, rfl, rfl, rfl, rfl, rfl, w1, w2, w3, w4, w5, w6⟩
set_option maxRecDepth 100000 in
theorem opened_ask {H : Type} {enc : TypeId × Value → H} {W : World} {cs : Array Value} {d : DataW H} {p : List MemPlace}
    (h0 : DataW.Trod enc Try.prog W 0 (fun _ => true) true 25 (.agg cs) d p) :
    ∃ P T x1 x2 x3 x4 x5 x6 n : Int, cs = #[.int .i64 P, .int .i64 T, .int .i64 x1, .int .i64 x2, .int .i64 x3, .int .i64 x4, .int .i64 x5, .int .i64 x6, .int .i64 n] ∧ i64 P ∧ Cfg.fits ⟨x1, x2, x3, x4, x5, x6⟩ ∧ i64 n := by
  obtain ⟨fuel, h⟩ := h0
  obtain ⟨xs, k, hk, hxy, hl, hxl, hf⟩ := DataW.trod_struct Try.underlying25 h
  simp only [Value.cells] at hl hf
  rw [cells_ask] at hl
  obtain ⟨a0, a1, a2, a3, a4, a5, a6, a7, a8, hcs⟩ : ∃ a0 a1 a2 a3 a4 a5 a6 a7 a8, cs.toList = [a0, a1, a2, a3, a4, a5, a6, a7, a8] := by
    match hc : cs.toList, hl with
    | [a0, a1, a2, a3, a4, a5, a6, a7, a8], _ => exact ⟨a0, a1, a2, a3, a4, a5, a6, a7, a8, rfl⟩
  obtain ⟨y0, y1, y2, y3, hxs⟩ : ∃ y0 y1 y2 y3, xs = [y0, y1, y2, y3] := by
    match xs, hxl with
    | [y0, y1, y2, y3], _ => exact ⟨y0, y1, y2, y3, rfl⟩
  subst hxs
  rw [hcs] at hf
  have f0 := hf 0 _ rfl
  have f1 := hf 1 _ rfl
  have f2 := hf 2 _ rfl
  have f3 := hf 3 _ rfl
  simp only [cells_n, cells_cfg, List.drop_zero, List.drop_succ_cons, List.take_succ_cons, List.take_zero, List.getElem?_cons_zero, List.getElem?_cons_succ] at f0 f1 f2 f3
  obtain ⟨P, rfl, w0⟩ := int_of f0
  obtain ⟨T, rfl, w1⟩ := int_of f1
  obtain ⟨x1, x2, x3, x4, x5, x6, rfl, rfl, rfl, rfl, rfl, rfl, wc⟩ := opened_cfg f2
  obtain ⟨n, rfl, wn⟩ := int_of f3
  refine ⟨P, T, x1, x2, x3, x4, x5, x6, n, ?_, w0, wc, wn⟩
  apply Array.ext'
  exact hcs

set_option maxRecDepth 100000 in
theorem lifted (os : Os) (started : os.Started) (H : Type) (enc : TypeId × Value → H) :
    ReturnsInHanded {} Try.checked os 3 .any (Rows.talkNewSpec.pre6 enc Try.prog Try.f3 Rows.talkNewRow.domain false) (Rows.talkNewSpec.post enc Try.prog Try.f3 false true false false) := by
  refine returnsInHanded_of_change (C := Try.checked) own started (by kernel_rfl) Try.func3
    (ChangeSpec.witness6 (enc := enc) (C := Try.checked) false ⟨#[], #[.agg #[.int .i64 0, .int .i64 0, .int .i64 0, .int .i64 0, .int .i64 0, .int .i64 0, .int .i64 0, .int .i64 0, .int .i64 0]], []⟩ 8 (by kernel_rfl) (by kernel_rfl) (by kernel_rfl) (by kernel_rfl)) ?_
  intro W base args ds gs before hval0 hW hcnd _
  have hval : ∀ (j : Nat) t v, Try.f3.params[j]? = some t → args[j]? = some v → Value.okWide Try.prog W .any base t v := hval0
  have hW' := hW
  obtain ⟨p, q, hA0, hV, rfl, hfz, hnd⟩ := hW
  have hA : DataW.TrodAll enc Try.prog W 0 (fun _ => true) true Try.f3.params.toList args.toList ds p := hA0
  rw [Try.params3] at hA hval
  obtain ⟨v0, d0, hargs, rfl, h0⟩ := trodAll_one hA
  obtain rfl : args = #[v0] := by cases args; simp_all
  obtain ⟨rfl, rfl⟩ := trodVars_none hV
  clear hA0 hval0
  simp only [List.append_nil] at hW'
  have hlt : ∀ x ∈ p, x.block < W.heap.size := fun x hx => by simpa using hW'.lt x hx
  obtain ⟨cs, rfl, _⟩ := okWide_struct Try.underlying25 (hval 0 _ v0 rfl rfl)
  obtain ⟨P, T, x1, x2, x3, x4, x5, x6, n, rfl, hP, hc, hn⟩ := opened_ask h0
  refine (talkNew_any P T x1 x2 x3 x4 x5 x6 n W hP hc hn).mono fun e W' ⟨he, hg⟩ => ?_
  subst he
  have harg0 : DataW.Trod enc Try.prog W' 0 (fun b => decide (b < W.heap.size)) true 25 (.agg #[.int .i64 P, .int .i64 T, .int .i64 x1, .int .i64 x2, .int .i64 x3, .int .i64 x4, .int .i64 x5, .int .i64 x6, .int .i64 n]) d0 p :=
    Below.trod laidOut (by kernel_rfl) (of_decide_eq_true (by kernel_rfl)) h0 hg.below' hlt
  exact ⟨_, rfl, _, _, _, [], _, [], hW', trodAll_cons_mk (shut_bool Try.underlying4 _) trodAll_mk0, trodAll_mk1 harg0, rfl, hg.below'.frame _, fun h => by cases h⟩

theorem proved : Rows.TalkNewSaid :=
  OpenClaim.holds_of_wide 3 Try.f3 rfl rfl rfl rfl rfl rfl rfl ⟨rfl, rfl, rfl, rfl, rfl⟩ rfl rfl rfl rfl rfl (by kernel_rfl) Try.func3 (by kernel_rfl)
    (of_decide_eq_true (by kernel_rfl)) (by unfold Func.isWrapper; first | (rw [if_pos (by decide +kernel)]; kernel_rfl) | (rw [if_neg (by decide +kernel)]; exact ⟨rfl, rfl⟩))
    (fun os started H enc _ => lifted os started H enc)
#print axioms proved
end Go.Proofs.Ytnpdhgfmoofknaa.talkNew
