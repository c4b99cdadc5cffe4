/-
  Tick.
-/
import Derived.Test.YtjnoddbhfcpniaaEntClose
namespace Go.Proofs.Ytjnoddbhfcpniaa
open Go.RowKit
set_option linter.unusedVariables false
set_option linter.unusedSimpArgs false

section
variable {w : World} {b : Nat} {F : Nat → Prop} {fv : Value} {s : ES} {ma mr : Nat} {wv xv : Value} {xs : List Value} {rv : List (Int × Value)}

theorem tick_no (h : IsE w b F fv s ma mr wv xv xs rv) (now : Int) (hp : s.phase ≠ 1 ∨ now < s.til) :
    Calls Try.prog 29 #[.pointer (some ⟨b, 0, none⟩), .int .i64 now] w fun e w' => e = .returned (.tuple #[.agg #[.int .i64 0, .int .u64 0, .slice none 0 0, .slice none 0 0], .bool false, .int .i64 0]) ∧ Frm noB w w' := by
  have B := h.blk.alloc (.cells #[.int .i64 0, .int .u64 0, .slice none 0 0, .slice none 0 0] 39)
  have c3 := B.cell 3
  have c7 := B.cell 7
  simp at c3 c7
  clear h B
  by_cases hp1 : s.phase = 1
  · have hn : now < s.til := hp.resolve_left fun h => h hp1
    have hp' : (s.phase != 1) = false := by simpa using hp1
    clear hp hp1
    go_enter Try.func29, Try.ntmps29
    go_wp2
    refine bodyPost_ret (v := .tuple #[.agg #[.int .i64 0, .int .u64 0, .slice none 0 0, .slice none 0 0], .bool false, .int .i64 0]) (by simp [results, Try.results29, go_sem]) rfl ⟨rfl, ?_⟩
    exact (Frm.refl _ _).alloc _
  · have hp' : (s.phase != 1) = true := by simpa using hp1
    clear hp hp1
    go_enter Try.func29, Try.ntmps29
    go_wp2
    refine bodyPost_ret (v := .tuple #[.agg #[.int .i64 0, .int .u64 0, .slice none 0 0, .slice none 0 0], .bool false, .int .i64 0]) (by simp [results, Try.results29, go_sem]) rfl ⟨rfl, ?_⟩
    exact (Frm.refl _ _).alloc _

set_option maxHeartbeats 1000000 in
theorem tick_yes (h : IsE w b F fv s ma mr wv xv xs rv) (now : Int) (hp : s.phase = 1) (hn : s.til ≤ now) :
    Calls Try.prog 29 #[.pointer (some ⟨b, 0, none⟩), .int .i64 now] w fun e w' => ∃ wo F', e = .returned (.tuple #[.agg #[.int .i64 s.kind, .int .u64 s.round, wo, xv], .bool true, .int .i64 0]) ∧
      w'.ownsRow w.heap.size 3 1 wo s.who.length (s.who.map iv) ∧ w'.ownsRow 0 35 1 xv xs.length xs ∧ OwnRows w' xs s.boxes ∧
      IsE w' b F' fv (closed s) ma mr wv (.slice none 0 0) [] rv ∧ (∀ k, F' k → F k ∧ ¬ oB xv k ∧ ∀ i (h : i < xs.length), ¬ oB xs[i] k) ∧ Frm F w w' := by
  have h1 := h.frm' ((Frm.refl noB w).alloc (.cells #[.int .i64 0, .int .u64 0, .slice none 0 0, .slice none 0 0] 39))
  have B := h1.blk
  have c3 := B.cell 3
  have c7 := B.cell 7
  simp [hp] at c3 c7
  have H := Lib.hid h
  have H1 := Lib.hid h1
  have HP := Lib.hid hp
  obtain ⟨Aw, cw, hwv, hcw⟩ := own_slice h.own
  obtain ⟨Ax, cx, hxv, hcx⟩ := own_slice h.row
  subst hwv
  subst hxv
  clear hp h B h1
  go_enter Try.func29, Try.ntmps29
  go_wp2_with fail
  refine (close_ok H1.out HP.out).mono ?_
  rintro e w1 ⟨wo, F', rfl, ho, hx, hr, hE, hF', hf⟩
  obtain ⟨Ao, co, rfl, hco⟩ := own_slice ho
  have hsz : (w.alloc (.cells #[.int .i64 0, .int .u64 0, .slice none 0 0, .slice none 0 0] 39)).heap.size = w.heap.size + 1 := by simp
  have hg : ¬ F w.heap.size := fun h => by have := H.out.lt _ h; omega
  have G1 := (Blk.new w 39 #[.int .i64 0, .int .u64 0, .slice none 0 0, .slice none 0 0]).frm hf hg
  have hsz1 := hf.size
  have g0 := G1.cell 0
  have g1 := G1.cell 1
  have g2 := G1.cell 2
  have g3 := G1.cell 3
  have y0 := G1.frozen 0
  have y1 := G1.frozen 1
  have y2 := G1.frozen 2
  have y3 := G1.frozen 3
  simp at g0 g1 g2 g3
  have hlt : w.heap.size < w1.heap.size := by omega
  have HG1 := Lib.hid G1
  have HO := Lib.hid ho
  have HX := Lib.hid hx
  have HR := Lib.hid hr
  have HE := Lib.hid hE
  have HF' := Lib.hid hF'
  have HF := Lib.hid hf
  have HS := Lib.hid hsz
  clear G1 ho hx hr hE hF' hf hsz hsz1
  go_wp2
  have G8 := (((((HG1.out.set_ 0 (.int .i64 s.kind)).set_ 1 (.int .u64 s.round)).set_ 2 (.slice Ao s.who.length co)).set_ 3 (.slice Ax xs.length cx)).alloc (.cells #[.int .i64 s.kind, .int .u64 s.round, .slice Ao s.who.length co, .slice Ax xs.length cx] 39))
  simp only [List.setIfInBounds_toArray, List.set_cons_succ, List.set_cons_zero] at G8
  have F8 := ((((((Frm.refl (isB w.heap.size) w1).setCell (a := ⟨w.heap.size, 0, none⟩) (.inl (show isB w.heap.size w.heap.size from rfl)) (.int .i64 s.kind)).setCell (a := ⟨w.heap.size, 1, none⟩) (.inl (show isB w.heap.size w.heap.size from rfl)) (.int .u64 s.round)).setCell (a := ⟨w.heap.size, 2, none⟩) (.inl (show isB w.heap.size w.heap.size from rfl)) (.slice Ao s.who.length co)).setCell (a := ⟨w.heap.size, 3, none⟩) (.inl (show isB w.heap.size w.heap.size from rfl)) (.slice Ax xs.length cx)).alloc (.cells #[.int .i64 s.kind, .int .u64 s.round, .slice Ao s.who.length co, .slice Ax xs.length cx] 39))
  clear g0 g1 g2 g3 y0 y1 y2 y3
  generalize (((((w1.setCell ⟨w.heap.size, 0, none⟩ (.int .i64 s.kind)).setCell ⟨w.heap.size, 1, none⟩ (.int .u64 s.round)).setCell ⟨w.heap.size, 2, none⟩ (.slice Ao s.who.length co)).setCell ⟨w.heap.size, 3, none⟩ (.slice Ax xs.length cx)).alloc (.cells #[.int .i64 s.kind, .int .u64 s.round, .slice Ao s.who.length co, .slice Ax xs.length cx] 39)) = w8 at *
  have e0 := G8.cell 0
  have e1 := G8.cell 1
  have e2 := G8.cell 2
  have e3 := G8.cell 3
  simp at e0 e1 e2 e3
  have hlo := own_lt HO.out
  have hF2 : ∀ k, F k → k ≠ w.heap.size := fun k hk e => hg (e ▸ hk)
  refine bodyPost_ret (v := .tuple #[.agg #[.int .i64 s.kind, .int .u64 s.round, .slice Ao s.who.length co, .slice Ax xs.length cx], .bool true, .int .i64 0]) ?_ rfl
    ⟨_, F', rfl, own_base (own_frm HO.out F8 fun k hk h => ?_) fun k hk => ?_, own_frm HX.out F8 fun k hk h => hF2 k (H.out.fx k hk) h, HR.out.frm F8 fun i hi k hk h => hF2 k (H.out.fi i hi k hk) h, HE.out.frm F8 fun k hk h => hF2 k (HF'.out k hk).1 h, HF'.out, ?_⟩
  · simp [results, Try.results29, go_sem, e0, e1, e2, e3]
  · have := (hlo k hk).1
    have hs := HS.out
    have h : k = w.heap.size := h
    omega
  · have := (hlo k hk).1
    have hs := HS.out
    omega
  · exact (((Frm.refl F w).alloc _).trans HF.out fun k hk h => h).trans F8 fun k hk h => by
      have h : k = w.heap.size := h
      omega
end
end Go.Proofs.Ytjnoddbhfcpniaa
