/-
  TalkNew: a region that draws, by hand; trystref13.New.
-/
import Derived.Test.YtnpdhgfmoofknaaSlots
import Derived.Deep.MidRow
namespace Go.Proofs.Ytnpdhgfmoofknaa
open Go.RowKit
set_option linter.unusedVariables false
set_option linter.unusedSimpArgs false

theorem Blk.range {w : World} {g : Nat} {ty : TypeId} {a : Array Value} {cs : List Value} (h : Blk w g ty a) (e : a = cs.toArray) : w.rangeAt g 0 cs := fun j v hj => by
  rw [Nat.zero_add, h.cell, e]
  simpa using hj
section
variable {P : Program} {ops : Array Oper} {Q : Exit → Act → World → Prop} {md : Region.Mode} {S : World → Prop}
theorem takeC {i : Nat} {d : Option Tmp} {op : Op} {ty : TypeId} {pos : String} {af : Array Edge} {gd : Option (Nat × Bool)} (v : Value) {fuel : Nat} {listed : Array Bool} {a : Act} {w : World} (hi : ops[i]? = some ⟨d, op, ty, pos, af, gd⟩)
    (hs : Region.noSelect ops = true) (hf : Region.free md ops listed i = true) (hr : (Region.ready md ops listed).contains i = true)
    (hQ : ∀ c a w, Q (.panic c) (a.put d v) w → Q (.panic c) a w) (hy : YieldsIf P ops S ⟨d, op, ty, pos, af, gd⟩ v a) (hS : S w)
    (h : wpAnyH P md ops Q S fuel (listed.setIfInBounds i true) (a.put d v) w) : wpAnyH P md ops Q S (fuel + 1) listed a w :=
  wpAnyH_take hi hs hf hr hQ hy hS h
theorem consC {fuel : Nat} {listed : Array Bool} {a : Act} {w : World} {i : Nat} {d : Option Tmp} {op : Op} {ty : TypeId} {pos : String} {af : Array Edge} {gd : Option (Nat × Bool)} (hi : ops[i]? = some ⟨d, op, ty, pos, af, gd⟩)
    (hr : Region.ready md ops listed = [i])
    (h : ∀ K' : Act → World → Prop, Shut (∀ a w, S w → (S w → wpAnyH P md ops Q S fuel (listed.setIfInBounds i true) a w) → K' a w) → if Region.wanted ⟨d, op, ty, pos, af, gd⟩ (yielded ops a.tmps) = true then Oper.wp P ⟨d, op, ty, pos, af, gd⟩ a w K' Q else K' (a.put d undef) w) :
    wpAnyH P md ops Q S (fuel + 1) listed a w := wpAnyH_ready hr (by simp) (AllReadyH.cons hi h AllReadyH.nil)
end
/-- a struct literal, of whatever parts, in a region that draws -/
theorem yields_build {P : Program} {ops : Array Oper} {S : World → Prop} {op : Oper} {a : Act} (hw : Region.wanted op (yielded ops a.tmps) = true) (t : TypeId) (parts : Array (Nat × Operand)) (ho : op.op = .build t parts) (vals : Array (Nat × Value)) (hv : (parts.map fun (i, x) => (i, a.eval x)) = vals) (cs : Array Value)
    (hrun : ∀ w, (Instr.build t vals).run P w = .ok (.agg cs) w) : YieldsIf P ops S op (.agg cs) a :=
  .inl ⟨hw, fun w _ => by
    unfold execOp
    simp only [ho, hv, Sem.run_bind, hrun, Result.andThen_ok]
    rfl⟩
theorem zK_list : ∃ cs : List Value, zK = .agg cs.toArray ∧ cs.length = 32 := ⟨[.int .u8 0, .int .u8 0, .int .u8 0, .int .u8 0, .int .u8 0, .int .u8 0, .int .u8 0, .int .u8 0, .int .u8 0, .int .u8 0, .int .u8 0, .int .u8 0, .int .u8 0, .int .u8 0, .int .u8 0, .int .u8 0, .int .u8 0, .int .u8 0, .int .u8 0, .int .u8 0, .int .u8 0, .int .u8 0, .int .u8 0, .int .u8 0, .int .u8 0, .int .u8 0, .int .u8 0, .int .u8 0, .int .u8 0, .int .u8 0, .int .u8 0, .int .u8 0], rfl, rfl⟩
set_option maxRecDepth 100000 in
theorem rpager_build (b p : Nat) (t : Int) : ∃ C : Array Value, (∀ w, (Instr.build 75 #[(0, .pointer (some ⟨b, 0, none⟩)), (1, zK), (2, .int .u64 1), (3, .int .i64 2), (4, .int .i64 p), (5, .int .i64 t)]).run Try.prog w = .ok (.agg C) w) ∧ C[35]? = some (.int .i64 p) ∧ C[36]? = some (.int .i64 t) := by
  unfold zK
  exact ⟨#[.pointer (some ⟨b, 0, none⟩), .int .u8 0, .int .u8 0, .int .u8 0, .int .u8 0, .int .u8 0, .int .u8 0, .int .u8 0, .int .u8 0, .int .u8 0, .int .u8 0, .int .u8 0, .int .u8 0, .int .u8 0, .int .u8 0, .int .u8 0, .int .u8 0, .int .u8 0, .int .u8 0, .int .u8 0, .int .u8 0, .int .u8 0, .int .u8 0, .int .u8 0, .int .u8 0, .int .u8 0, .int .u8 0, .int .u8 0, .int .u8 0, .int .u8 0, .int .u8 0, .int .u8 0, .int .u8 0, .int .u64 1, .int .i64 2, .int .i64 p, .int .i64 t, .slice none 0 0, .slice none 0 0, .int .i64 0, .int .i64 0, .int .i64 0, .bool false], fun w => by kernel_rfl, rfl, rfl⟩
set_option maxRecDepth 100000 in
set_option maxHeartbeats 1000000 in
theorem rpagernew (b p s : Nat) (w : World) (hp : p ≤ 65536) (h1 : 29 ≤ s) (h2 : s ≤ 4124) (c0 : w.cell? ⟨b, 0, none⟩ = some (.int .i64 p)) (c1 : w.cell? ⟨b, 1, none⟩ = some (.int .i64 s)) :
    Calls Try.prog 8 #[.pointer (some ⟨b, 0, none⟩), zK, .int .u64 1, .int .i64 2] w fun e w' =>
    ∃ q, e = .returned (.tuple #[.pointer (some ⟨q, 0, none⟩), .int .i64 0]) ∧ Frm noB w w' ∧ w'.cell? ⟨q, 35, none⟩ = some (.int .i64 p) ∧ w'.cell? ⟨q, 36, none⟩ = some (.int .i64 ((s : Int) - 28)) := by
  obtain ⟨cs, hK, hKs⟩ := zK_list
  obtain ⟨C, hC, e35, e36⟩ := rpager_build b p ((s : Int) - 28)
  rw [hK] at hC ⊢
  have hB0 : Blk (w.alloc (.cells cs.toArray 38)) w.heap.size 38 cs.toArray := Blk.new _ _ _
  have hf0 : Frm noB w (w.alloc (.cells cs.toArray 38)) := (Frm.refl _ _).alloc _
  have HU : Hid (Try.prog.underlying 38 = some (.array 32 5)) := Lib.hid Try.underlying38
  have HSZ : Hid ((Try.prog.info? 38).map (·.size) = some cs.length) := Lib.hid (by rw [hKs]; rfl)
  have hws : IntKind.i64.wrap ((s : Int) - 28) = (s : Int) - 28 := IntWalk.i64_in _ (by omega)
  have HC := Lib.hid hC
  have HE := Lib.hid (And.intro e35 e36)
  clear hK hKs hC e35 e36
  go_enter Try.func8, Try.ntmps8
  go_upto_region 1 with fail
  generalize w.alloc (.cells cs.toArray 38) = w1 at *
  have hr1 := hB0.range rfl
  have d0 := hf0.cell_some c0 (fun h => h)
  have d1 := hf0.cell_some c1 (fun h => h)
  have HF0 := Lib.hid hf0
  have HR := Lib.hid hr1
  clear hB0 hf0 c0 c1 hr1
  go_upto_region 5 with fail
  have hf : Frm noB w1 w1.drew := (Frm.refl _ _).drew
  have s0 : w1.drew.cell? ⟨b, 0, none⟩ = some (.int .i64 p) ∧ w1.drew.cell? ⟨b, 1, none⟩ = some (.int .i64 s) ∧ w1.drew.rangeAt w.heap.size 0 cs := ⟨d0, d1, HR.out⟩
  have HFd := Lib.hid (HF0.out.trans' hf)
  refine wp_region_held_drew (S := fun W => W.cell? ⟨b, 0, none⟩ = some (.int .i64 p) ∧ W.cell? ⟨b, 1, none⟩ = some (.int .i64 s) ∧ W.rangeAt w.heap.size 0 cs) (by kernel_rfl) s0 (fun hHeld => ?_)
  generalize w1.drew = wa at *
  refine takeC (i := 0) (.pointer (some ⟨b, 0, none⟩)) rfl (by kernel_rfl) (by kernel_rfl) (by kernel_rfl) (fun _ _ _ h => h) (Or.inl ⟨by rfl, fun w hw => by go_simp⟩) s0 ?_
  try simp only [Act.put, List.setIfInBounds_toArray, List.set_cons_zero, List.set_cons_succ]
  refine takeC (i := 1) (.agg cs.toArray) rfl (by kernel_rfl) (by kernel_rfl) (by kernel_rfl) (fun _ _ _ h => h) (yieldsIf_load_mid (by rfl) _ _ rfl w.heap.size 0 rfl cs _ (fun w hw => hw.2.2) HU.out rfl HSZ.out) s0 ?_
  try simp only [Act.put, List.setIfInBounds_toArray, List.set_cons_zero, List.set_cons_succ]
  refine takeC (i := 2) (.int .u64 1) rfl (by kernel_rfl) (by kernel_rfl) (by kernel_rfl) (fun _ _ _ h => h) (Or.inl ⟨by rfl, fun w hw => by go_simp⟩) s0 ?_
  try simp only [Act.put, List.setIfInBounds_toArray, List.set_cons_zero, List.set_cons_succ]
  refine takeC (i := 3) (.int .i64 2) rfl (by kernel_rfl) (by kernel_rfl) (by kernel_rfl) (fun _ _ _ h => h) (Or.inl ⟨by rfl, fun w hw => by go_simp⟩) s0 ?_
  try simp only [Act.put, List.setIfInBounds_toArray, List.set_cons_zero, List.set_cons_succ]
  refine takeC (i := 4) (.pointer (some ⟨b, 0, none⟩)) rfl (by kernel_rfl) (by kernel_rfl) (by kernel_rfl) (fun _ _ _ h => h) (Or.inl ⟨by rfl, fun w hw => by go_simp⟩) s0 ?_
  try simp only [Act.put, List.setIfInBounds_toArray, List.set_cons_zero, List.set_cons_succ]
  refine takeC (i := 5) (.pointer (some ⟨b, 0, none⟩)) rfl (by kernel_rfl) (by kernel_rfl) (by kernel_rfl) (fun _ _ _ h => h) (Or.inl ⟨by rfl, fun w hw => by go_simp⟩) s0 ?_
  try simp only [Act.put, List.setIfInBounds_toArray, List.set_cons_zero, List.set_cons_succ]
  refine takeC (i := 6) (.pointer (some ⟨b, 0, none⟩)) rfl (by kernel_rfl) (by kernel_rfl) (by kernel_rfl) (fun _ _ _ h => h) (Or.inl ⟨by rfl, fun w hw => by go_simp⟩) s0 ?_
  try simp only [Act.put, List.setIfInBounds_toArray, List.set_cons_zero, List.set_cons_succ]
  refine takeC (i := 7) (.int .i64 p) rfl (by kernel_rfl) (by kernel_rfl) (by kernel_rfl) (fun _ _ _ h => h) (Or.inl ⟨by rfl, fun w hw => by go_simp⟩) s0 ?_
  try simp only [Act.put, List.setIfInBounds_toArray, List.set_cons_zero, List.set_cons_succ]
  refine takeC (i := 8) (.pointer (some ⟨b, 0, none⟩)) rfl (by kernel_rfl) (by kernel_rfl) (by kernel_rfl) (fun _ _ _ h => h) (Or.inl ⟨by rfl, fun w hw => by go_simp⟩) s0 ?_
  try simp only [Act.put, List.setIfInBounds_toArray, List.set_cons_zero, List.set_cons_succ]
  refine takeC (i := 9) (.pointer (some ⟨b, 0, none⟩)) rfl (by kernel_rfl) (by kernel_rfl) (by kernel_rfl) (fun _ _ _ h => h) (Or.inl ⟨by rfl, fun w hw => by go_simp⟩) s0 ?_
  try simp only [Act.put, List.setIfInBounds_toArray, List.set_cons_zero, List.set_cons_succ]
  refine takeC (i := 10) (.pointer (some ⟨b, 1, none⟩)) rfl (by kernel_rfl) (by kernel_rfl) (by kernel_rfl) (fun _ _ _ h => h) (Or.inl ⟨by rfl, fun w hw => by go_simp⟩) s0 ?_
  try simp only [Act.put, List.setIfInBounds_toArray, List.set_cons_zero, List.set_cons_succ]
  refine takeC (i := 11) (.int .i64 s) rfl (by kernel_rfl) (by kernel_rfl) (by kernel_rfl) (fun _ _ _ h => h) (Or.inl ⟨by rfl, fun w hw => by go_simp⟩) s0 ?_
  try simp only [Act.put, List.setIfInBounds_toArray, List.set_cons_zero, List.set_cons_succ]
  refine takeC (i := 12) (.int .i64 ((s : Int) - 28)) rfl (by kernel_rfl) (by kernel_rfl) (by kernel_rfl) (fun _ _ _ h => h) (Or.inl ⟨by rfl, fun w hw => by go_simp⟩) s0 ?_
  try simp only [Act.put, List.setIfInBounds_toArray, List.set_cons_zero, List.set_cons_succ]
  refine takeC (i := 13) (.agg C) rfl (by kernel_rfl) (by kernel_rfl) (by kernel_rfl) (fun _ _ _ h => h) (yields_build (by rfl) 75 _ rfl _ (by simp only [List.map_toArray, List.map_cons, List.map_nil]; rfl) C HC.out) s0 ?_
  try simp only [Act.put, List.setIfInBounds_toArray, List.set_cons_zero, List.set_cons_succ]
  refine consC (i := 14) rfl (by kernel_rfl) (fun K hK => ?_)
  go_simp
  have hB : Blk (wa.alloc (.cells C 75)) wa.heap.size 75 C := Blk.new _ _ _
  have hf2 : Frm noB wa (wa.alloc (.cells C 75)) := (Frm.refl _ _).alloc _
  have s1 : (wa.alloc (.cells C 75)).cell? ⟨b, 0, none⟩ = some (.int .i64 p) ∧ (wa.alloc (.cells C 75)).cell? ⟨b, 1, none⟩ = some (.int .i64 s) ∧ (wa.alloc (.cells C 75)).rangeAt w.heap.size 0 cs := ⟨hf2.cell_some s0.1 (fun h => h), hf2.cell_some s0.2.1 (fun h => h), fun j v hj => hf2.cell_some (s0.2.2 j v hj) (fun h => h)⟩
  generalize wa.alloc (.cells C 75) = wb at *
  refine hK.out _ _ s1 (fun hHeld => ?_)
  clear hK K
  try simp only [Act.put, List.setIfInBounds_toArray, List.set_cons_zero, List.set_cons_succ]
  refine consC (i := 15) rfl (by kernel_rfl) (fun K hK => ?_)
  go_simp
  refine hK.out _ _ s1 (fun hHeld => ?_)
  clear hK K
  try simp only [Act.put, List.setIfInBounds_toArray, List.set_cons_zero, List.set_cons_succ]
  refine consC (i := 16) rfl (by kernel_rfl) (fun K hK => ?_)
  go_simp
  refine hK.out _ _ s1 (fun hHeld => ?_)
  clear hK K
  try simp only [Act.put, List.setIfInBounds_toArray, List.set_cons_zero, List.set_cons_succ]
  refine wpAnyH_done (by kernel_rfl) ?_ _
  have g1 := (hB.cell 35).trans HE.out.1
  have g2 := (hB.cell 36).trans HE.out.2
  have HG := Lib.hid (And.intro g1 g2)
  have HFb := Lib.hid (HFd.out.trans' hf2)
  clear hB hf2 s0 s1 hHeld g1 g2 hws
  go_wp2_with fail
  go_ret2
  exact ⟨_, rfl, HFb.out, HG.out.1, HG.out.2⟩
end Go.Proofs.Ytnpdhgfmoofknaa
