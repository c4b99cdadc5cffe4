/-
  The digest's object: New, Reset, Len, Copy.
-/
import Derived.Test.YtkhakddecmgejaaDoorRound
import Derived.Test.YtkhakddecmgejaaDoorSha
namespace Go.Proofs.YtkhakddecmgejaaDoor
open Go.RowKit
set_option linter.unusedVariables false
set_option linter.unusedSimpArgs false

/-- block b is a hash that has taken m -/
def IsH (w : World) (b : Nat) (m : List UInt8) : Prop := ∃ st bl, Blk w b 97 (arr 74 (hf st bl (m.length % 64 : Nat) m.length)) ∧ Took st bl m ∧ 2 ≤ b
theorem IsH.frm {S : Nat → Prop} {w w' : World} {b : Nat} {m : List UInt8} (h : IsH w b m) (hf : Frm S w w') (hS : ¬ S b) : IsH w' b m := by
  obtain ⟨st, bl, h1, h2, h3⟩ := h
  exact ⟨st, bl, h1.frm hf hS, h2, h3⟩
theorem IsH.frm' {w w' : World} {b : Nat} {m : List UInt8} (h : IsH w b m) (hf : Frm noB w w') : IsH w' b m := h.frm hf fun h => h
theorem IsH.lt {w : World} {b : Nat} {m : List UInt8} (h : IsH w b m) : b < w.heap.size := by
  obtain ⟨st, bl, h1, h2, h3⟩ := h
  exact h1.lt
theorem IsH.ge {w : World} {b : Nat} {m : List UInt8} (h : IsH w b m) : 2 ≤ b := by
  obtain ⟨st, bl, h1, h2, h3⟩ := h
  exact h3
theorem TabOk.at {w w' : World} {b : Nat} (h : TabOk w) (hf : Frm (isB b) w w') (hb : 2 ≤ b) : TabOk w' :=
  h.frm hf (fun h => by have h : 0 = b := h; omega) (fun h => by have h : 1 = b := h; omega)

/-- a whole row is stored -/
theorem run_storeRow {P : Program} {w : World} {g : Nat} {t : TypeId} {cur cs : Array Value} (h : Blk w g t cur) (hl : cs.size = cur.size) (h1 : ∀ v ∈ cs.toList, v.oneCell' = true) :
    ∃ w', (storeCells ⟨g, 0, none⟩ cs.toList).run P w = .ok () w' ∧ Blk w' g t cs ∧ Frm (isB g) w w' := by
  have e := run_storeCells_at P g 0 t cs.toList 0 cur w h (by simp [hl]) h1
  refine ⟨_, e, ?_, (Frm.refl _ _).setRow (.inl (show isB g g from rfl)) _⟩
  have := setRow_heap w g cur ((cur.toList.take (0 + 0) ++ cs.toList ++ cur.toList.drop (0 + 0 + cs.toList.length)).toArray) t (0, 0) h
  have e2 : cur.toList.drop (0 + 0 + cs.toList.length) = [] := List.drop_eq_nil_of_le (by simp [hl])
  unfold Blk
  rw [this, e2]
  simp
theorem one_arr {n : Nat} {f : Nat → Value} (h : ∀ i, i < n → (f i).oneCell' = true) : ∀ v ∈ (arr n f).toList, v.oneCell' = true := fun v hv => by
  simp only [arr, List.mem_map, List.mem_range] at hv
  obtain ⟨i, hi, rfl⟩ := hv
  exact h i hi
theorem one_hf (st : Nat → UInt32) (bl : Nat → UInt8) (used size : Int) (i : Nat) : (hf st bl used size i).oneCell' = true := by
  unfold hf
  split
  · rfl
  · split
    · rfl
    · split <;> rfl

theorem reset_blk {w : World} {b : Nat} {st : Nat → UInt32} {bl : Nat → UInt8} {used size : Int} {t : TypeId} (h : Blk w b t (arr 74 (hf st bl used size))) (g : Nat → UInt32) :
    Blk ((((((((((w.setCell ⟨b, 0, none⟩ (.int .u32 (u (g 0)))).setCell ⟨b, 1, none⟩ (.int .u32 (u (g 1)))).setCell ⟨b, 2, none⟩ (.int .u32 (u (g 2)))).setCell ⟨b, 3, none⟩ (.int .u32 (u (g 3)))).setCell ⟨b, 4, none⟩ (.int .u32 (u (g 4)))).setCell ⟨b, 5, none⟩ (.int .u32 (u (g 5)))).setCell ⟨b, 6, none⟩ (.int .u32 (u (g 6)))).setCell ⟨b, 7, none⟩ (.int .u32 (u (g 7)))).setCell ⟨b, 72, none⟩ (.int .i64 0)).setCell ⟨b, 73, none⟩ (.int .u64 0)) b t (arr 74 (hf g bl 0 0)) := by
  refine Blk.same ((((((((((h.put 0 _).put 1 _).put 2 _).put 3 _).put 4 _).put 5 _).put 6 _).put 7 _).put 72 _).put 73 _) fun i hi => ?_
  by_cases e : i < 8
  · match i, e with
    | 0, _ => rfl
    | 1, _ => rfl
    | 2, _ => rfl
    | 3, _ => rfl
    | 4, _ => rfl
    | 5, _ => rfl
    | 6, _ => rfl
    | 7, _ => rfl
  · by_cases e3 : i = 73
    · subst e3; rfl
    · by_cases e2 : i = 72
      · subst e2; rfl
      · rw [if_neg e3, if_neg e2, if_neg (by omega), if_neg (by omega), if_neg (by omega), if_neg (by omega), if_neg (by omega), if_neg (by omega), if_neg (by omega), if_neg (by omega)]
        unfold hf
        rw [if_neg e, if_neg e, if_pos (by omega), if_pos (by omega)]

set_option maxRecDepth 100000 in
set_option maxHeartbeats 1000000 in
theorem reset_any (w : World) (b : Nat) (st : Nat → UInt32) (bl : Nat → UInt8) (used size : Int) (hT : TabOk w) (hb : Blk w b 97 (arr 74 (hf st bl used size))) (h2 : 2 ≤ b) :
    Calls Tryd.prog 32 #[.pointer (some ⟨b, 0, none⟩)] w fun e w' => e = .returned (.tuple #[]) ∧ IsH w' b [] ∧ Frm (isB b) w w' := by
  have HB := Lib.hid hb
  have c0 := hT.h 0 (by decide)
  have c1 := hT.h 1 (by decide)
  have c2 := hT.h 2 (by decide)
  have c3 := hT.h 3 (by decide)
  have c4 := hT.h 4 (by decide)
  have c5 := hT.h 5 (by decide)
  have c6 := hT.h 6 (by decide)
  have c7 := hT.h 7 (by decide)
  have d0 := hb.at_ (i := 0) (by decide)
  have d1 := hb.at_ (i := 1) (by decide)
  have d2 := hb.at_ (i := 2) (by decide)
  have d3 := hb.at_ (i := 3) (by decide)
  have d4 := hb.at_ (i := 4) (by decide)
  have d5 := hb.at_ (i := 5) (by decide)
  have d6 := hb.at_ (i := 6) (by decide)
  have d7 := hb.at_ (i := 7) (by decide)
  have d72 := hb.at_ (i := 72) (by decide)
  have d73 := hb.at_ (i := 73) (by decide)
  have z0 := hb.frozen 0
  have z1 := hb.frozen 1
  have z2 := hb.frozen 2
  have z3 := hb.frozen 3
  have z4 := hb.frozen 4
  have z5 := hb.frozen 5
  have z6 := hb.frozen 6
  have z7 := hb.frozen 7
  have z72 := hb.frozen 72
  have z73 := hb.frozen 73
  clear hb hT
  go_enter Tryd.func32, Tryd.ntmps32
  go_wp2_with fail
  go_end0
  refine ⟨rfl, ⟨h0, bl, reset_blk HB.out h0, Took.nil fun _ _ => rfl, h2⟩, ?_⟩
  repeat (refine Frm.setCell ?_ (.inl (show isB b b from rfl)) _)
  exact Frm.refl _ _

set_option maxRecDepth 100000 in
set_option maxHeartbeats 1000000 in
theorem new_any (w : World) (hT : TabOk w) : Calls Tryd.prog 23 #[] w fun e w' => ∃ b, e = .returned (.pointer (some ⟨b, 0, none⟩)) ∧ w.heap.size ≤ b ∧ IsH w' b [] ∧ Frm noB w w' := by
  have HT := Lib.hid hT
  have hz := hT.size
  clear hT
  go_enter Tryd.func23, Tryd.ntmps23
  go_wp2_with fail
  have hb : Blk (w.alloc (.cells (arr 74 (hf (fun _ => 0) (fun _ => 0) 0 0)) 97)) w.heap.size 97 (arr 74 (hf (fun _ => 0) (fun _ => 0) 0 0)) := Blk.new _ _ _
  have hfr : Frm noB w (w.alloc (.cells (arr 74 (hf (fun _ => 0) (fun _ => 0) 0 0)) 97)) := (Frm.refl _ _).alloc _
  change Calls _ _ _ (w.alloc (.cells (arr 74 (hf (fun _ => 0) (fun _ => 0) 0 0)) 97)) _
  generalize w.alloc (.cells (arr 74 (hf (fun _ => 0) (fun _ => 0) 0 0)) 97) = w0 at *
  have HF := Lib.hid hfr
  refine (reset_any w0 w.heap.size _ _ _ _ (HT.out.frm' hfr) hb hz).mono ?_
  rintro _ w1 ⟨rfl, hI, hf1⟩
  have HI := Lib.hid hI
  have HF1 := Lib.hid hf1
  clear hI hf1 hb hfr
  try dsimp only
  go_wp2_with fail
  go_ret
  exact ⟨w.heap.size, rfl, Nat.le_refl _, HI.out, HF.out.trans HF1.out fun k hk h => by have h : k = w.heap.size := h; omega⟩

theorem len_any (w : World) (b : Nat) (m : List UInt8) (h : IsH w b m) : Calls Tryd.prog 27 #[.pointer (some ⟨b, 0, none⟩)] w fun e w' => e = .returned (.int .u64 m.length) ∧ w = w' := by
  obtain ⟨st, bl, hb, _, _⟩ := h
  have d73 : w.cell? ⟨b, 73, none⟩ = some (.int .u64 m.length) := hb.at_ (i := 73) (by decide)
  clear hb
  go_enter Tryd.func27, Tryd.ntmps27
  go_wp2
  go_ret
  exact ⟨rfl, rfl⟩

set_option maxRecDepth 100000 in
set_option maxHeartbeats 1000000 in
theorem copy_any (w : World) (b : Nat) (m : List UInt8) (h : IsH w b m) : Calls Tryd.prog 29 #[.pointer (some ⟨b, 0, none⟩)] w fun e w' => ∃ g, e = .returned (.pointer (some ⟨g, 0, none⟩)) ∧ w.heap.size ≤ g ∧ IsH w' g m ∧ Frm noB w w' := by
  obtain ⟨st, bl, hb, hm, h2⟩ := h
  have hlt := hb.lt
  have HB := Lib.hid hb
  clear hb
  obtain ⟨w2, hrun, hb2, hf2⟩ := run_storeRow (P := Tryd.prog) (w := w.alloc (.cells Tryd.zeroCells97 97)) (Blk.new _ _ _) (cs := arr 74 (hf st bl (m.length % 64) m.length)) (by rw [arr_size]; kernel_rfl) (one_arr fun i _ => one_hf _ _ _ _ i)
  have HB2 := Lib.hid hb2
  have HF2 := Lib.hid (((Frm.refl noB w).alloc (.cells Tryd.zeroCells97 97)).trans hf2 fun k hk h => by have h : k = w.heap.size := h; omega)
  clear hb2 hf2
  go_enter Tryd.func29, Tryd.ntmps29
  go_wp2_with (refine wpList_load_row rfl _ _ rfl b rfl 97 _ (0, 0) _ HB.out Tryd.underlying97 rfl (by rw [arr_size]; kernel_rfl) ?_)
  go_ret
  exact ⟨w.heap.size, rfl, Nat.le_refl _, ⟨st, bl, HB2.out, hm, by omega⟩, HF2.out⟩
end Go.Proofs.YtkhakddecmgejaaDoor
