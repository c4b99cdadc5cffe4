/-
  SpareRows and KeptRows: lists of bytes with marked room behind them, in a list with marked room behind it.
-/
import Derived.Test.YtjnoddbhfcpniaaSpare
import Derived.Test.YtjnoddbhfcpniaaArr0
namespace Go.Proofs.Ytjnoddbhfcpniaa
open Go.RowKit
set_option linter.unusedVariables false
set_option linter.unusedSimpArgs false

/-- what stands at a place of a block by SpareRows -/
def spv (gs : Nat → Nat) (xss : List (List UInt8)) (i : Nat) : Value :=
  if h : i < xss.length then .slice (some ⟨gs i, 0, none⟩) xss[i].length (xss[i].length + 80) else .slice (some ⟨gs i, 0, none⟩) 2 2
/-- block g holds k rows so far -/
structure SpPart (w : World) (base g : Nat) (gs : Nat → Nat) (xss : List (List UInt8)) (k : Nat) : Prop where
  blk : Blk w g 35 (arr (xss.length + 3) fun i => if i < k then spv gs xss i else .slice none 0 0)
  row : ∀ i (h : i < xss.length), i < k → Spared w (gs i) xss[i]
  mark : ∀ i, xss.length ≤ i → i < k → Blk w (gs i) 5 #[.int .u8 ((i : Int) % 256), .int .u8 119]
  ge : ∀ i, i < k → base ≤ gs i
  ne : ∀ i j, i < k → j < k → gs i = gs j → i = j
  geg : base ≤ g
/-- .. all of them -/
def SpRows (w : World) (base g : Nat) (gs : Nat → Nat) (xss : List (List UInt8)) : Prop := SpPart w base g gs xss (xss.length + 3)

section
variable {S : Nat → Prop} {w w1 : World} {base g b k : Nat} {gs : Nat → Nat} {xss : List (List UInt8)}
theorem Spared.tyne {g' : Nat} {cs : Array Value} {xs : List UInt8} (h : Spared w g xs) (h' : Blk w g' 35 cs) : g ≠ g' := by
  obtain ⟨cs', h1, _⟩ := h
  exact h1.ne_ h' (by decide)
theorem SpPart.lt (h : SpPart w base g gs xss k) {i : Nat} (hi : i < k) : gs i < w.heap.size := by
  by_cases e : i < xss.length
  · exact (h.row i e hi).lt
  · exact (h.mark i (by omega) hi).lt
theorem SpPart.neg (h : SpPart w base g gs xss k) {i : Nat} (hi : i < k) : gs i ≠ g := by
  by_cases e : i < xss.length
  · exact (h.row i e hi).tyne h.blk
  · exact (h.mark i (by omega) hi).ne_ h.blk (by decide)
theorem SpPart.frm (h : SpPart w base g gs xss k) (hf : Frm S w w1) (hS : ∀ q, base ≤ q → q < w.heap.size → ¬ S q) : SpPart w1 base g gs xss k :=
  ⟨h.blk.frm hf (hS g h.geg h.blk.lt), fun i hi hk => (h.row i hi hk).frm hf (hS _ (h.ge i hk) (h.lt hk)), fun i hi hk => (h.mark i hi hk).frm hf (hS _ (h.ge i hk) (h.lt hk)), h.ge, h.ne, h.geg⟩
theorem SpPart.frm' (h : SpPart w base g gs xss k) (hf : Frm noB w w1) : SpPart w1 base g gs xss k := h.frm hf fun _ _ _ h => h
theorem SpPart.next (h : SpPart w base g gs xss k) (hk : k < xss.length + 3) : w.cell? ⟨g, k, none⟩ = some (.slice none 0 0) := by
  rw [h.blk.at_ hk, if_neg (by omega)]
/-- one row more -/
theorem SpPart.step (h : SpPart w base g gs xss k) (hk : k < xss.length + 3) (hf : Frm noB w w1) (hb : w.heap.size ≤ b)
    (hrow : ∀ h : k < xss.length, Spared w1 b xss[k]) (hmark : xss.length ≤ k → Blk w1 b 5 #[.int .u8 ((k : Int) % 256), .int .u8 119]) :
    SpPart (w1.setCell ⟨g, k, none⟩ (spv (fun i => if i = k then b else gs i) xss k)) base g (fun i => if i = k then b else gs i) xss (k + 1) := by
  have hg1 := h.blk.frm' hf
  have hglt := h.blk.lt
  have hs : Frm (fun q => q = g) w1 (w1.setCell ⟨g, k, none⟩ (spv (fun i => if i = k then b else gs i) xss k)) := Frm.setCell (S := fun q => q = g) (Frm.refl _ _) (.inl rfl) _
  have hbase : base ≤ b := by have := h.geg; omega
  have old : ∀ i, i < k → (fun i => if i = k then b else gs i) i = gs i := fun i hi => if_neg (by omega)
  refine ⟨?_, fun i hi hk' => ?_, fun i hi hk' => ?_, fun i hk' => ?_, fun i j hi hj e => ?_, h.geg⟩
  · refine (hg1.put k _).same fun i hi => ?_
    by_cases e : i = k
    · subst e; rw [if_pos rfl, if_pos (by omega)]
    · rw [if_neg e]
      by_cases e' : i < k
      · rw [if_pos e', if_pos (by omega)]
        unfold spv
        simp only [if_neg e]
      · rw [if_neg e', if_neg (by omega)]
  · by_cases e : i = k
    · subst e
      simp only [if_true]
      exact (hrow hi).frm hs ((hrow hi).tyne hg1)
    · rw [if_neg e]
      have := (h.row i hi (by omega)).frm' hf
      exact this.frm hs (this.tyne hg1)
  · by_cases e : i = k
    · subst e
      simp only [if_true]
      exact (hmark hi).frm hs ((hmark hi).ne_ hg1 (by decide))
    · rw [if_neg e]
      have := (h.mark i hi (by omega)).frm' hf
      exact this.frm hs (this.ne_ hg1 (by decide))
  · by_cases e : i = k
    · subst e; simp only [if_true]; exact hbase
    · rw [if_neg e]; exact h.ge i (by omega)
  · by_cases ei : i = k
    · by_cases ej : j = k
      · omega
      · have := h.lt (i := j) (by omega)
        simp only [if_pos ei, if_neg ej] at e
        omega
    · by_cases ej : j = k
      · have := h.lt (i := i) (by omega)
        simp only [if_neg ei, if_pos ej] at e
        omega
      · simp only [if_neg ei, if_neg ej] at e
        exact h.ne i j (by omega) (by omega) e
theorem spv_row (gs : Nat → Nat) {i : Nat} (h : i < xss.length) : spv gs xss i = .slice (some ⟨gs i, 0, none⟩) xss[i].length (xss[i].length + 80) := dif_pos h
theorem spv_mark (gs : Nat → Nat) {i : Nat} (h : xss.length ≤ i) : spv gs xss i = .slice (some ⟨gs i, 0, none⟩) 2 2 := dif_neg (by omega)
theorem SpRows.frm (h : SpRows w base g gs xss) (hf : Frm S w w1) (hS : ∀ q, base ≤ q → q < w.heap.size → ¬ S q) : SpRows w1 base g gs xss := SpPart.frm h hf hS
theorem SpRows.frm' (h : SpRows w base g gs xss) (hf : Frm noB w w1) : SpRows w1 base g gs xss := SpPart.frm' h hf
theorem SpRows.cell (h : SpRows w base g gs xss) {i : Nat} (hi : i < xss.length + 3) : w.cell? ⟨g, i, none⟩ = some (spv gs xss i) := by
  rw [h.blk.at_ hi, if_pos hi]
theorem SpRows.rd (h : SpRows w base g gs xss) : RdRows w (some ⟨g, 0, none⟩) xss (fun k => base ≤ k ∧ k < w.heap.size) := by
  refine ⟨(List.range xss.length).map (spv gs xss), fun i hi => ?_, by simp, fun i hi hi' => ?_, fun _ k hk => ?_⟩
  · simp only [List.length_map, List.length_range] at hi
    exact ⟨g, 0, rfl, by rw [Nat.zero_add, h.cell (by omega)]; simp⟩
  · refine ⟨some ⟨gs i, 0, none⟩, xss[i].length + 80, by simp [spv_row gs hi], by omega, (h.row i hi (by omega)).rd, fun _ k hk => ?_⟩
    obtain ⟨a, e, rfl⟩ := hk
    injection e with e
    subst e
    exact ⟨h.ge i (by omega), h.lt (by omega)⟩
  · obtain ⟨a, e, rfl⟩ := hk
    injection e with e
    subst e
    exact ⟨h.geg, h.blk.lt⟩
/-- a byte of a row is written over -/
theorem SpRows.put (h : SpRows w base g gs xss) {i j : Nat} (hi : i < xss.length) (hj : j < xss[i].length) {n : Int} {x : UInt8} (hx : bv x = .int .u8 n) :
    SpRows (w.setCell ⟨gs i, j, none⟩ (.int .u8 n)) base g gs (xss.set i (xss[i].set j x)) ∧ Frm (fun k => base ≤ k) w (w.setCell ⟨gs i, j, none⟩ (.int .u8 n)) := by
  have hs : Frm (fun q => q = gs i) w (w.setCell ⟨gs i, j, none⟩ (.int .u8 n)) := Frm.setCell (S := fun q => q = gs i) (Frm.refl _ _) (.inl rfl) _
  have hlen : (xss.set i (xss[i].set j x)).length = xss.length := by simp
  refine ⟨⟨?_, fun q hq hk' => ?_, fun q hq hk' => ?_, fun q hk' => h.ge q (by rwa [hlen] at hk'), fun q r hq hr e => h.ne q r (by rwa [hlen] at hq) (by rwa [hlen] at hr) e, h.geg⟩, hs.mono fun k _ e => by subst e; exact h.ge i (by omega)⟩
  · have hb := h.blk.frm hs fun e => h.neg (i := i) (by omega) e.symm
    rw [hlen]
    refine hb.same fun q hq => ?_
    rw [if_pos hq, if_pos hq]
    unfold spv
    by_cases e : q < xss.length
    · rw [dif_pos e, dif_pos (by simpa using e)]
      by_cases e2 : i = q
      · subst e2; simp
      · simp [e2]
    · rw [dif_neg e, dif_neg (by simpa using e)]
  · rw [hlen] at hq hk'
    by_cases e2 : i = q
    · subst e2
      obtain ⟨cs, h1, h2, h3, h4⟩ := h.row i hi hk'
      have el : (xss.set i (xss[i].set j x))[i] = xss[i].set j x := by simp
      rw [el]
      refine ⟨_, h1.set_ j (.int .u8 n), by simpa using h2, fun r hr => ?_, fun r hr hr' => ?_⟩
      · rw [Array.getElem?_setIfInBounds]
        by_cases e : j = r
        · subst e
          rw [if_pos rfl, if_pos (by omega)]
          simp [hx]
        · rw [if_neg e, h3 r (by simpa using hr)]
          simp [e]
      · simp only [List.length_set] at hr hr'
        rw [Array.getElem?_setIfInBounds, if_neg (by omega)]
        exact h4 r hr hr'
    · have el : (xss.set i (xss[i].set j x))[q]'(by simpa using hq) = xss[q] := by simp [e2]
      rw [el]
      exact (h.row q hq hk').frm hs fun e => e2 (h.ne q i hk' (by omega) e).symm
  · rw [hlen] at hq hk'
    exact (h.mark q hq hk').frm hs fun e => by have := h.ne q i hk' (by omega) e; omega
end

set_option maxHeartbeats 1000000 in
theorem spareRows_any (A : Option Addr) (xss : List (List UInt8)) (c : Nat) (w : World) {N : Nat → Prop} (hx : RdRows w A xss N) (h1 : xss.length ≤ 2000000) (h2 : ∀ l ∈ xss, l.length ≤ 4000000) :
    Calls Try.prog 45 #[.slice A xss.length c] w fun e w' => ∃ g gs, e = .returned (.slice (some ⟨g, 0, none⟩) xss.length (xss.length + 3)) ∧ SpRows w' w.heap.size g gs xss ∧ Frm noB w w' := by
  have HX := Lib.hid hx
  have H2 := Lib.hid h2
  clear hx h2
  go_enter Try.func45, Try.ntmps45
  go_wp2_with (at_make; refine mkN info37 rfl rfl _ _ rfl w.heap.size (xss.length + 3) rfl rfl (by go_num) (by go_num) (by omega) (by omega) (Nat.le_refl _) ?_; intro w1 hown1 hf1)
  have h0 : SpPart w1 w.heap.size w.heap.size (fun _ => 0) xss 0 := ⟨by
      have := own_blk hown1
      rw [arr_replicate] at this
      exact this.same fun i _ => by rw [if_neg (by omega)], fun i _ h => absurd h (by omega), fun i _ h => absurd h (by omega), fun i h => absurd h (by omega), fun i j h => absurd h (by omega), Nat.le_refl _⟩
  have H0 := Lib.hid h0
  have HF1 := Lib.hid hf1
  clear h0 hf1 hown1
  go_loopw [4] (fun i wr => ∃ (k : Nat) (gs : Nat → Nat), k ≤ xss.length + 3 ∧ i = .int .i64 k ∧ SpPart wr w.heap.size w.heap.size gs xss k ∧ Frm noB w wr) (fun i _ => xss.length + 3 - (intOf i).toNat)
  case atStart => exact ⟨0, _, by omega, rfl, H0.out, HF1.out⟩
  case round =>
    obtain ⟨k, gs, hk, rfl, hP, hF⟩ := hrel
    have HP := Lib.hid hP
    have HF := Lib.hid hF
    clear hP hF
    by_cases hlt : k < xss.length + 3
    · by_cases hl : k < xss.length
      · obtain ⟨b, o, Ai, ci, rfl, hc, _, hri, _, _⟩ := (HX.out.frm' HF.out).at hl
        have HR := Lib.hid hri
        clear hri
        go_wp2_with fail
        refine (spare_any Ai xss[k] ci wr HR.out (H2.out _ (List.getElem_mem hl))).mono ?_
        rintro e w2 ⟨b2, rfl, hb2, hS2, hf2⟩
        have HS2 := Lib.hid hS2
        have HF2 := Lib.hid hf2
        have cn := (HP.out.frm' hf2).next hlt
        have fz := (HP.out.frm' hf2).blk.frozen k
        clear hS2 hf2 hc
        try dsimp only
        go_wp2_with fail
        have := HP.out.step hlt HF2.out hb2 (fun _ => HS2.out) (fun h => absurd h (by omega))
        rw [spv_row _ hl] at this
        simp only [if_true] at this
        exact ⟨⟨k + 1, _, by omega, by go_num, this, (HF.out.trans' HF2.out).setCell (.inr (Nat.le_refl _)) _⟩, by simp [intOf]; omega⟩
      · have hP1 := HP.out.frm' ((Frm.refl noB wr).alloc (.cells #[.int .u8 ((k : Int) % 256), .int .u8 119] 5))
        have cn := hP1.next hlt
        have fz := hP1.blk.frozen k
        clear hP1
        go_wp2_with fail
        have := HP.out.step hlt ((Frm.refl noB wr).alloc (.cells #[.int .u8 ((k : Int) % 256), .int .u8 119] 5)) (Nat.le_refl _) (fun h => absurd h hl) (fun _ => Blk.new _ _ _)
        rw [spv_mark _ (by omega)] at this
        simp only [if_true] at this
        exact ⟨⟨k + 1, _, by omega, by go_num, this, (HF.out.alloc _).setCell (.inr (Nat.le_refl _)) _⟩, by simp [intOf]; omega⟩
    · have e : k = xss.length + 3 := by omega
      subst e
      go_wp2_with fail
      go_ret
      exact ⟨_, gs, rfl, HP.out, HF.out⟩

set_option maxHeartbeats 1000000 in
theorem keptRows_any (g : Nat) (gs : Nat → Nat) (base : Nat) (B : Option Addr) (xss : List (List UInt8)) (d : Nat) (w : World) {N : Nat → Prop} (hg : SpRows w base g gs xss) (hx : RdRows w B xss N) (h1 : xss.length ≤ 2000000) (h2 : ∀ l ∈ xss, l.length ≤ 4000000) :
    Calls Try.prog 47 #[.slice (some ⟨g, 0, none⟩) xss.length (xss.length + 3), .slice B xss.length d] w fun e w' => e = .returned (.bool true) ∧ ∃ n, w' = w.drewN n := by
  have HG := Lib.hid hg
  have HX := Lib.hid hx
  have H2 := Lib.hid h2
  clear hg hx h2
  go_enter Try.func47, Try.ntmps47
  go_wp2_with fail
  go_loopw [5] (fun i wr => ∃ k n : Nat, k ≤ xss.length ∧ i = .int .i64 k ∧ wr = w.drewN n) (fun i _ => xss.length - (intOf i).toNat)
  case atStart => exact ⟨0, 0, by omega, rfl, rfl⟩
  case round =>
    obtain ⟨k, n, hk, rfl, hw0⟩ := hrel
    have HGw : Hid (SpRows wr base g gs xss) := Lib.hid (hw0 ▸ HG.out.frm' (Frm.of_drewN _ _ n))
    have HXw : Hid (RdRows wr B xss N) := Lib.hid (hw0 ▸ HX.out.drewN n)
    have HW := Lib.hid hw0
    clear hw0
    by_cases hlt : k < xss.length
    · obtain ⟨b, o, Ai, ci, rfl, hc, _, hri, _, _⟩ := HXw.out.at hlt
      have hr := HGw.out.cell (i := k) (by omega)
      rw [spv_row gs hlt] at hr
      have HR := Lib.hid hri
      have HS := Lib.hid (HGw.out.row k hlt (by omega))
      clear hri
      go_wp2_with fail
      go_quiet ((go_at_call 25; refine Calls.quiet_of (kept_q (gs k) Ai xss[k] ci _ (HS.out.frm' (Frm.of_drewN _ _ _)) (HR.out.drewN _) (H2.out _ (List.getElem_mem hlt)))))
      go_wp2_with fail
      exact ⟨⟨k + 1, n + nq, by omega, by go_num, by rw [HW.out]; simp⟩, by simp [intOf]; omega⟩
    · have e : k = xss.length := by omega
      subst e
      go_wp2_with fail
      go_loopw [7] (fun i wr => ∃ k n : Nat, xss.length ≤ k ∧ k ≤ xss.length + 3 ∧ i = .int .i64 k ∧ wr = w.drewN n) (fun i _ => xss.length + 3 - (intOf i).toNat)
      case atStart => exact ⟨xss.length, n, Nat.le_refl _, by omega, rfl, HW.out⟩
      case round =>
        obtain ⟨k, n, hk0, hk, rfl, rfl⟩ := hrel
        by_cases hlt : k < xss.length + 3
        · have hr := HG.out.cell hlt
          rw [spv_mark gs hk0] at hr
          have hr' : (w.drewN n).cell? ⟨g, k, none⟩ = some (.slice (some ⟨gs k, 0, none⟩) 2 2) := hr
          have m0 : (w.drewN n).cell? ⟨gs k, 0, none⟩ = some (.int .u8 ((k : Int) % 256)) := (HG.out.mark k hk0 hlt).cell 0
          have m1 : (w.drewN n).cell? ⟨gs k, 1, none⟩ = some (.int .u8 119) := (HG.out.mark k hk0 hlt).cell 1
          have hne : (((k : Int) % 256) != ((k : Int) % 256)) = false := by simp
          clear hr
          go_wp2_with fail
          exact ⟨⟨k + 1, n, by omega, by omega, by go_num, rfl⟩, by simp [intOf]; omega⟩
        · go_wp2_with fail
          go_ret
          exact ⟨rfl, _, rfl⟩
end Go.Proofs.Ytjnoddbhfcpniaa
