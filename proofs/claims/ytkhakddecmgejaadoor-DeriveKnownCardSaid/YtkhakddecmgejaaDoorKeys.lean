/-
  derive.Keys; trystlaw04.same.
-/
import Derived.Test.YtkhakddecmgejaaDoorKeyRef
import Derived.Test.YtkhakddecmgejaaDoorLawPieces
namespace Go.Proofs.YtkhakddecmgejaaDoor
open Go.RowKit
set_option linter.unusedVariables false
set_option linter.unusedSimpArgs false

theorem made_keys (n : Nat) : madeCells zK.cells (n * 32) = arr (32 * n) fun _ => bv 0 := by
  have hz : zK.cells = arr 32 fun _ => bv 0 := rfl
  apply Array.ext_getElem?
  intro i
  by_cases hi : i < 32 * n
  · rw [arr_at hi]
    unfold madeCells
    rw [hz, arr_size]
    have h1 : i % 32 < 32 := Nat.mod_lt _ (by decide)
    have h2 := arr_at (n := 32) (f := fun _ => bv 0) h1
    rw [Array.getElem?_map, Array.getElem?_range, if_pos (by omega)]
    simp only [Option.map_some, Option.some.injEq]
    rw [getElem!_def, h2]
  · rw [Array.getElem?_eq_none (by rw [size_madeCells]; omega), Array.getElem?_eq_none (by rw [arr_size]; omega)]

set_option maxRecDepth 100000 in
/-- make([]api.Key, n) -/
theorem mkKeys {ops : Array Oper} {rest : List Oper} {o : Oper} {a : Act} {Q : Exit → Act → World → Prop} {w : World} (hg : o.guard = none) (l c : Operand) (hop : o.op = Op.makeSlice 82 l c)
    {kl kc : IntKind} {L C : Int} (n : Nat) (hl : a.eval l = .int kl L) (hc : a.eval c = .int kc C) (hL : L = (n : Int)) (hC : C = (n : Int)) (hn : n ≤ 255)
    (h : ∀ w', Blk w' w.heap.size 87 (arr (32 * n) fun _ => bv 0) → Frm noB w w' → wpList Tryd.prog ops Q rest (a.put o.dst (.slice (some ⟨w.heap.size, 0, none⟩) n n)) w') : wpList Tryd.prog ops Q (o :: rest) a w := by
  obtain ⟨i, hi, hz, hsz, hby⟩ := info82.hi
  refine wpList_make_full w hg l c _ hop w.heap.size _ i zK 32 info82.ht hi hz hsz kl kc L C n hl hc hL hC (by rw [hby]; omega) (by unfold maxLen; omega) (Nat.le_refl _) fun w' h1 h2 => h w' ?_ ((Frm.refl _ _).grown h2 fun k hk => by cases hk)
  rcases h1.2 with ⟨e, _⟩ | ⟨g, cap, cur, e, _, hb, _, _, hs, ht⟩
  · cases e
  · injection e with e1 e2 e3
    injection e1 with e1
    injection e1 with e1
    subst e1; subst e3
    rw [List.take_of_length_le (by simp [hs])] at ht
    have hcur : cur = madeCells zK.cells (n * 32) := Array.ext' ht
    rw [← made_keys, ← hcur]
    exact hb
theorem key_row {w : World} {base g n : Nat} {xs : List UInt8} (h : Blk w g 87 (arr (32 * n) fun q => bv (xs.getD q 0))) (hb : base ≤ g) (hn : n ≤ 255) (hl : xs.length = 32 * n) : w.ownsRow base 87 32 (.slice (some ⟨g, 0, none⟩) n n) n (xs.map bv) := by
  have e : (arr (32 * n) fun q => bv (xs.getD q 0)).toList = xs.map bv := by
    unfold arr
    apply List.ext_getElem
    · simp [hl]
    · intro i h1 h2
      have hi : i < xs.length := by simpa using h2
      simp [List.getD, hi]
  refine ⟨by simp [hl]; omega, .inr ⟨g, n, _, rfl, hb, h, Nat.le_refl _, by unfold maxLen; omega, by rw [arr_size]; omega, ?_⟩⟩
  rw [e, List.take_of_length_le (by simp [hl]; omega)]

set_option maxRecDepth 100000 in
set_option maxHeartbeats 1000000 in
theorem dkeys_good (w : World) (A B C : Option Addr) (salt secret info : List UInt8) (ca cb cc : Nat) (n : Nat) (hn : n ≤ 255) (mp : List UInt8) (hmp : macT salt secret = mp) (hT : TabOk w) (hx : Rd w A (salt.map bv)) (hy : Rd w B (secret.map bv)) (hz : Rd w C (info.map bv)) (hca : salt.length ≤ ca) (hcb : secret.length ≤ cb) (hcc : info.length ≤ cc) (h1 : salt.length ≤ 900000000) (h2 : secret.length ≤ 900000000) (h3 : info.length ≤ 900000000) :
    Calls Tryd.prog 56 #[.slice A salt.length ca, .slice B secret.length cb, .slice C info.length cc, .int .i64 n] w (Keyed w n (expL (sha mp) info (32 * n)) fun v => .returned (.tuple #[v, .int .i64 0])) := by
  have HT := Lib.hid hT
  have HX := Lib.hid hx
  have HY := Lib.hid hy
  have HZ := Lib.hid hz
  obtain ⟨xs, hxs⟩ : ∃ xs, xs = expL (sha mp) info (32 * n) := ⟨_, rfl⟩
  have hxl : xs.length = 32 * n := by rw [hxs, expL_length]
  have HXS := Lib.hid hxs
  rw [← hxs]
  have HXL := Lib.hid hxl
  have HMP := Lib.hid hmp
  clear hx hy hz hmp hxs hxl hT
  go_enter Tryd.func56, Tryd.ntmps56
  go_wp2_with fail
  have hS := derive_any w A B C salt secret info ca cb cc ((32 * n : Nat) : Int) mp HMP.out HT.out HX.out HY.out HZ.out hca hcb hcc h1 h2 h3
  rw [expW_nat _ _ (by omega), wrong_nat (by omega), ← HXS.out, show ((32 * n : Nat) : Int) = (n : Int) * 32 by omega] at hS
  refine hS.mono ?_
  clear hS
  rintro _ w1 ⟨A1, c1, rfl, ho, hf⟩
  have HR := Lib.hid ho
  have HF1 := Lib.hid hf
  have hs1 := hf.size
  rw [HXL.out]
  have hc1 : 32 * n ≤ c1 := by obtain ⟨_, _, e, h⟩ := own_slice ho; injection e with _ _ e3; rw [HXL.out] at h; omega
  clear ho hf
  try dsimp only
  go_wp2_with (at_make; refine mkKeys rfl _ _ rfl n rfl rfl rfl rfl hn ?_; intro w2 hb2 hf2; have HB2 := Lib.hid hb2; have HF2 := Lib.hid hf2; clear hb2 hf2)
  go_loopw [34] (fun i wr => ∃ k : Nat, k ≤ n ∧ i = .int .i64 k ∧ Blk wr w1.heap.size 87 (arr (32 * n) fun q => if q < 32 * k then bv (xs.getD q 0) else bv 0) ∧ Frm noB w1 wr) (fun i _ => n - (intOf i).toNat)
  case atStart => exact ⟨0, Nat.zero_le _, rfl, HB2.out.same fun i _ => by rw [if_neg (by omega)], HF2.out⟩
  case round =>
    clear HB2 HF2
    obtain ⟨k, hk, rfl, hB, hF⟩ := hrel
    have HB := Lib.hid hB
    have HF := Lib.hid hF
    clear hB hF
    by_cases hlt : k < n
    · obtain ⟨g1, u, hA1, _⟩ : ∃ g1 : Nat, ∃ u : Unit, A1 = some ⟨g1, 0, none⟩ ∧ True := by
        rcases HR.out.2 with ⟨_, h0⟩ | ⟨g, cap, cur, e, _⟩
        · have := HXL.out; omega
        · injection e with e
          exact ⟨g, (), e, trivial⟩
      subst hA1
      have hrd : Rd w1 (some ⟨g1, 0, none⟩) (xs.map bv) := Rd.of_own HR.out
      have hcl : Rd w1 (some ⟨g1, 32 * k, none⟩) ((keyL xs k).map bv) := by
        have h := (hrd.dropB (32 * k)).takeB 32
        rw [Nat.zero_add] at h
        exact h
      have HCL := Lib.hid hcl
      have hkl : (keyL xs k).length = 32 := keyL_length (by rw [HXL.out]; omega)
      have HKL := Lib.hid hkl
      clear hrd hcl hkl
      have k1 : ¬ (n : Int) ≤ k := by omega
      have k2 : (k : Int) < n := by omega
      have k0 : (0 : Int) ≤ k := by omega
      go_upto_region 12 with fail
      have HBd := Lib.hid (HB.out.frm' (Frm.refl noB wr).drew)
      have HFd := Lib.hid (HF.out.trans' (Frm.refl noB wr).drew)
      refine wp_region_held_drew (S := fun _ => True) (by kernel_rfl) trivial (fun hHeld => ?_)
      have hh : True := trivial
      have w1_ : IntKind.i64.wrap ((k : Int) * 32) = k * 32 := IntWalk.i64_in _ (by omega)
      have w2_ : (0 : Int) ≤ (k : Int) * 32 := by omega
      have w3_ : (k : Int) * 32 ≤ 32 * (n : Int) := by omega
      have w4_ : ((k : Int) * 32).toNat = k * 32 := by omega
      have w5_ : ¬ c1 = k * 32 := by omega
      generalize wr.drew = w3 at *
      refine takeC (i := 0) (.slice (some ⟨w1.heap.size, 0, none⟩) n n) rfl (by kernel_rfl) (by kernel_rfl) (by kernel_rfl) (fun _ _ _ h => h) (Or.inl ⟨by rfl, fun w hw => by go_simp⟩) hh ?_
      try simp only [Act.put, List.setIfInBounds_toArray, List.set_cons_zero, List.set_cons_succ]
      refine takeC (i := 1) (.int .i64 k) rfl (by kernel_rfl) (by kernel_rfl) (by kernel_rfl) (fun _ _ _ h => h) (Or.inl ⟨by rfl, fun w hw => by go_simp⟩) hh ?_
      try simp only [Act.put, List.setIfInBounds_toArray, List.set_cons_zero, List.set_cons_succ]
      refine takeC (i := 2) (.pointer (some ⟨w1.heap.size, k * 32, none⟩)) rfl (by kernel_rfl) (by kernel_rfl) (by kernel_rfl) (fun _ _ _ h => h) (Or.inl ⟨by rfl, fun w hw => by go_simp⟩) hh ?_
      try simp only [Act.put, List.setIfInBounds_toArray, List.set_cons_zero, List.set_cons_succ]
      refine takeC (i := 3) (.slice (some ⟨w1.heap.size, k * 32, none⟩) 32 32) rfl (by kernel_rfl) (by kernel_rfl) (by kernel_rfl) (fun _ _ _ h => h) (Or.inl ⟨by rfl, fun w hw => by go_simp⟩) hh ?_
      try simp only [Act.put, List.setIfInBounds_toArray, List.set_cons_zero, List.set_cons_succ]
      refine takeC (i := 4) (.slice (some ⟨g1, 0, none⟩) (32 * n) c1) rfl (by kernel_rfl) (by kernel_rfl) (by kernel_rfl) (fun _ _ _ h => h) (Or.inl ⟨by rfl, fun w hw => by go_simp⟩) hh ?_
      try simp only [Act.put, List.setIfInBounds_toArray, List.set_cons_zero, List.set_cons_succ]
      refine takeC (i := 5) (.int .i64 k) rfl (by kernel_rfl) (by kernel_rfl) (by kernel_rfl) (fun _ _ _ h => h) (Or.inl ⟨by rfl, fun w hw => by go_simp⟩) hh ?_
      try simp only [Act.put, List.setIfInBounds_toArray, List.set_cons_zero, List.set_cons_succ]
      refine takeC (i := 6) (.int .i64 (k * 32)) rfl (by kernel_rfl) (by kernel_rfl) (by kernel_rfl) (fun _ _ _ h => h) (Or.inl ⟨by rfl, fun w hw => by go_simp⟩) hh ?_
      try simp only [Act.put, List.setIfInBounds_toArray, List.set_cons_zero, List.set_cons_succ]
      refine takeC (i := 7) (.slice (some ⟨g1, k * 32, none⟩) (32 * n - k * 32) (c1 - k * 32)) rfl (by kernel_rfl) (by kernel_rfl) (by kernel_rfl) (fun _ _ _ h => h) (Or.inl ⟨by rfl, fun w hw => by go_simp⟩) hh ?_
      try simp only [Act.put, List.setIfInBounds_toArray, List.set_cons_zero, List.set_cons_succ]
      refine consC (i := 8) rfl (by kernel_rfl) (fun K hK => ?_)
      rw [if_pos (by rfl)]
      refine wp_copyAt (.tmp 40) (.tmp 44) rfl Tryd.underlying29 (by kernel_rfl) rfl rfl (cs := (keyL xs k).map bv) (by rw [List.length_map, HKL.out]; show 32 = min (32 * n - k * 32) 32; omega) (by rw [Nat.mul_comm k 32]; exact HCL.out.frm' HFd.out) (by rw [List.length_map, HKL.out]; omega) (bv_one _) HBd.out (by rw [List.length_map, HKL.out]; omega) ?_
      intro w4 hb4 hf4
      have HB4 : Hid (Blk w4 w1.heap.size 87 (arr (32 * n) fun q => if q < 32 * (k + 1) then bv (xs.getD q 0) else bv 0)) := Lib.hid (hb4.same fun i hi => by
        rw [List.length_map, HKL.out]
        by_cases e : k * 32 ≤ i ∧ i < k * 32 + 32
        · rw [if_pos e, if_pos (by omega), getD_bv _ (by rw [HKL.out]; omega)]
          unfold keyL
          simp only [List.getD_eq_getElem?_getD, List.getElem?_take, List.getElem?_drop]
          rw [if_pos (by omega), show 32 * k + (i - k * 32) = i by omega]
        · rw [if_neg e]
          by_cases e2 : i < 32 * k
          · rw [if_pos e2, if_pos (by omega)]
          · rw [if_neg e2, if_neg (by omega)])
      have HF4 : Hid (Frm noB w1 w4) := Lib.hid (HFd.out.trans hf4 fun q hq h => by have h : q = w1.heap.size := h; omega)
      clear hb4 hf4 w1_ w2_ w3_ w4_ w5_
      refine hK.out _ _ trivial (fun hHeld => ?_)
      clear hK K
      try simp only [Act.put, List.setIfInBounds_toArray, List.set_cons_zero, List.set_cons_succ]
      refine wpAnyH_done (by kernel_rfl) ?_ _
      go_wp2_with fail
      exact ⟨⟨k + 1, by omega, by go_num, HB4.out, HF4.out⟩, by simp [intOf]; omega⟩
    · have e : k = n := by omega
      subst e
      have HK := Lib.hid (key_row (base := w.heap.size) (HB.out.same fun i hi => if_pos hi) hs1 hn HXL.out)
      clear HB
      go_wp2_with fail
      go_ret2
      exact ⟨_, _, rfl, HK.out, HF1.out.trans' HF.out⟩

set_option maxRecDepth 100000 in
theorem dkeys_bad (w : World) (A B C : Option Addr) (la lb lc ca cb cc : Nat) (n : Int) (h : wrongI n 255 ≠ 0) :
    Calls Tryd.prog 56 #[.slice A la ca, .slice B lb cb, .slice C lc cc, .int .i64 n] w fun e w' => e = .returned (.tuple #[.slice none 0 0, .int .i64 (wrongI n 255)]) ∧ Frm noB w w' := by
  by_cases h1 : n < 0
  · have h2 : wrongI n 255 = 2 := if_pos h1
    rw [h2]
    clear h h2
    go_enter Tryd.func56, Tryd.ntmps56
    go_wp2_with fail
    go_ret2
    exact ⟨rfl, Frm.refl _ _⟩
  · by_cases h3 : 255 < n
    · have h2 : wrongI n 255 = 3 := by unfold wrongI; rw [if_neg h1, if_pos h3]
      rw [h2]
      clear h h2
      go_enter Tryd.func56, Tryd.ntmps56
      go_wp2_with fail
      go_ret2
      exact ⟨rfl, Frm.refl _ _⟩
    · exact absurd (by unfold wrongI; rw [if_neg h1, if_neg h3]) h
theorem dkeys_any (w : World) (A B C : Option Addr) (salt secret info : List UInt8) (ca cb cc : Nat) (n : Int) (mp : List UInt8) (hmp : macT salt secret = mp) (hT : TabOk w) (hx : Rd w A (salt.map bv)) (hy : Rd w B (secret.map bv)) (hz : Rd w C (info.map bv)) (hca : salt.length ≤ ca) (hcb : secret.length ≤ cb) (hcc : info.length ≤ cc) (h1 : salt.length ≤ 900000000) (h2 : secret.length ≤ 900000000) (h3 : info.length ≤ 900000000) :
    Calls Tryd.prog 56 #[.slice A salt.length ca, .slice B secret.length cb, .slice C info.length cc, .int .i64 n] w (Keyed w (kN n) (kB (sha mp) info n) fun v => .returned (.tuple #[v, .int .i64 (wrongI n 255)])) := by
  by_cases h : wrongI n 255 = 0
  · obtain ⟨m, rfl, hm⟩ := good_key h
    rw [kN_nat hm, kB_nat _ _ hm, h]
    exact dkeys_good w A B C salt secret info ca cb cc m hm mp hmp hT hx hy hz hca hcb hcc h1 h2 h3
  · rw [kN_bad h, kB_bad _ _ h]
    exact (dkeys_bad w A B C _ _ _ ca cb cc n h).mono fun e w' ⟨he, hf⟩ => ⟨none, 0, he, World.ownsRow_nil _ _ _ _, hf⟩

/-- two equal keys, compared -/
theorem eq_key (w : World) (l : List UInt8) (h : l.length = 32) : (Op.equalIn 10000 87 (.agg (l.map bv).toArray) (.agg (l.map bv).toArray)).run Tryd.prog w = .ok true w := by
  have e : bv = Extern.Stop.cell := funext fun x => rfl
  rw [e, run_equalIn_bytes w 9998 87 5 32 Tryd.underlying87 Tryd.underlying5 sizeOf_u8 _ _ h h]
  simp
/-- a key of a row, as a stretch of its block -/
theorem key_range {w : World} {base m c k : Nat} {A : Option Addr} {xs : List UInt8} (h : w.ownsRow base 87 32 (.slice A m c) m (xs.map bv)) (hk : k < m) : ∃ g, A = some ⟨g, 0, none⟩ ∧ w.rangeAt g (k * 32) ((keyL xs k).map bv) ∧ oB (.slice A m c) g := by
  have hl : xs.length = m * 32 := by have := h.1; simpa using this
  rcases h.2 with ⟨_, h0⟩ | ⟨g, cap, cur, e, _⟩
  · omega
  · have e' := e
    injection e with e1 e2 e3
    subst e1
    refine ⟨g, rfl, fun j v hv => ?_, rfl⟩
    obtain ⟨hj, rfl⟩ := List.getElem?_eq_some_iff.1 hv
    have hj32 : j < 32 := by rw [List.length_map, keyL_length (by omega)] at hj; exact hj
    rw [h.cellAt (k * 32 + j) (by omega)]
    have hv2 : ((keyL xs k).map bv)[j] = bv (xs[32 * k + j]'(by omega)) := by simp [keyL]
    rw [hv2, show k * 32 + j = 32 * k + j by omega, List.getElem?_eq_getElem (by rw [List.length_map]; omega), List.getElem_map]

set_option maxRecDepth 100000 in
set_option maxHeartbeats 1000000 in
theorem same_keys (w : World) (A B : Option Addr) (m c d b1 b2 : Nat) (xs : List UInt8) (hx : w.ownsRow b1 87 32 (.slice A m c) m (xs.map bv)) (hy : w.ownsRow b2 87 32 (.slice B m d) m (xs.map bv)) (hm : m ≤ 255) :
    Calls Tryd.prog 57 #[.slice A m c, .slice B m d] w fun e w' => e = .returned (.bool true) ∧ Frm noB w w' := by
  have hl : xs.length = m * 32 := by have := hx.1; simpa using this
  have HX := Lib.hid hx
  have HY := Lib.hid hy
  have HL := Lib.hid hl
  clear hx hy hl
  go_enter Tryd.func57, Tryd.ntmps57
  go_wp2_with fail
  go_loopw [5] (fun i wr => ∃ k : Nat, k ≤ m ∧ i = .int .i64 k ∧ Frm noB w wr) (fun i _ => m - (intOf i).toNat)
  case atStart => exact ⟨0, Nat.zero_le _, rfl, Frm.refl _ _⟩
  case round =>
    obtain ⟨k, hk, rfl, hF⟩ := hrel
    have HF := Lib.hid hF
    by_cases hlt : k < m
    · obtain ⟨g1, rfl, hr1, _⟩ := key_range (own_frm' HX.out hF) hlt
      obtain ⟨g2, rfl, hr2, _⟩ := key_range (own_frm' HY.out hF) hlt
      obtain ⟨cl, hcl⟩ : ∃ cl, cl = (keyL xs k).map bv := ⟨_, rfl⟩
      have hE : ∀ w : World, (Op.equalIn 10000 87 (.agg cl.toArray) (.agg cl.toArray)).run Tryd.prog w = .ok true w := fun w => by rw [hcl]; exact eq_key w _ (keyL_length (by rw [HL.out]; omega))
      have HU : Hid (Tryd.prog.underlying 87 = some (.array 32 5)) := Lib.hid Tryd.underlying87
      have HSZ : Hid ((Tryd.prog.info? 87).map (·.size) = some cl.length) := Lib.hid (by rw [hcl, List.length_map, keyL_length (by rw [HL.out]; omega)]; rfl)
      have k2 : (k : Int) < m := by omega
      have k1 : ¬ (m : Int) ≤ k := by omega
      rw [← hcl] at hr1 hr2
      have s0 : wr.drew.rangeAt g1 (k * 32) cl ∧ wr.drew.rangeAt g2 (k * 32) cl := ⟨hr1, hr2⟩
      have HFd := Lib.hid (HF.out.trans' (Frm.refl noB wr).drew)
      clear hcl hr1 hr2 hF
      go_upto_region 6 with fail
      refine wp_region_held_drew (S := fun w' => w'.rangeAt g1 (k * 32) cl ∧ w'.rangeAt g2 (k * 32) cl) (by kernel_rfl) s0 (fun hHeld => ?_)
      generalize wr.drew = w3 at *
      refine takeC (i := 0) (.slice (some ⟨g1, 0, none⟩) m c) rfl (by kernel_rfl) (by kernel_rfl) (by kernel_rfl) (fun _ _ _ h => h) (Or.inl ⟨by rfl, fun w hw => by go_simp⟩) s0 ?_
      try simp only [Act.put, List.setIfInBounds_toArray, List.set_cons_zero, List.set_cons_succ]
      refine takeC (i := 1) (.int .i64 k) rfl (by kernel_rfl) (by kernel_rfl) (by kernel_rfl) (fun _ _ _ h => h) (Or.inl ⟨by rfl, fun w hw => by go_simp⟩) s0 ?_
      try simp only [Act.put, List.setIfInBounds_toArray, List.set_cons_zero, List.set_cons_succ]
      refine takeC (i := 2) (.pointer (some ⟨g1, k * 32, none⟩)) rfl (by kernel_rfl) (by kernel_rfl) (by kernel_rfl) (fun _ _ _ h => h) (Or.inl ⟨by rfl, fun w hw => by go_simp⟩) s0 ?_
      try simp only [Act.put, List.setIfInBounds_toArray, List.set_cons_zero, List.set_cons_succ]
      refine takeC (i := 3) (.agg cl.toArray) rfl (by kernel_rfl) (by kernel_rfl) (by kernel_rfl) (fun _ _ _ h => h) (yieldsIf_load_mid (by rfl) _ _ rfl g1 (k * 32) rfl cl _ (fun w hw => hw.1) HU.out rfl HSZ.out) s0 ?_
      try simp only [Act.put, List.setIfInBounds_toArray, List.set_cons_zero, List.set_cons_succ]
      refine takeC (i := 4) (.slice (some ⟨g2, 0, none⟩) m d) rfl (by kernel_rfl) (by kernel_rfl) (by kernel_rfl) (fun _ _ _ h => h) (Or.inl ⟨by rfl, fun w hw => by go_simp⟩) s0 ?_
      try simp only [Act.put, List.setIfInBounds_toArray, List.set_cons_zero, List.set_cons_succ]
      refine takeC (i := 5) (.int .i64 k) rfl (by kernel_rfl) (by kernel_rfl) (by kernel_rfl) (fun _ _ _ h => h) (Or.inl ⟨by rfl, fun w hw => by go_simp⟩) s0 ?_
      try simp only [Act.put, List.setIfInBounds_toArray, List.set_cons_zero, List.set_cons_succ]
      refine takeC (i := 6) (.pointer (some ⟨g2, k * 32, none⟩)) rfl (by kernel_rfl) (by kernel_rfl) (by kernel_rfl) (fun _ _ _ h => h) (Or.inl ⟨by rfl, fun w hw => by go_simp⟩) s0 ?_
      try simp only [Act.put, List.setIfInBounds_toArray, List.set_cons_zero, List.set_cons_succ]
      refine takeC (i := 7) (.agg cl.toArray) rfl (by kernel_rfl) (by kernel_rfl) (by kernel_rfl) (fun _ _ _ h => h) (yieldsIf_load_mid (by rfl) _ _ rfl g2 (k * 32) rfl cl _ (fun w hw => hw.2) HU.out rfl HSZ.out) s0 ?_
      try simp only [Act.put, List.setIfInBounds_toArray, List.set_cons_zero, List.set_cons_succ]
      refine takeC (i := 8) (.bool false) rfl (by kernel_rfl) (by kernel_rfl) (by kernel_rfl) (fun _ _ _ h => h) (Or.inl ⟨by rfl, fun w hw => by go_simp⟩) s0 ?_
      try simp only [Act.put, List.setIfInBounds_toArray, List.set_cons_zero, List.set_cons_succ]
      refine wpAnyH_done (by kernel_rfl) ?_ _
      go_wp2_with fail
      exact ⟨⟨k + 1, by omega, by go_num, HFd.out⟩, by simp [intOf]; omega⟩
    · have e : k = m := by omega
      subst e
      clear hF
      go_wp2_with fail
      go_ret
      exact ⟨rfl, HF.out⟩
end Go.Proofs.YtkhakddecmgejaaDoor
