/-
  trystref04.Keys: rows of keys.
-/
import Derived.Test.YtkhakddecmgejaaDoorDExp
import Derived.Great.BuildSlice
namespace Go.Proofs.YtkhakddecmgejaaDoor
open Go.RowKit
set_option linter.unusedVariables false
set_option linter.unusedSimpArgs false

/-- the zero key -/
def zK : Value := .agg (arr 32 fun _ => bv 0)
theorem info82 : EInfo Tryd.prog 82 87 32 32 zK := by
  obtain ⟨i, h1, h2, h3, h4⟩ := info_parts (show (Tryd.prog.info? 87).map (fun i => (i.zero, i.size, i.bytes)) = some (some zK, 32, 32) by kernel_rfl)
  exact ⟨Tryd.underlying82, ⟨i, h1, h2, h3, h4⟩, rfl, by decide⟩

/-- a slice literal of one key -/
theorem wpList_build1 {ops : Array Oper} {rest : List Oper} {o : Oper} {a : Act} {w : World} {Q : Exit → Act → World → Prop} (hg : o.guard = none) (x : Operand) (ho : o.op = .buildSlice 82 1 #[(0, x)]) (cs : Array Value) (hx : a.eval x = .agg cs) (hl : cs.size = 32)
    (h : wpList Tryd.prog ops Q rest (a.put o.dst (.slice (some ⟨w.heap.size, 0, none⟩) 1 1)) (w.alloc (.cells cs 87))) : wpList Tryd.prog ops Q (o :: rest) a w := by
  obtain ⟨i, h1, h2, h3, h4⟩ := info82.hi
  have hz : zK.cells.size = 32 := info82.hz
  refine wpList_buildSlice hg 82 87 1 _ ho cs i zK info82.ht h1 h2 (by rw [h3]; decide) (by rw [h3]; decide) ?_ h
  rw [h3]
  have hf := Great.fill_whole (s := 32) (by decide) [.agg cs] ((Array.range (1 * 32)).map (zK.cells[· % zK.cells.size]!)) (by intro v hv; simp at hv; subst hv; exact hl) (by simp)
  simp only [List.map_toArray, List.map_cons, List.map_nil, hx]
  simpa [Value.cells] using hf

/-- how many keys, and their bytes, one behind the other -/
def kN (n : Int) : Nat := if wrongI n 255 = 0 then n.toNat else 0
def kB (pk info : List UInt8) (n : Int) : List UInt8 := if wrongI n 255 = 0 then expL pk info (32 * n.toNat) else []
theorem kB_length (pk info : List UInt8) (n : Int) : (kB pk info n).length = 32 * kN n := by
  unfold kB kN
  split
  · rw [expL_length]
  · rfl
theorem good_key {n : Int} (h : wrongI n 255 = 0) : ∃ m : Nat, n = m ∧ m ≤ 255 := by
  unfold wrongI at h
  split at h
  · simp at h
  · split at h
    · simp at h
    · exact ⟨n.toNat, by omega, by omega⟩
theorem wrong_key {n : Nat} (h : n ≤ 255) : wrongI n 255 = 0 := by unfold wrongI; rw [if_neg (by omega), if_neg (by omega)]
theorem kN_nat {n : Nat} (h : n ≤ 255) : kN n = n := by unfold kN; rw [if_pos (wrong_key h)]; rfl
theorem kB_nat (pk info : List UInt8) {n : Nat} (h : n ≤ 255) : kB pk info n = expL pk info (32 * n) := by unfold kB; rw [if_pos (wrong_key h)]; rfl
theorem kN_bad {n : Int} (h : wrongI n 255 ≠ 0) : kN n = 0 := if_neg h
theorem kB_bad (pk info : List UInt8) {n : Int} (h : wrongI n 255 ≠ 0) : kB pk info n = [] := if_neg h
theorem kN_le (n : Int) : kN n ≤ 255 := by
  unfold kN
  split
  · rename_i h
    obtain ⟨m, rfl, hm⟩ := good_key h
    simpa using hm
  · omega

/-- one key of a row -/
def keyL (xs : List UInt8) (k : Nat) : List UInt8 := (xs.drop (32 * k)).take 32
theorem keyL_length {xs : List UInt8} {k : Nat} (h : 32 * k + 32 ≤ xs.length) : (keyL xs k).length = 32 := by
  unfold keyL; rw [List.length_take, List.length_drop]; omega
theorem keyL_arr {xs : List UInt8} {k : Nat} (h : 32 * k + 32 ≤ xs.length) : arr 32 (fun i => bv (xs.getD (32 * k + i) 0)) = ((keyL xs k).map bv).toArray := by
  have hl := keyL_length h
  unfold arr
  congr 1
  apply List.ext_getElem
  · simp [hl]
  · intro i h1 h2
    have hi : i < 32 := by simpa using h1
    simp only [List.getElem_map, List.getElem_range]
    unfold keyL
    rw [List.getElem_take, List.getElem_drop]
    simp [List.getD, show 32 * k + i < xs.length by omega]
theorem keyL_succ (xs : List UInt8) (k : Nat) : xs.take (32 * (k + 1)) = xs.take (32 * k) ++ keyL xs k := by
  unfold keyL
  rw [show 32 * (k + 1) = 32 * k + 32 by omega, List.take_add]

/-- keys in a row of the call's own -/
def Keyed (w : World) (m : Nat) (xs : List UInt8) (f : Value → Ending) (e : Ending) (w' : World) : Prop :=
  ∃ A' c', e = f (.slice A' m c') ∧ w'.ownsRow w.heap.size 87 32 (.slice A' m c') m (xs.map bv) ∧ Frm noB w w'

set_option maxRecDepth 100000 in
set_option maxHeartbeats 1000000 in
theorem rkeys_good (w : World) (A B C : Option Addr) (salt secret info : List UInt8) (ca cb cc : Nat) (n : Nat) (hn : n ≤ 255) (mp : List UInt8) (hmp : macT salt secret = mp) (hx : Rd w A (salt.map bv)) (hy : Rd w B (secret.map bv)) (hz : Rd w C (info.map bv)) (h1 : salt.length ≤ 900000000) (h2 : secret.length ≤ 900000000) (h3 : info.length ≤ 900000000) :
    Calls Tryd.prog 55 #[.slice A salt.length ca, .slice B secret.length cb, .slice C info.length cc, .int .i64 n] w (Keyed w n (expL (sha mp) info (32 * n)) fun v => .returned v) := by
  have HX := Lib.hid hx
  have HY := Lib.hid hy
  have HZ := Lib.hid hz
  have HW0 := Lib.hid (wrong_key hn)
  obtain ⟨xs, hxs⟩ : ∃ xs, xs = expL (sha mp) info (32 * n) := ⟨_, rfl⟩
  have hxl : xs.length = 32 * n := by rw [hxs, expL_length]
  have HXS := Lib.hid hxs
  rw [← hxs]
  have HXL := Lib.hid hxl
  have HMP := Lib.hid hmp
  clear hx hy hz hmp hxs hxl
  go_enter Tryd.func55, Tryd.ntmps55
  go_wp2_with fail
  refine (wrong_any _ n 255 _ HW0.out).mono ?_
  rintro _ _ ⟨rfl, rfl⟩
  try dsimp only
  go_wp2_with fail
  have hS := drawn_any w A B C salt secret info ca cb cc ((32 * n : Nat) : Int) mp HMP.out HX.out HY.out HZ.out h1 h2 h3
  rw [expW_nat _ _ (by omega), ← HXS.out, show ((32 * n : Nat) : Int) = 32 * (n : Int) by omega] at hS
  refine hS.mono ?_
  clear hS
  rintro _ w1 ⟨A1, c1, rfl, ho, hf⟩
  have HR := Lib.hid (Rd.of_own ho)
  have HF1 := Lib.hid hf
  have hs1 := hf.size
  rw [HXL.out]
  have hc1 : 32 * n ≤ c1 := by obtain ⟨_, _, e, h⟩ := own_slice ho; injection e with _ _ e3; rw [HXL.out] at h; omega
  clear ho hf
  try dsimp only
  go_wp2_with fail
  go_loopw [9, 11] (fun vo i wr => ∃ k : Nat, k ≤ n ∧ i = .int .i64 k ∧ wr.ownsRow w1.heap.size 87 32 vo k ((xs.take (32 * k)).map bv) ∧ Frm noB w1 wr) (fun _ i _ => n - (intOf i).toNat)
  case atStart => exact ⟨0, Nat.zero_le _, rfl, World.ownsRow_nil _ _ _ _, Frm.refl _ _⟩
  case round =>
    obtain ⟨k, hk, rfl, ho, hF⟩ := hrel
    obtain ⟨Ao, co, rfl, hco⟩ := own_slice ho
    obtain ⟨wo, rfl⟩ : ∃ wo : World, wo = wr := ⟨_, rfl⟩
    have HO := Lib.hid ho
    have HF := Lib.hid hF
    have hsz := hF.size
    clear ho hF
    by_cases hlt : k < n
    · go_upto_region 9 with fail
      have hb0 : Blk (wo.alloc (.cells (arr 32 fun _ => bv 0) 87)) wo.heap.size 87 (arr 32 fun _ => bv 0) := Blk.new _ _ _
      have hf0 : Frm noB wo (wo.alloc (.cells (arr 32 fun _ => bv 0) 87)) := (Frm.refl _ _).alloc _
      change Code.wp _ _ _ _ (wo.alloc (.cells (arr 32 fun _ => bv 0) 87))
      generalize wo.alloc (.cells (arr 32 fun _ => bv 0) 87) = w2 at *
      have HB0 := Lib.hid hb0
      have HF0 := Lib.hid hf0
      clear hb0 hf0
      go_wp2_with fail
      go_loopw [13] (fun j wq => ∃ q : Nat, q ≤ 32 ∧ j = .int .i64 q ∧ Blk wq wo.heap.size 87 (arr 32 fun i => if i < q then bv (xs.getD (32 * k + i) 0) else bv 0) ∧ Frm noB wo wq) (fun j _ => 32 - (intOf j).toNat)
      case atStart => exact ⟨0, by omega, rfl, HB0.out.same fun i _ => by rw [if_neg (by omega)], HF0.out⟩
      case round =>
        clear HB0 HF0
        obtain ⟨q, hq, rfl, hB, hF⟩ := hrel
        have HB := Lib.hid hB
        have HG := Lib.hid hF
        have HGO := HG
        by_cases hq32 : q < 32
        · have hi : 32 * k + q < xs.length := by rw [HXL.out]; omega
          obtain ⟨b, o, rfl, hc⟩ := (HR.out.frm' (HF.out.trans' hF)).b hi
          have e0 := hB.at_ hq32
          have f0 := hB.frozen q
          rw [if_neg (by omega)] at e0
          have hgd : xs.getD (32 * k + q) 0 = xs[32 * k + q] := by simp [List.getD, hi]
          have HGD := Lib.hid hgd
          have q0 : (0 : Int) ≤ 32 * (k : Int) + q := by omega
          clear hB hF hgd
          generalize xs[32 * k + q] = x at *
          clear hi
          go_wp2_with fail
          refine ⟨⟨q + 1, by omega, by go_num, (HB.out.put q _).same fun i hi => ?_, HG.out.setCell (.inr (Nat.le_refl _)) _⟩, by simp [intOf]; omega⟩
          by_cases e : i = q
          · subst e; rw [if_pos rfl, if_pos (by omega), HGD.out]; rfl
          · rw [if_neg e]
            by_cases e2 : i < q
            · rw [if_pos e2, if_pos (by omega)]
            · rw [if_neg e2, if_neg (by omega)]
        · have eq32 : q = 32 := by omega
          subst eq32
          have HBB := Lib.hid (HB.out.same (f' := fun i => bv (xs.getD (32 * k + i) 0)) fun i hi => if_pos hi)
          clear hB hF HB
          obtain ⟨cl, hcl⟩ : ∃ cl : List Value, cl = (keyL xs k).map bv := ⟨_, rfl⟩
          have hk32 : 32 * k + 32 ≤ xs.length := by rw [HXL.out]; omega
          have HCL := Lib.hid hcl
          have HBC : Hid (Blk wr wo.heap.size 87 cl.toArray) := Lib.hid (by rw [hcl, ← keyL_arr hk32]; exact HBB.out)
          have HCZ : Hid (cl.toArray.size = 32) := Lib.hid (by rw [hcl]; simp [keyL_length hk32])
          have HC1 : Hid (∀ u ∈ cl, u.oneCell' = true) := Lib.hid (by rw [hcl]; exact bv_one _)
          have HCN : Hid ((xs.take (32 * k)).map bv ++ cl = (xs.take (32 * (k + 1))).map bv) := Lib.hid (by rw [hcl, keyL_succ, List.map_append])
          have HG := Lib.hid (HF.out.trans' HG.out)
          have HOR := Lib.hid (own_frm' HO.out HGO.out)
          have hsr : w1.heap.size ≤ wr.heap.size := HG.out.size
          clear hcl hk32 HBB
          go_wp2_with (first | (refine wpList_load_row rfl _ _ rfl wo.heap.size rfl 87 _ (0, 0) _ HBC.out Tryd.underlying87 rfl (by rw [HCZ.out]; kernel_rfl) ?_) | (refine wpList_build1 rfl _ rfl cl.toArray rfl HCZ.out ?_) | (at_builtin; refine app info82 rfl w1.heap.size (own_frm' HOR.out ((Frm.refl noB wr).alloc _)) (.tmp 41) (.tmp 43) rfl rfl rfl (by have := HCZ.out; simpa using this) (fun i hi => ⟨_, _, rfl, by rw [Nat.zero_add, cell_of_row _ _ _ _ _ _ (heap_alloc_new wr _)]; simp only [List.getElem?_toArray, List.getElem?_eq_getElem hi]⟩) HC1.out (by omega) (by omega) (Nat.le_trans hsr (by simp)) ?_; intro A5 c5 w5 ho5 hc5 hf5 hv5; have HO5 := Lib.hid ho5; have HF5 := Lib.hid hf5; clear ho5 hf5 hv5 hc5))
          have ho5 := HO5.out
          rw [HCN.out] at ho5
          exact ⟨⟨k + 1, by omega, by go_num, ho5, HG.out.trans (((Frm.refl noB wr).alloc _).any.trans' HF5.out) fun q hq h => by have := (own_lt HOR.out q h).1; omega⟩, by simp [intOf]; omega⟩
    · have e : k = n := by omega
      subst e
      have HR2 : Hid (wo.ownsRow w.heap.size 87 32 (.slice Ao k co) k (xs.map bv)) := Lib.hid (by
        have h := HO.out
        rw [List.take_of_length_le (by rw [HXL.out]; omega)] at h
        exact own_base h fun q hq => by have := (own_lt h q hq).1; omega)
      clear HO
      go_wp2_with fail
      go_ret
      exact ⟨_, _, rfl, HR2.out, HF1.out.trans' HF.out⟩

set_option maxRecDepth 100000 in
theorem rkeys_bad (w : World) (A B C : Option Addr) (la lb lc ca cb cc : Nat) (n : Int) (h : wrongI n 255 ≠ 0) :
    Calls Tryd.prog 55 #[.slice A la ca, .slice B lb cb, .slice C lc cc, .int .i64 n] w fun e w' => e = .returned (.slice none 0 0) ∧ Frm noB w w' := by
  have hcase : wrongI n 255 = 2 ∨ wrongI n 255 = 3 := by
    unfold wrongI at h ⊢
    split
    · exact .inl rfl
    · split
      · exact .inr rfl
      · rename_i h1 h2; simp [h1, h2] at h
  rcases hcase with hc | hc
  all_goals
    have HC := Lib.hid hc
    clear hc h
    go_enter Tryd.func55, Tryd.ntmps55
    go_wp2_with fail
    refine (wrong_any _ n 255 _ HC.out).mono ?_
    rintro _ _ ⟨rfl, rfl⟩
    try dsimp only
    go_wp2_with fail
    go_ret
    exact ⟨rfl, Frm.refl _ _⟩
theorem rkeys_any (w : World) (A B C : Option Addr) (salt secret info : List UInt8) (ca cb cc : Nat) (n : Int) (mp : List UInt8) (hmp : macT salt secret = mp) (hx : Rd w A (salt.map bv)) (hy : Rd w B (secret.map bv)) (hz : Rd w C (info.map bv)) (h1 : salt.length ≤ 900000000) (h2 : secret.length ≤ 900000000) (h3 : info.length ≤ 900000000) :
    Calls Tryd.prog 55 #[.slice A salt.length ca, .slice B secret.length cb, .slice C info.length cc, .int .i64 n] w (Keyed w (kN n) (kB (sha mp) info n) fun v => .returned v) := by
  by_cases h : wrongI n 255 = 0
  · obtain ⟨m, rfl, hm⟩ := good_key h
    rw [kN_nat hm, kB_nat _ _ hm]
    exact rkeys_good w A B C salt secret info ca cb cc m hm mp hmp hx hy hz h1 h2 h3
  · rw [kN_bad h, kB_bad _ _ h]
    exact (rkeys_bad w A B C _ _ _ ca cb cc n h).mono fun e w' ⟨he, hf⟩ => ⟨none, 0, he, World.ownsRow_nil _ _ _ _, hf⟩
end Go.Proofs.YtkhakddecmgejaaDoor
