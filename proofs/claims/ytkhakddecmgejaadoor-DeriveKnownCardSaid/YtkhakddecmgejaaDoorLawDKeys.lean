/-
  trystlaw04.DeriveKeys: the walk.
-/
import Derived.Test.YtkhakddecmgejaaDoorKeys
import Derived.Test.YtkhakddecmgejaaDoorWorks04b
namespace Go.Proofs.YtkhakddecmgejaaDoor
open Go.RowKit
set_option linter.unusedVariables false
set_option linter.unusedSimpArgs false

theorem own_setCells {base e size n c g : Nat} : ∀ (vs : List Value) (o : Nat) (w : World) (xs : List Value), w.ownsRow base e size (.slice (some ⟨g, 0, none⟩) n c) n xs → ∃ xs', (w.setCells g o vs).ownsRow base e size (.slice (some ⟨g, 0, none⟩) n c) n xs' ∧ Frm (oB (.slice (some ⟨g, 0, none⟩) n c)) w (w.setCells g o vs)
  | [], o, w, xs, h => ⟨xs, h, Frm.refl _ _⟩
  | v :: r, o, w, xs, h => by
    obtain ⟨xs', h1, h2⟩ := own_setCells r (o + 1) _ _ (h.stored o v).1
    exact ⟨xs', h1, ((Frm.refl (oB (.slice (some ⟨g, 0, none⟩) n c)) w).setCell (a := ⟨g, o, none⟩) (.inl rfl) v).trans' h2⟩
theorem own_there {w : World} {base e n c g k : Nat} {xs : List Value} (h : w.ownsRow base e 32 (.slice (some ⟨g, 0, none⟩) n c) n xs) (hk : k < n) : w.there g (k * 32) 32 := fun j hj => by
  have hl := h.1
  refine ⟨?_, h.frozenAt _⟩
  rw [h.cellAt (k * 32 + j) (by omega), List.getElem?_eq_getElem (by omega)]
  rfl

/-- an array literal -/
theorem wpList_buildK {P : Program} {ops : Array Oper} {rest : List Oper} {o : Oper} {a : Act} {w : World} {Q : Exit → Act → World → Prop} (hg : o.guard = none) (t : TypeId) (i : Nat) (x : Operand) (ho : o.op = .build t #[(i, x)]) (v : Value) (hx : a.eval x = v) (cs : Array Value)
    (hrun : (Instr.build t #[(i, v)]).run P w = .ok (.agg cs) w) (h : wpList P ops Q rest (a.put o.dst (.agg cs)) w) : wpList P ops Q (o :: rest) a w :=
  wpList_plain hg fun K hK => by
    unfold Oper.wp execOp
    simp only [ho, List.map_toArray, List.map_cons, List.map_nil, hx, Sem.run_bind, hrun, Result.andThen_ok]
    exact hK _ _ h
/-- a key that is 0 but for its first byte -/
def keyZ (z : Int) : List Value := (.int .u8 z) :: List.replicate 31 (.int .u8 0)
set_option maxRecDepth 100000 in
theorem run_build1 (w : World) : (Instr.build 87 #[(0, .int .u8 1)]).run Tryd.prog w = .ok (.agg (keyZ 1).toArray) w := by kernel_rfl
set_option maxRecDepth 100000 in
theorem run_build2 (w : World) : (Instr.build 87 #[(0, .int .u8 2)]).run Tryd.prog w = .ok (.agg (keyZ 2).toArray) w := by kernel_rfl
theorem keyZ_one (z : Int) : ∀ v ∈ keyZ z, v.oneCell' = true := fun v hv => by
  simp only [keyZ, List.mem_cons, List.mem_replicate] at hv
  rcases hv with rfl | ⟨_, rfl⟩ <;> rfl

set_option maxRecDepth 100000 in
set_option maxHeartbeats 500000 in
theorem deriveKeys_any (w : World) (A B C : Option Addr) (salt secret info : List UInt8) (ca cb cc : Nat) (n : Int) (hT : TabOk w) (hx : Rd w A (salt.map bv)) (hy : Rd w B (secret.map bv)) (hz : Rd w C (info.map bv)) (hca : salt.length ≤ ca) (hcb : secret.length ≤ cb) (hcc : info.length ≤ cc) (h1 : salt.length ≤ 2000000) (h2 : secret.length ≤ 2000000) (h3 : info.length ≤ 2000000) :
    Calls Tryd.prog 13 #[.agg #[.slice A salt.length ca, .slice B secret.length cb, .slice C info.length cc, .int .i64 n]] w fun r w' => r = .returned (.bool true) ∧ Frm noB w w' := by
  obtain ⟨e, he⟩ : ∃ e : Int, wrongI n 255 = e := ⟨_, rfl⟩
  obtain ⟨mp, hmp⟩ : ∃ mp, macT salt secret = mp := ⟨_, rfl⟩
  obtain ⟨m, hm⟩ : ∃ m, kN n = m := ⟨_, rfl⟩
  obtain ⟨xs, hxs⟩ : ∃ xs, kB (sha mp) info n = xs := ⟨_, rfl⟩
  have hml : m ≤ 255 := by rw [← hm]; exact kN_le _
  have hxl : xs.length = 32 * m := by rw [← hxs, ← hm]; exact kB_length _ _ _
  have HE := Lib.hid he
  have HMP := Lib.hid hmp
  have HM := Lib.hid hm
  have HXS := Lib.hid hxs
  have HXL := Lib.hid hxl
  have HT := Lib.hid hT
  have HX := Lib.hid hx
  have HY := Lib.hid hy
  have HZ := Lib.hid hz
  have hee : (e != e) = false := by simp
  clear hT hx hy hz he hmp hm hxs hxl
  go_enter Tryd.func13, Tryd.ntmps13
  go_upto_region 1 with fail
  have hdb := Blk.new w 75 #[.slice A salt.length ca, .slice B secret.length cb, .slice C info.length cc, .int .i64 n]
  have hf0 : Frm noB w (w.alloc (.cells #[.slice A salt.length ca, .slice B secret.length cb, .slice C info.length cc, .int .i64 n] 75)) := (Frm.refl _ _).alloc _
  change Code.wp _ _ _ _ (w.alloc (.cells #[.slice A salt.length ca, .slice B secret.length cb, .slice C info.length cc, .int .i64 n] 75))
  generalize w.alloc (.cells #[.slice A salt.length ca, .slice B secret.length cb, .slice C info.length cc, .int .i64 n] 75) = w1 at *
  have HF1 := Lib.hid hf0
  have hs1 : w.heap.size < w1.heap.size := hdb.lt
  have HD : Hid (∀ w', Frm noB w1 w' → w'.cell? ⟨w.heap.size, 0, none⟩ = some (.slice A salt.length ca) ∧ w'.cell? ⟨w.heap.size, 1, none⟩ = some (.slice B secret.length cb) ∧ w'.cell? ⟨w.heap.size, 2, none⟩ = some (.slice C info.length cc) ∧ w'.cell? ⟨w.heap.size, 3, none⟩ = some (.int .i64 n)) := Lib.hid fun w' hf => ⟨(hdb.frm' hf).cell 0, (hdb.frm' hf).cell 1, (hdb.frm' hf).cell 2, (hdb.frm' hf).cell 3⟩
  have HA : Hid (∀ w', Frm noB w1 w' → TabOk w' ∧ Rd w' A (salt.map bv) ∧ Rd w' B (secret.map bv) ∧ Rd w' C (info.map bv)) := Lib.hid fun w' hf => ⟨HT.out.frm' (HF1.out.trans' hf), HX.out.frm' (HF1.out.trans' hf), HY.out.frm' (HF1.out.trans' hf), HZ.out.frm' (HF1.out.trans' hf)⟩
  obtain ⟨d0, d1, d2, d3⟩ := HD.out _ (Frm.refl noB w1)
  clear hdb hf0
  go_wp2_with fail
  refine (wrong_any _ n 255 _ HE.out).mono ?_
  rintro _ _ ⟨rfl, rfl⟩
  try dsimp only
  go_wp2_with fail
  obtain ⟨t0, t1, t2, t3⟩ := HA.out _ (Frm.refl noB w1)
  have hS := rkeys_any w1 A B C salt secret info ca cb cc n mp HMP.out t1 t2 t3 (by omega) (by omega) (by omega)
  rw [HM.out, HXS.out] at hS
  refine hS.mono ?_
  clear hS t0 t1 t2 t3 d0 d1 d2 d3
  rintro _ wa ⟨A4, c4, rfl, ho, hf⟩
  have HG := Lib.hid hf
  have HW := Lib.hid ho
  have B4 : Hid (∀ q, oB (.slice A4 m c4) q → q < wa.heap.size) := Lib.hid fun q hq => (own_lt ho q hq).2
  have hsa := hf.size
  obtain ⟨d0, d1, d2, d3⟩ := HD.out _ HG.out
  obtain ⟨t0, t1, t2, t3⟩ := HA.out _ HG.out
  have hS := dkeys_any wa A B C salt secret info ca cb cc n mp HMP.out t0 t1 t2 t3 hca hcb hcc (by omega) (by omega) (by omega)
  rw [HM.out, HXS.out, HE.out] at hS
  have HS := Lib.hid hS
  clear ho hf hS t0 t1 t2 t3
  try dsimp only
  go_wp2_with fail
  refine HS.out.mono ?_
  clear HS
  rintro _ wb ⟨A5, c5, rfl, ho, hf⟩
  have HG := Lib.hid (HG.out.trans' hf)
  have HW := Lib.hid (own_frm' HW.out hf)
  have HO5 := Lib.hid ho
  have B5 : Hid (∀ q, oB (.slice A5 m c5) q → wa.heap.size ≤ q ∧ q < wb.heap.size) := Lib.hid fun q hq => own_lt ho q hq
  have hsb := hf.size
  clear d0 d1 d2 d3
  obtain ⟨d0, d1, d2, d3⟩ := HD.out _ HG.out
  obtain ⟨t0, t1, t2, t3⟩ := HA.out _ HG.out
  have hS := dkeys_any wb A B C salt secret info ca cb cc n mp HMP.out t0 t1 t2 t3 hca hcb hcc (by omega) (by omega) (by omega)
  rw [HM.out, HXS.out, HE.out] at hS
  have HS := Lib.hid hS
  clear ho hf hS t0 t1 t2 t3
  try dsimp only
  go_wp2_with fail
  refine HS.out.mono ?_
  clear HS d0 d1 d2 d3
  rintro _ wc ⟨A7, c7, rfl, ho, hf⟩
  have HG := Lib.hid (HG.out.trans' hf)
  have HW := Lib.hid (own_frm' HW.out hf)
  have HO5 := Lib.hid (own_frm' HO5.out hf)
  have HO7 := Lib.hid ho
  have B7 : Hid (∀ q, oB (.slice A7 m c7) q → wb.heap.size ≤ q) := Lib.hid fun q hq => (own_lt ho q hq).1
  have hsc := hf.size
  clear ho hf
  try dsimp only
  go_wp2_with fail
  refine (same_keys wc A5 A4 m c5 c4 _ _ xs HO5.out HW.out hml).mono ?_
  rintro _ wd ⟨rfl, hf⟩
  have HG := Lib.hid (HG.out.trans' hf)
  have HW := Lib.hid (own_frm' HW.out hf)
  have HO5 := Lib.hid (own_frm' HO5.out hf)
  have HO7 := Lib.hid (own_frm' HO7.out hf)
  have hsd := hf.size
  clear hf
  try dsimp only
  go_wp2_with fail
  refine (same_keys wd A7 A4 m c7 c4 _ _ xs HO7.out HW.out hml).mono ?_
  rintro _ we ⟨rfl, hf⟩
  have HG := Lib.hid (HG.out.trans' hf)
  have HW := Lib.hid (own_frm' HW.out hf)
  have HO5 := Lib.hid (own_frm' HO5.out hf)
  have HO7 := Lib.hid (own_frm' HO7.out hf)
  have hse := hf.size
  clear hf
  try dsimp only
  go_wp2_with fail
  go_loopw [9] (fun i wr => ∃ (k : Nat) (ys : List Value), k ≤ m ∧ i = .int .i64 k ∧ wr.ownsRow wa.heap.size 87 32 (.slice A5 m c5) m ys ∧ Frm (oB (.slice A5 m c5)) we wr) (fun i _ => m - (intOf i).toNat)
  case atStart => exact ⟨0, _, Nat.zero_le _, rfl, HO5.out, Frm.refl _ _⟩
  case round =>
    clear HO5
    obtain ⟨k, ys, hk, rfl, ho, hF⟩ := hrel
    have HO := Lib.hid ho
    have HF := Lib.hid hF
    clear ho hF
    by_cases hlt : k < m
    · obtain ⟨g, hg⟩ : ∃ g : Nat, A5 = some ⟨g, 0, none⟩ := by
        rcases HO.out.2 with ⟨_, h0⟩ | ⟨g, cap, cur, e, _⟩
        · omega
        · injection e with e
          exact ⟨g, e⟩
      subst hg
      have HTH := Lib.hid (own_there HO.out hlt)
      obtain ⟨K1, hb, hK⟩ : ∃ K1 : List Value, (∀ w : World, (Instr.build 87 #[(0, .int .u8 1)]).run Tryd.prog w = .ok (.agg K1.toArray) w) ∧ K1.length = 32 ∧ ∀ v ∈ K1, v.oneCell' = true := ⟨keyZ 1, run_build1, by simp [keyZ], keyZ_one 1⟩
      have HK := Lib.hid hK
      have HSZ : Hid ((Tryd.prog.info? 87).map (·.size) = some K1.toArray.size) := Lib.hid (by rw [List.size_toArray, hK.1]; rfl)
      have HTK : Hid (wr.there g (k * 32) K1.toArray.size) := Lib.hid (by rw [List.size_toArray, hK.1]; exact HTH.out)
      clear hK
      have HB := Lib.hid hb
      clear hb
      go_wp2_with (first | (refine wpList_buildK rfl 87 0 (.const (.int .u8 1)) rfl (.int .u8 1) rfl K1.toArray (HB.out _) ?_) | (refine wpList_store_mid rfl _ _ _ rfl g (k * 32) K1.toArray rfl rfl HTK.out HSZ.out (all_oneCell_toArray HK.out.2) ?_))
      obtain ⟨ys', h1, h2⟩ := own_setCells K1 (k * 32) _ _ HO.out
      exact ⟨⟨k + 1, ys', by omega, by go_num, h1, HF.out.trans' h2⟩, by simp [intOf]; omega⟩
    · have ek : k = m := by omega
      subst ek
      have HW := Lib.hid (own_frm HW.out HF.out fun q hq h => by have := B4.out q hq; have := B5.out q h; omega)
      have HO7 := Lib.hid (own_frm HO7.out HF.out fun q hq h => by have := B7.out q hq; have := B5.out q h; omega)
      have HG : Hid (Frm noB w wr) := Lib.hid ((HF1.out.trans' HG.out).trans HF.out fun q hq h => by have := B5.out q h; omega)
      have hsw : we.heap.size ≤ wr.heap.size := HF.out.size
      obtain ⟨wf, rfl⟩ : ∃ wf : World, wf = wr := ⟨_, rfl⟩
      clear HF
      go_wp2_with fail
      go_loopw [5, 10] (fun vo i wr => ∃ (j : Nat) (zs : List Value), j ≤ 70 ∧ i = .int .i64 j ∧ wr.ownsRow wa.heap.size 87 32 vo (k + j) zs ∧ (∀ q, oB vo q → oB (.slice A5 k c5) q ∨ wf.heap.size ≤ q) ∧ Frm (oB (.slice A5 k c5)) wf wr) (fun _ i _ => 70 - (intOf i).toNat)
      case atStart => exact ⟨0, _, by omega, rfl, HO.out, fun q hq => .inl hq, Frm.refl _ _⟩
      case round =>
        clear HO
        obtain ⟨j, zs, hj, rfl, ho, hq, hF⟩ := hrel
        obtain ⟨Ao, co, rfl, hco⟩ := own_slice ho
        have HO := Lib.hid ho
        have HF := Lib.hid hF
        have HQ := Lib.hid hq
        have hsr := hF.size
        clear ho hF hq
        by_cases hj70 : j < 70
        · obtain ⟨K2, hb, hK⟩ : ∃ K2 : List Value, (∀ w : World, (Instr.build 87 #[(0, .int .u8 2)]).run Tryd.prog w = .ok (.agg K2.toArray) w) ∧ K2.length = 32 ∧ ∀ v ∈ K2, v.oneCell' = true := ⟨keyZ 2, run_build2, by simp [keyZ], keyZ_one 2⟩
          have HK := Lib.hid hK
          have HB := Lib.hid hb
          have HKZ : Hid (K2.toArray.size = 32) := Lib.hid (by rw [List.size_toArray, hK.1])
          clear hK hb
          go_wp2_with (first | (refine wpList_buildK rfl 87 0 (.const (.int .u8 2)) rfl (.int .u8 2) rfl K2.toArray (HB.out _) ?_) | (refine wpList_build1 rfl _ rfl K2.toArray rfl HKZ.out ?_) | (at_builtin; refine app info82 rfl wa.heap.size (own_frm' HO.out ((Frm.refl noB wr).alloc _)) (.tmp 81) (.tmp 83) rfl rfl rfl (by rw [HK.out.1]) (fun i hi => ⟨_, _, rfl, by rw [Nat.zero_add, cell_of_row _ _ _ _ _ _ (heap_alloc_new wr _)]; simp only [List.getElem?_toArray, List.getElem?_eq_getElem hi]⟩) HK.out.2 (by omega) (by omega) (Nat.le_trans (by omega : wa.heap.size ≤ wr.heap.size) (by simp)) ?_; intro A8 c8 w8 ho8 hc8 hf8 hv8; have HO8 := Lib.hid ho8; have HF8 := Lib.hid hf8; have HV8 := Lib.hid hv8; clear ho8 hf8 hv8 hc8))
          refine ⟨⟨j + 1, _, by omega, by go_num, HO8.out, fun q hq => ?_, HF.out.trans (((Frm.refl noB wr).alloc _).any.trans' HF8.out) fun q hq h => ?_⟩, by simp [intOf]; omega⟩
          · rcases HV8.out q hq with h | h
            · exact HQ.out q h
            · have := ((Frm.refl noB wr).alloc (.cells K2.toArray 87)).size; omega
          · rcases HQ.out q h with h' | h'
            · exact h'
            · omega
        · have ej : j = 70 := by omega
          subst ej
          have HW2 := Lib.hid (own_frm HW.out HF.out fun q hq h => by have := B4.out q hq; have := B5.out q h; omega)
          have HO72 := Lib.hid (own_frm HO7.out HF.out fun q hq h => by have := B7.out q hq; have := B5.out q h; omega)
          have HG2 : Hid (Frm noB w wr) := Lib.hid (HG.out.trans HF.out fun q hq h => by have := B5.out q h; omega)
          clear HW HO7 HG
          go_wp2_with fail
          refine (same_keys wr A7 A4 k c7 c4 _ _ xs HO72.out HW2.out hml).mono ?_
          rintro _ wg ⟨rfl, hf⟩
          have HG3 := Lib.hid (HG2.out.trans' hf)
          clear hf
          try dsimp only
          go_wp2_with fail
          refine (works04 wg (HT.out.frm' HG3.out)).mono ?_
          rintro _ wh ⟨rfl, hf⟩
          try dsimp only
          go_wp2_with fail
          go_ret
          exact ⟨rfl, HG3.out.trans' hf⟩
end Go.Proofs.YtkhakddecmgejaaDoor
