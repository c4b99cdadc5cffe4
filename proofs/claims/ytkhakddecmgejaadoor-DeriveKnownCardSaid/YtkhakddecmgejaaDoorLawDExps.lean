/-
  trystlaw04.DeriveExpands: the walk.
-/
import Derived.Test.YtkhakddecmgejaaDoorDExp
import Derived.Test.YtkhakddecmgejaaDoorApart01
import Derived.Test.YtkhakddecmgejaaDoorWorks04b
namespace Go.Proofs.YtkhakddecmgejaaDoor
open Go.RowKit
set_option linter.unusedVariables false
set_option linter.unusedSimpArgs false

/-- a row of bytes of the call's own: a place of it is read, and written over -/
theorem own_putb {w : World} {base n c j : Nat} {A : Option Addr} {ys : List UInt8} (h : w.ownsRow base 5 1 (.slice A n c) n (ys.map bv)) (hj : j < n) :
    ∃ g, ∃ x : UInt8, A = some ⟨g, 0, none⟩ ∧ w.cell? ⟨g, j, none⟩ = some (.int .u8 (x.toNat : Int)) ∧ w.frozen? ⟨g, j, none⟩ = false ∧ oB (.slice A n c) g ∧ ∀ z : Int, 0 ≤ z → z ≤ 255 → ∃ ys' : List UInt8, ys'.length = ys.length ∧ (w.setCell ⟨g, j, none⟩ (.int .u8 z)).ownsRow base 5 1 (.slice A n c) n (ys'.map bv) := by
  rcases h.2 with ⟨_, h0⟩ | ⟨g, cap, cur, e, _⟩
  · omega
  · have e' := e
    injection e with e1 e2 e3
    subst e1
    have hx : j < ys.length := by have := h.1; simp at this; omega
    refine ⟨g, ys[j], rfl, ?_, h.frozenAt j, rfl, fun z h0 h1 => ⟨ys.set j (UInt8.ofNat z.toNat), by simp, ?_⟩⟩
    · rw [h.cellAt j (by omega)]
      simp [hx, bv]
    · have hs := (h.stored j (.int .u8 z)).1
      have hb : bv (UInt8.ofNat z.toNat) = .int .u8 z := by
        unfold bv
        rw [UInt8.toNat_ofNat']
        congr 1
        omega
      rw [List.map_set, hb]
      exact hs
theorem own_rd {w : World} {base n c m : Nat} {A : Option Addr} {ys : List UInt8} (h : w.ownsRow base 5 1 (.slice A n c) n (ys.map bv)) : Rd w A ((ys.take m).map bv) := (Rd.of_own h).takeB m

/-- a load of a whole row, under a guard that lets it -/
theorem wpList_load_want {P : Program} {ops : Array Oper} {rest : List Oper} {op : Oper} {a : Act} {w : World} {Q : Exit → Act → World → Prop} (hw : Region.wanted op (yielded ops a.tmps) = true) (ty : TypeId) (x : Operand) (ho : op.op = .load ty x)
    (b o : Nat) (hx : a.eval x = .pointer (some ⟨b, o, none⟩)) (cs : List Value) (d : TypeDesc) (hc : w.rangeAt b o cs)
    (hu : P.underlying ty = some d) (hd : d.isRow = true) (hi : (P.info? ty).map (·.size) = some cs.length)
    (h : wpList P ops Q rest (a.put op.dst (.agg cs.toArray)) w) : wpList P ops Q (op :: rest) a w :=
  wpList_step fun K hK => by rw [if_pos hw]; exact wp_load_mid ty x ho b o hx cs d hc hu hd hi (hK _ _ h)

/-- rows of bytes of the call's own: (base, slice, bytes) -/
def Owns (w : World) (l : List (Nat × Value × List UInt8)) : Prop := ∀ x ∈ l, w.ownsRow x.1 5 1 x.2.1 x.2.2.length (x.2.2.map bv)
theorem Owns.frm {S : Nat → Prop} {w w' : World} {l : List (Nat × Value × List UInt8)} (h : Owns w l) (hf : Frm S w w') (hS : ∀ x ∈ l, ∀ q, oB x.2.1 q → ¬ S q) : Owns w' l := fun x hx => own_frm (h x hx) hf (hS x hx)
theorem Owns.frm' {w w' : World} {l : List (Nat × Value × List UInt8)} (h : Owns w l) (hf : Frm noB w w') : Owns w' l := fun x hx => own_frm' (h x hx) hf
theorem Owns.push {w : World} {l : List (Nat × Value × List UInt8)} {b : Nat} {v : Value} {xs : List UInt8} (h : Owns w l) (h' : w.ownsRow b 5 1 v xs.length (xs.map bv)) : Owns w ((b, v, xs) :: l) := fun x hx => by
  rcases List.mem_cons.1 hx with rfl | hx
  · exact h'
  · exact h x hx
theorem Owns.nil (w : World) : Owns w [] := fun x hx => by cases hx
/-- four rows, one behind the other -/
theorem bag4 {w : World} {v0 v1 v2 v3 : Value} {n0 n1 n2 n3 b0 b1 b2 b3 : Nat} {x0 x1 x2 x3 : List Value} (h0 : w.ownsRow b0 5 1 v0 n0 x0) (h1 : w.ownsRow b1 5 1 v1 n1 x1) (h2 : w.ownsRow b2 5 1 v2 n2 x2) (h3 : w.ownsRow b3 5 1 v3 n3 x3)
    (a0 : ∀ k, oB v0 k → k < b1) (a1 : ∀ k, oB v1 k → k < b2) (a2 : ∀ k, oB v2 k → k < b3) (l1 : b1 ≤ b2) (l2 : b2 ≤ b3) : Bag w [v0, v1, v2, v3] [n0, n1, n2, n3] fun _ _ => False := by
  refine ⟨rfl, fun i hi hi' => ?_, fun i j hi hj k hne hk hk' => ?_⟩
  · match i, hi with
    | 0, _ => exact ⟨_, own_base h0 fun _ _ => Nat.zero_le _, fun _ _ h => h.elim⟩
    | 1, _ => exact ⟨_, own_base h1 fun _ _ => Nat.zero_le _, fun _ _ h => h.elim⟩
    | 2, _ => exact ⟨_, own_base h2 fun _ _ => Nat.zero_le _, fun _ _ h => h.elim⟩
    | 3, _ => exact ⟨_, own_base h3 fun _ _ => Nat.zero_le _, fun _ _ h => h.elim⟩
  · have e0 := a0 k
    have e1 := a1 k
    have e2 := a2 k
    have f1 := fun h => (own_lt h1 k h).1
    have f2 := fun h => (own_lt h2 k h).1
    have f3 := fun h => (own_lt h3 k h).1
    have key : ∀ i j (hi : i < 4) (hj : j < 4), i < j → oB ([v0, v1, v2, v3][i]'hi) k → oB ([v0, v1, v2, v3][j]'hj) k → False := fun i j hi hj hij hk hk' => by
      have h6 : (i = 0 ∧ j = 1) ∨ (i = 0 ∧ j = 2) ∨ (i = 0 ∧ j = 3) ∨ (i = 1 ∧ j = 2) ∨ (i = 1 ∧ j = 3) ∨ (i = 2 ∧ j = 3) := by omega
      rcases h6 with ⟨rfl, rfl⟩ | ⟨rfl, rfl⟩ | ⟨rfl, rfl⟩ | ⟨rfl, rfl⟩ | ⟨rfl, rfl⟩ | ⟨rfl, rfl⟩
      · have := e0 hk; have := f1 hk'; omega
      · have := e0 hk; have := f2 hk'; omega
      · have := e0 hk; have := f3 hk'; omega
      · have := e1 hk; have := f2 hk'; omega
      · have := e1 hk; have := f3 hk'; omega
      · have := e2 hk; have := f3 hk'; omega
    rcases Nat.lt_or_gt_of_ne hne with h | h
    · exact key i j hi hj h hk hk'
    · exact key j i hj hi h hk' hk
theorem inV4 {v0 v1 v2 v3 : Value} {k : Nat} (h : inV [v0, v1, v2, v3] k) : oB v0 k ∨ oB v1 k ∨ oB v2 k ∨ oB v3 k := by
  obtain ⟨i, hi, hk⟩ := h
  match i, hi with
  | 0, _ => exact .inl hk
  | 1, _ => exact .inr (.inl hk)
  | 2, _ => exact .inr (.inr (.inl hk))
  | 3, _ => exact .inr (.inr (.inr hk))

set_option maxRecDepth 100000 in
set_option maxHeartbeats 4000000 in
theorem deriveExpands_any (w : World) (A B C : Option Addr) (salt secret info : List UInt8) (ca cb cc : Nat) (n : Int) (hT : TabOk w) (hx : Rd w A (salt.map bv)) (hy : Rd w B (secret.map bv)) (hz : Rd w C (info.map bv)) (hca : salt.length ≤ ca) (hcb : secret.length ≤ cb) (hcc : info.length ≤ cc) (h1 : salt.length ≤ 2000000) (h2 : secret.length ≤ 2000000) (h3 : info.length ≤ 2000000) :
    Calls Tryd.prog 12 #[.agg #[.slice A salt.length ca, .slice B secret.length cb, .slice C info.length cc, .int .i64 n]] w fun r w' => r = .returned (.bool true) ∧ Frm noB w w' := by
  obtain ⟨e, he⟩ : ∃ e : Int, wrongI n 8160 = e := ⟨_, rfl⟩
  obtain ⟨mp, hmp⟩ : ∃ mp, macT salt secret = mp := ⟨_, rfl⟩
  obtain ⟨xw, hxw⟩ : ∃ xw, expW (sha mp) info n = xw := ⟨_, rfl⟩
  have hxl : xw.length ≤ 8160 := by rw [← hxw]; exact expW_le _ _ _
  have HE := Lib.hid he
  have HMP := Lib.hid hmp
  have HXW := Lib.hid hxw
  have HT := Lib.hid hT
  have HX := Lib.hid hx
  have HY := Lib.hid hy
  have HZ := Lib.hid hz
  have hee : (e != e) = false := by simp
  clear hT hx hy hz he hmp hxw
  go_enter Tryd.func12, Tryd.ntmps12
  go_upto_region 1 with fail
  have hdb := Blk.new w 75 #[.slice A salt.length ca, .slice B secret.length cb, .slice C info.length cc, .int .i64 n]
  have hf0 : Frm noB w (w.alloc (.cells #[.slice A salt.length ca, .slice B secret.length cb, .slice C info.length cc, .int .i64 n] 75)) := (Frm.refl _ _).alloc _
  change Code.wp _ _ _ _ (w.alloc (.cells #[.slice A salt.length ca, .slice B secret.length cb, .slice C info.length cc, .int .i64 n] 75))
  generalize w.alloc (.cells #[.slice A salt.length ca, .slice B secret.length cb, .slice C info.length cc, .int .i64 n] 75) = w1 at *
  have HDB := Lib.hid hdb
  have HF1 := Lib.hid hf0
  have hs1 : w.heap.size < w1.heap.size := hdb.lt
  have d3 : w1.cell? ⟨w.heap.size, 3, none⟩ = some (.int .i64 n) := hdb.cell 3
  have d0 : w1.cell? ⟨w.heap.size, 0, none⟩ = some (.slice A salt.length ca) := hdb.cell 0
  have d1 : w1.cell? ⟨w.heap.size, 1, none⟩ = some (.slice B secret.length cb) := hdb.cell 1
  clear hdb hf0
  go_wp2_with fail
  refine (wrong_any _ n 8160 _ HE.out).mono ?_
  rintro _ _ ⟨rfl, rfl⟩
  try dsimp only
  go_wp2_with fail
  have hS := rextract_any w1 A B salt secret ca cb (HX.out.frm' HF1.out) (HY.out.frm' HF1.out) (by unfold JLen; omega) (by omega)
  rw [HMP.out] at hS
  refine hS.mono ?_
  clear hS
  rintro _ w2 ⟨rfl, hf⟩
  obtain ⟨wz, hrun, hz, hfz⟩ := run_storeRow (P := Tryd.prog) (w := w2.alloc (.cells #[.int .u8 0, .int .u8 0, .int .u8 0, .int .u8 0, .int .u8 0, .int .u8 0, .int .u8 0, .int .u8 0, .int .u8 0, .int .u8 0, .int .u8 0, .int .u8 0, .int .u8 0, .int .u8 0, .int .u8 0, .int .u8 0, .int .u8 0, .int .u8 0, .int .u8 0, .int .u8 0, .int .u8 0, .int .u8 0, .int .u8 0, .int .u8 0, .int .u8 0, .int .u8 0, .int .u8 0, .int .u8 0, .int .u8 0, .int .u8 0, .int .u8 0, .int .u8 0] 26)) (Blk.new _ _ _) (cs := arr 32 (shaAt mp)) (by rw [arr_size]; rfl) (one_arr fun i _ => rfl)
  have HPB := Lib.hid hz
  have HF1Z : Hid (Frm noB w1 wz) := Lib.hid (hf.trans' (((Frm.refl noB w2).alloc (.cells #[.int .u8 0, .int .u8 0, .int .u8 0, .int .u8 0, .int .u8 0, .int .u8 0, .int .u8 0, .int .u8 0, .int .u8 0, .int .u8 0, .int .u8 0, .int .u8 0, .int .u8 0, .int .u8 0, .int .u8 0, .int .u8 0, .int .u8 0, .int .u8 0, .int .u8 0, .int .u8 0, .int .u8 0, .int .u8 0, .int .u8 0, .int .u8 0, .int .u8 0, .int .u8 0, .int .u8 0, .int .u8 0, .int .u8 0, .int .u8 0, .int .u8 0, .int .u8 0] 26)).trans hfz fun k hk h => by have h : k = w2.heap.size := h; omega))
  have HRUN := Lib.hid hrun
  have dz2 : wz.cell? ⟨w.heap.size, 2, none⟩ = some (.slice C info.length cc) := (HDB.out.frm' HF1Z.out).cell 2
  have hs2 : w1.heap.size ≤ w2.heap.size := hf.size
  have hsz : w2.heap.size < wz.heap.size := hz.lt
  clear hf hz hfz hrun d0 d1 d3
  try dsimp only
  go_upto_region 4 with (refine wpList_storeRow rfl _ _ _ rfl rfl w2.heap.size rfl _ rfl (size_arr _ _) HRUN.out ?_)
  go_wp2_with (refine wpList_load_row rfl _ _ rfl w2.heap.size rfl 26 _ (0, 0) _ HPB.out Tryd.underlying26 rfl (by rw [arr_size]; kernel_rfl) ?_)
  have hS := rexp_any wz mp C info cc n (HZ.out.frm' (HF1.out.trans' HF1Z.out)) (by omega)
  rw [HXW.out] at hS
  refine hS.mono ?_
  clear hS HRUN
  rintro _ w3 ⟨A3, c3, rfl, ho3, hf3⟩
  have HW3 := Lib.hid ho3
  have HG3 := Lib.hid hf3
  have dz2 := hf3.cell_some dz2 (fun h => h)
  have hs3 := hf3.size
  clear ho3 hf3
  try dsimp only
  go_wp2_with fail
  have HF := Lib.hid (HF1.out.trans' HF1Z.out)
  refine (lent_any w3 C info cc (HZ.out.frm' (HF.out.trans' HG3.out)) (by omega)).mono ?_
  rintro _ w4 ⟨A7, c7, rfl, ho7, hf7⟩
  have hc7 : info.length ≤ c7 := by obtain ⟨_, _, e, h⟩ := own_slice ho7; injection e with _ _ e3; omega
  have HO7 := Lib.hid ho7
  have HG4 := Lib.hid (HG3.out.trans' hf7)
  have HH4 := Lib.hid hf7
  have d0 : w4.cell? ⟨w.heap.size, 0, none⟩ = some (.slice A salt.length ca) := ((HDB.out.frm' HF1Z.out).frm' HG4.out).cell 0
  have d1 : w4.cell? ⟨w.heap.size, 1, none⟩ = some (.slice B secret.length cb) := ((HDB.out.frm' HF1Z.out).frm' HG4.out).cell 1
  have hs4 := hf7.size
  clear ho7 hf7 dz2
  try dsimp only
  go_wp2_with fail
  refine (lent_any w4 A salt ca (HX.out.frm' (HF.out.trans' HG4.out)) (by omega)).mono ?_
  rintro _ w5 ⟨A8, c8, rfl, ho8, hf8⟩
  have hc8 : salt.length ≤ c8 := by obtain ⟨_, _, e, h⟩ := own_slice ho8; injection e with _ _ e3; omega
  have HK8 := Lib.hid (Rd.of_own ho8)
  have HG5 := Lib.hid (HG4.out.trans' hf8)
  have HH5 := Lib.hid hf8
  have d1 := hf8.cell_some d1 (fun h => h)
  have hs5 := hf8.size
  clear ho8 hf8 d0
  try dsimp only
  go_wp2_with fail
  refine (lent_any w5 B secret cb (HY.out.frm' (HF.out.trans' HG5.out)) (by omega)).mono ?_
  rintro _ w6 ⟨A9, c9, rfl, ho9, hf9⟩
  have hc9 : secret.length ≤ c9 := by obtain ⟨_, _, e, h⟩ := own_slice ho9; injection e with _ _ e3; omega
  have HK9 := Lib.hid (Rd.of_own ho9)
  have HG6 := Lib.hid (HG5.out.trans' hf9)
  have HH6 := Lib.hid (HH5.out.trans' hf9)
  have HK8 := Lib.hid (HK8.out.frm' hf9)
  have hs6 := hf9.size
  clear ho9 hf9 d1
  try dsimp only
  go_upto_region 8 with fail
  obtain ⟨cs, hcs⟩ : ∃ cs : List Value, cs = (List.range 32).map (shaAt mp) := ⟨_, rfl⟩
  have harr : arr 32 (shaAt mp) = cs.toArray := by rw [hcs]; rfl
  have HA := Lib.hid harr
  have HU : Hid (Tryd.prog.underlying 26 = some (.array 32 5)) := Lib.hid Tryd.underlying26
  have HSZ : Hid ((Tryd.prog.info? 26).map (·.size) = some cs.length) := Lib.hid (by rw [hcs, List.length_map, List.length_range]; rfl)
  have hfd : Frm noB w6 w6.drew := (Frm.refl noB w6).drew
  have hsd : w6.heap.size ≤ w6.drew.heap.size := hfd.size
  have HPB6 := Lib.hid (HPB.out.frm' (HG6.out.trans' hfd))
  have HDB6 := Lib.hid ((HDB.out.frm' HF1Z.out).frm' (HG6.out.trans' hfd))
  have HF6 := Lib.hid (HF.out.trans' (HG6.out.trans' hfd))
  have HL7 := Lib.hid (own_frm' HO7.out (HH6.out.trans' hfd))
  have HL8 := Lib.hid (HK8.out.frm' hfd)
  have HL9 := Lib.hid (HK9.out.frm' hfd)
  have HOS : Hid (Owns w6.drew [(wz.heap.size, .slice A3 xw.length c3, xw)]) := Lib.hid ((Owns.nil _).push (own_frm' HW3.out ((HH4.out.trans' HH6.out).trans' hfd)))
  have B3 : Hid (∀ q, oB (.slice A3 xw.length c3) q → wz.heap.size ≤ q ∧ q < w3.heap.size) := Lib.hid fun q hq => own_lt HW3.out q hq
  have B7 : Hid (∀ q, oB (.slice A7 (info.length + 64) c7) q → w3.heap.size ≤ q ∧ q < w4.heap.size) := Lib.hid fun q hq => own_lt HO7.out q hq
  clear hcs hfd HPB HDB HF1Z HW3 HO7 HK8 HK9 HG3 HG4 HG5 HG6 HH4 HH5 HH6 HF harr HF1
  have s6 : (w6.drew.rangeAt w2.heap.size 0 cs ∧ w6.drew.cell? ⟨w.heap.size, 0, none⟩ = some (.slice A salt.length ca) ∧ w6.drew.cell? ⟨w.heap.size, 1, none⟩ = some (.slice B secret.length cb) ∧ w6.drew.cell? ⟨w.heap.size, 2, none⟩ = some (.slice C info.length cc)) := ⟨HPB6.out.range HA.out, HDB6.out.cell 0, HDB6.out.cell 1, HDB6.out.cell 2⟩
  refine wp_region_held_drew (S := fun w' => w'.rangeAt w2.heap.size 0 cs ∧ w'.cell? ⟨w.heap.size, 0, none⟩ = some (.slice A salt.length ca) ∧ w'.cell? ⟨w.heap.size, 1, none⟩ = some (.slice B secret.length cb) ∧ w'.cell? ⟨w.heap.size, 2, none⟩ = some (.slice C info.length cc)) (by kernel_rfl) s6 (fun hHeld => ?_)
  generalize w6.drew = wd at *
  have HSS : Hid (∀ w', Frm noB wd w' → w'.rangeAt w2.heap.size 0 cs ∧ w'.cell? ⟨w.heap.size, 0, none⟩ = some (.slice A salt.length ca) ∧ w'.cell? ⟨w.heap.size, 1, none⟩ = some (.slice B secret.length cb) ∧ w'.cell? ⟨w.heap.size, 2, none⟩ = some (.slice C info.length cc)) := Lib.hid fun w' hf => ⟨(HPB6.out.frm' hf).range HA.out, (HDB6.out.frm' hf).cell 0, (HDB6.out.frm' hf).cell 1, (HDB6.out.frm' hf).cell 2⟩
  have HALL : Hid (∀ w', Frm noB wd w' → TabOk w' ∧ Rd w' A (salt.map bv) ∧ Rd w' B (secret.map bv) ∧ Rd w' C (info.map bv) ∧ Rd w' A7 (info.map bv) ∧ Rd w' A8 (salt.map bv) ∧ Rd w' A9 (secret.map bv)) := Lib.hid fun w' hf =>
    have hl : ∀ {A : Option Addr} {xs : List UInt8}, Rd wd A ((lentL xs).map bv) → Rd w' A (xs.map bv) := fun {A xs} h => by
      have h := (h.frm' hf).takeB xs.length
      unfold lentL at h
      rwa [List.take_left] at h
    have hf' := HF6.out.trans' hf
    ⟨HT.out.frm' hf', HX.out.frm' hf', HY.out.frm' hf', HZ.out.frm' hf', hl (Rd.of_own HL7.out), hl HL8.out, hl HL9.out⟩
  refine takeC (i := 0) (.agg cs.toArray) rfl (by kernel_rfl) (by kernel_rfl) (by kernel_rfl) (fun _ _ _ h => h) (yieldsIf_load_mid (by rfl) _ _ rfl w2.heap.size 0 rfl cs _ (fun w hw => hw.1) HU.out rfl HSZ.out) s6 ?_
  try simp only [Act.put, List.setIfInBounds_toArray, List.set_cons_zero, List.set_cons_succ]
  refine takeC (i := 1) (.slice A7 (info.length + 64) c7) rfl (by kernel_rfl) (by kernel_rfl) (by kernel_rfl) (fun _ _ _ h => h) (Or.inl ⟨by rfl, fun w hw => by go_simp⟩) s6 ?_
  try simp only [Act.put, List.setIfInBounds_toArray, List.set_cons_zero, List.set_cons_succ]
  refine takeC (i := 2) (.pointer (some ⟨w.heap.size, 2, none⟩)) rfl (by kernel_rfl) (by kernel_rfl) (by kernel_rfl) (fun _ _ _ h => h) (Or.inl ⟨by rfl, fun w hw => by go_simp⟩) s6 ?_
  try simp only [Act.put, List.setIfInBounds_toArray, List.set_cons_zero, List.set_cons_succ]
  refine takeC (i := 3) (.slice C info.length cc) rfl (by kernel_rfl) (by kernel_rfl) (by kernel_rfl) (fun _ _ _ h => h) (Or.inl ⟨by rfl, fun w hw => by go_simp⟩) s6 ?_
  try simp only [Act.put, List.setIfInBounds_toArray, List.set_cons_zero, List.set_cons_succ]
  refine takeC (i := 4) (.int .i64 info.length) rfl (by kernel_rfl) (by kernel_rfl) (by kernel_rfl) (fun _ _ _ h => h) (Or.inl ⟨by rfl, fun w hw => by go_simp⟩) s6 ?_
  try simp only [Act.put, List.setIfInBounds_toArray, List.set_cons_zero, List.set_cons_succ]
  refine takeC (i := 5) (.slice A7 info.length c7) rfl (by kernel_rfl) (by kernel_rfl) (by kernel_rfl) (fun _ _ _ h => h) (Or.inl ⟨by rfl, fun w hw => by go_simp⟩) s6 ?_
  try simp only [Act.put, List.setIfInBounds_toArray, List.set_cons_zero, List.set_cons_succ]
  refine takeC (i := 6) (.int .i64 n) rfl (by kernel_rfl) (by kernel_rfl) (by kernel_rfl) (fun _ _ _ h => h) (Or.inl ⟨by rfl, fun w hw => by go_simp⟩) s6 ?_
  try simp only [Act.put, List.setIfInBounds_toArray, List.set_cons_zero, List.set_cons_succ]
  refine consC (i := 7) rfl (by kernel_rfl) (fun K hK => ?_)
  go_simp
  go_at_call 52
  have hS := dexp_any wd mp A7 info c7 n (HALL.out _ (Frm.refl noB wd)).1 (HALL.out _ (Frm.refl noB wd)).2.2.2.2.1 hc7 (by omega)
  rw [HXW.out, HE.out, HA.out] at hS
  refine hS.mono ?_
  clear hS
  rintro _ w7 ⟨A10, c10, rfl, ho, hf⟩
  have HG7 := Lib.hid hf
  have HOS7 := Lib.hid ((HOS.out.frm' hf).push ho)
  have B10 : Hid (∀ q, oB (.slice A10 xw.length c10) q → wd.heap.size ≤ q ∧ q < w7.heap.size) := Lib.hid fun q hq => own_lt ho q hq
  have s7 := HSS.out _ hf
  have hs7 := hf.size
  clear ho hf HOS
  try dsimp only
  refine hK.out _ _ s7 (fun hHeld => ?_)
  clear hK K
  try simp only [Act.put, List.setIfInBounds_toArray, List.set_cons_zero, List.set_cons_succ]
  refine takeC (i := 8) (.tuple #[.slice A10 xw.length c10, .int .i64 e]) rfl (by kernel_rfl) (by kernel_rfl) (by kernel_rfl) (fun _ _ _ h => h) (Or.inl ⟨by rfl, fun w hw => by go_simp⟩) s7 ?_
  try simp only [Act.put, List.setIfInBounds_toArray, List.set_cons_zero, List.set_cons_succ]
  refine takeC (i := 9) (.slice A10 xw.length c10) rfl (by kernel_rfl) (by kernel_rfl) (by kernel_rfl) (fun _ _ _ h => h) (Or.inl ⟨by rfl, fun w hw => by go_simp⟩) s7 ?_
  try simp only [Act.put, List.setIfInBounds_toArray, List.set_cons_zero, List.set_cons_succ]
  refine takeC (i := 10) (.int .i64 e) rfl (by kernel_rfl) (by kernel_rfl) (by kernel_rfl) (fun _ _ _ h => h) (Or.inl ⟨by rfl, fun w hw => by go_simp⟩) s7 ?_
  try simp only [Act.put, List.setIfInBounds_toArray, List.set_cons_zero, List.set_cons_succ]
  refine takeC (i := 11) (.slice A10 xw.length c10) rfl (by kernel_rfl) (by kernel_rfl) (by kernel_rfl) (fun _ _ _ h => h) (Or.inl ⟨by rfl, fun w hw => by go_simp⟩) s7 ?_
  try simp only [Act.put, List.setIfInBounds_toArray, List.set_cons_zero, List.set_cons_succ]
  refine takeC (i := 12) (.int .i64 e) rfl (by kernel_rfl) (by kernel_rfl) (by kernel_rfl) (fun _ _ _ h => h) (Or.inl ⟨by rfl, fun w hw => by go_simp⟩) s7 ?_
  try simp only [Act.put, List.setIfInBounds_toArray, List.set_cons_zero, List.set_cons_succ]
  refine wpAnyH_done (by kernel_rfl) ?_ _
  clear s6 hHeld
  go_upto_region 9 with fail
  have hfd : Frm noB w7 w7.drew := (Frm.refl noB w7).drew
  have hsd7 : w7.heap.size ≤ w7.drew.heap.size := hfd.size
  have HG7 := Lib.hid (HG7.out.trans' hfd)
  have HOS7 := Lib.hid (HOS7.out.frm' hfd)
  clear hfd s7
  have s8 := HSS.out _ HG7.out
  refine wp_region_held_drew (S := fun w' => w'.rangeAt w2.heap.size 0 cs ∧ w'.cell? ⟨w.heap.size, 0, none⟩ = some (.slice A salt.length ca) ∧ w'.cell? ⟨w.heap.size, 1, none⟩ = some (.slice B secret.length cb) ∧ w'.cell? ⟨w.heap.size, 2, none⟩ = some (.slice C info.length cc)) (by kernel_rfl) s8 (fun hHeld => ?_)
  generalize w7.drew = w8 at *
  refine takeC (i := 0) (.agg cs.toArray) rfl (by kernel_rfl) (by kernel_rfl) (by kernel_rfl) (fun _ _ _ h => h) (yieldsIf_load_mid (by rfl) _ _ rfl w2.heap.size 0 rfl cs _ (fun w hw => hw.1) HU.out rfl HSZ.out) s8 ?_
  try simp only [Act.put, List.setIfInBounds_toArray, List.set_cons_zero, List.set_cons_succ]
  refine takeC (i := 1) (.slice A7 (info.length + 64) c7) rfl (by kernel_rfl) (by kernel_rfl) (by kernel_rfl) (fun _ _ _ h => h) (Or.inl ⟨by rfl, fun w hw => by go_simp⟩) s8 ?_
  try simp only [Act.put, List.setIfInBounds_toArray, List.set_cons_zero, List.set_cons_succ]
  refine takeC (i := 2) (.pointer (some ⟨w.heap.size, 2, none⟩)) rfl (by kernel_rfl) (by kernel_rfl) (by kernel_rfl) (fun _ _ _ h => h) (Or.inl ⟨by rfl, fun w hw => by go_simp⟩) s8 ?_
  try simp only [Act.put, List.setIfInBounds_toArray, List.set_cons_zero, List.set_cons_succ]
  refine takeC (i := 3) (.slice C info.length cc) rfl (by kernel_rfl) (by kernel_rfl) (by kernel_rfl) (fun _ _ _ h => h) (Or.inl ⟨by rfl, fun w hw => by go_simp⟩) s8 ?_
  try simp only [Act.put, List.setIfInBounds_toArray, List.set_cons_zero, List.set_cons_succ]
  refine takeC (i := 4) (.int .i64 info.length) rfl (by kernel_rfl) (by kernel_rfl) (by kernel_rfl) (fun _ _ _ h => h) (Or.inl ⟨by rfl, fun w hw => by go_simp⟩) s8 ?_
  try simp only [Act.put, List.setIfInBounds_toArray, List.set_cons_zero, List.set_cons_succ]
  refine takeC (i := 5) (.slice A7 info.length c7) rfl (by kernel_rfl) (by kernel_rfl) (by kernel_rfl) (fun _ _ _ h => h) (Or.inl ⟨by rfl, fun w hw => by go_simp⟩) s8 ?_
  try simp only [Act.put, List.setIfInBounds_toArray, List.set_cons_zero, List.set_cons_succ]
  refine takeC (i := 6) (.int .i64 n) rfl (by kernel_rfl) (by kernel_rfl) (by kernel_rfl) (fun _ _ _ h => h) (Or.inl ⟨by rfl, fun w hw => by go_simp⟩) s8 ?_
  try simp only [Act.put, List.setIfInBounds_toArray, List.set_cons_zero, List.set_cons_succ]
  refine consC (i := 7) rfl (by kernel_rfl) (fun K hK => ?_)
  go_simp
  go_at_call 52
  have hS := dexp_any w8 mp A7 info c7 n (HALL.out _ HG7.out).1 (HALL.out _ HG7.out).2.2.2.2.1 hc7 (by omega)
  rw [HXW.out, HE.out, HA.out] at hS
  refine hS.mono ?_
  clear hS
  rintro _ w9 ⟨A12, c12, rfl, ho, hf⟩
  have HG9 := Lib.hid (HG7.out.trans' hf)
  have HOS9 := Lib.hid ((HOS7.out.frm' hf).push ho)
  have B12 : Hid (∀ q, oB (.slice A12 xw.length c12) q → w8.heap.size ≤ q ∧ q < w9.heap.size) := Lib.hid fun q hq => own_lt ho q hq
  have s9 := HSS.out _ HG9.out
  have hs9 := hf.size
  clear ho hf HOS7 HG7
  try dsimp only
  refine hK.out _ _ s9 (fun hHeld => ?_)
  clear hK K
  try simp only [Act.put, List.setIfInBounds_toArray, List.set_cons_zero, List.set_cons_succ]
  refine takeC (i := 8) (.tuple #[.slice A12 xw.length c12, .int .i64 e]) rfl (by kernel_rfl) (by kernel_rfl) (by kernel_rfl) (fun _ _ _ h => h) (Or.inl ⟨by rfl, fun w hw => by go_simp⟩) s9 ?_
  try simp only [Act.put, List.setIfInBounds_toArray, List.set_cons_zero, List.set_cons_succ]
  refine takeC (i := 9) (.slice A12 xw.length c12) rfl (by kernel_rfl) (by kernel_rfl) (by kernel_rfl) (fun _ _ _ h => h) (Or.inl ⟨by rfl, fun w hw => by go_simp⟩) s9 ?_
  try simp only [Act.put, List.setIfInBounds_toArray, List.set_cons_zero, List.set_cons_succ]
  refine takeC (i := 10) (.int .i64 e) rfl (by kernel_rfl) (by kernel_rfl) (by kernel_rfl) (fun _ _ _ h => h) (Or.inl ⟨by rfl, fun w hw => by go_simp⟩) s9 ?_
  try simp only [Act.put, List.setIfInBounds_toArray, List.set_cons_zero, List.set_cons_succ]
  refine takeC (i := 11) (.slice A12 xw.length c12) rfl (by kernel_rfl) (by kernel_rfl) (by kernel_rfl) (fun _ _ _ h => h) (Or.inl ⟨by rfl, fun w hw => by go_simp⟩) s9 ?_
  try simp only [Act.put, List.setIfInBounds_toArray, List.set_cons_zero, List.set_cons_succ]
  refine takeC (i := 12) (.int .i64 e) rfl (by kernel_rfl) (by kernel_rfl) (by kernel_rfl) (fun _ _ _ h => h) (Or.inl ⟨by rfl, fun w hw => by go_simp⟩) s9 ?_
  try simp only [Act.put, List.setIfInBounds_toArray, List.set_cons_zero, List.set_cons_succ]
  refine wpAnyH_done (by kernel_rfl) ?_ _
  clear s8 hHeld
  go_upto_region 10 with fail
  have hfd : Frm noB w9 w9.drew := (Frm.refl noB w9).drew
  have hsd9 : w9.heap.size ≤ w9.drew.heap.size := hfd.size
  have HG9 := Lib.hid (HG9.out.trans' hfd)
  have HOS9 := Lib.hid (HOS9.out.frm' hfd)
  clear hfd s9
  have sA := HSS.out _ HG9.out
  refine wp_region_held_drew (S := fun w' => w'.rangeAt w2.heap.size 0 cs ∧ w'.cell? ⟨w.heap.size, 0, none⟩ = some (.slice A salt.length ca) ∧ w'.cell? ⟨w.heap.size, 1, none⟩ = some (.slice B secret.length cb) ∧ w'.cell? ⟨w.heap.size, 2, none⟩ = some (.slice C info.length cc)) (by kernel_rfl) sA (fun hHeld => ?_)
  generalize w9.drew = wa at *
  refine takeC (i := 0) (.slice A8 (salt.length + 64) c8) rfl (by kernel_rfl) (by kernel_rfl) (by kernel_rfl) (fun _ _ _ h => h) (Or.inl ⟨by rfl, fun w hw => by go_simp⟩) sA ?_
  try simp only [Act.put, List.setIfInBounds_toArray, List.set_cons_zero, List.set_cons_succ]
  refine takeC (i := 1) (.pointer (some ⟨w.heap.size, 0, none⟩)) rfl (by kernel_rfl) (by kernel_rfl) (by kernel_rfl) (fun _ _ _ h => h) (Or.inl ⟨by rfl, fun w hw => by go_simp⟩) sA ?_
  try simp only [Act.put, List.setIfInBounds_toArray, List.set_cons_zero, List.set_cons_succ]
  refine takeC (i := 2) (.slice A salt.length ca) rfl (by kernel_rfl) (by kernel_rfl) (by kernel_rfl) (fun _ _ _ h => h) (Or.inl ⟨by rfl, fun w hw => by go_simp⟩) sA ?_
  try simp only [Act.put, List.setIfInBounds_toArray, List.set_cons_zero, List.set_cons_succ]
  refine takeC (i := 3) (.int .i64 salt.length) rfl (by kernel_rfl) (by kernel_rfl) (by kernel_rfl) (fun _ _ _ h => h) (Or.inl ⟨by rfl, fun w hw => by go_simp⟩) sA ?_
  try simp only [Act.put, List.setIfInBounds_toArray, List.set_cons_zero, List.set_cons_succ]
  refine takeC (i := 4) (.slice A8 salt.length c8) rfl (by kernel_rfl) (by kernel_rfl) (by kernel_rfl) (fun _ _ _ h => h) (Or.inl ⟨by rfl, fun w hw => by go_simp⟩) sA ?_
  try simp only [Act.put, List.setIfInBounds_toArray, List.set_cons_zero, List.set_cons_succ]
  refine takeC (i := 5) (.slice A9 (secret.length + 64) c9) rfl (by kernel_rfl) (by kernel_rfl) (by kernel_rfl) (fun _ _ _ h => h) (Or.inl ⟨by rfl, fun w hw => by go_simp⟩) sA ?_
  try simp only [Act.put, List.setIfInBounds_toArray, List.set_cons_zero, List.set_cons_succ]
  refine takeC (i := 6) (.pointer (some ⟨w.heap.size, 1, none⟩)) rfl (by kernel_rfl) (by kernel_rfl) (by kernel_rfl) (fun _ _ _ h => h) (Or.inl ⟨by rfl, fun w hw => by go_simp⟩) sA ?_
  try simp only [Act.put, List.setIfInBounds_toArray, List.set_cons_zero, List.set_cons_succ]
  refine takeC (i := 7) (.slice B secret.length cb) rfl (by kernel_rfl) (by kernel_rfl) (by kernel_rfl) (fun _ _ _ h => h) (Or.inl ⟨by rfl, fun w hw => by go_simp⟩) sA ?_
  try simp only [Act.put, List.setIfInBounds_toArray, List.set_cons_zero, List.set_cons_succ]
  refine takeC (i := 8) (.int .i64 secret.length) rfl (by kernel_rfl) (by kernel_rfl) (by kernel_rfl) (fun _ _ _ h => h) (Or.inl ⟨by rfl, fun w hw => by go_simp⟩) sA ?_
  try simp only [Act.put, List.setIfInBounds_toArray, List.set_cons_zero, List.set_cons_succ]
  refine takeC (i := 9) (.slice A9 secret.length c9) rfl (by kernel_rfl) (by kernel_rfl) (by kernel_rfl) (fun _ _ _ h => h) (Or.inl ⟨by rfl, fun w hw => by go_simp⟩) sA ?_
  try simp only [Act.put, List.setIfInBounds_toArray, List.set_cons_zero, List.set_cons_succ]
  refine takeC (i := 10) (.slice A7 (info.length + 64) c7) rfl (by kernel_rfl) (by kernel_rfl) (by kernel_rfl) (fun _ _ _ h => h) (Or.inl ⟨by rfl, fun w hw => by go_simp⟩) sA ?_
  try simp only [Act.put, List.setIfInBounds_toArray, List.set_cons_zero, List.set_cons_succ]
  refine takeC (i := 11) (.pointer (some ⟨w.heap.size, 2, none⟩)) rfl (by kernel_rfl) (by kernel_rfl) (by kernel_rfl) (fun _ _ _ h => h) (Or.inl ⟨by rfl, fun w hw => by go_simp⟩) sA ?_
  try simp only [Act.put, List.setIfInBounds_toArray, List.set_cons_zero, List.set_cons_succ]
  refine takeC (i := 12) (.slice C info.length cc) rfl (by kernel_rfl) (by kernel_rfl) (by kernel_rfl) (fun _ _ _ h => h) (Or.inl ⟨by rfl, fun w hw => by go_simp⟩) sA ?_
  try simp only [Act.put, List.setIfInBounds_toArray, List.set_cons_zero, List.set_cons_succ]
  refine takeC (i := 13) (.int .i64 info.length) rfl (by kernel_rfl) (by kernel_rfl) (by kernel_rfl) (fun _ _ _ h => h) (Or.inl ⟨by rfl, fun w hw => by go_simp⟩) sA ?_
  try simp only [Act.put, List.setIfInBounds_toArray, List.set_cons_zero, List.set_cons_succ]
  refine takeC (i := 14) (.slice A7 info.length c7) rfl (by kernel_rfl) (by kernel_rfl) (by kernel_rfl) (fun _ _ _ h => h) (Or.inl ⟨by rfl, fun w hw => by go_simp⟩) sA ?_
  try simp only [Act.put, List.setIfInBounds_toArray, List.set_cons_zero, List.set_cons_succ]
  refine takeC (i := 15) (.int .i64 n) rfl (by kernel_rfl) (by kernel_rfl) (by kernel_rfl) (fun _ _ _ h => h) (Or.inl ⟨by rfl, fun w hw => by go_simp⟩) sA ?_
  try simp only [Act.put, List.setIfInBounds_toArray, List.set_cons_zero, List.set_cons_succ]
  refine consC (i := 16) rfl (by kernel_rfl) (fun K hK => ?_)
  go_simp
  go_at_call 53
  obtain ⟨t0, t1, t2, t3, t4, t5, t6⟩ := HALL.out _ HG9.out
  have hS := derive_any wa A8 A9 A7 salt secret info c8 c9 c7 n mp HMP.out t0 t5 t6 t4 hc8 hc9 hc7 (by omega) (by omega) (by omega)
  rw [HXW.out, HE.out] at hS
  refine hS.mono ?_
  clear hS t0 t1 t2 t3 t4 t5 t6
  rintro _ wb ⟨A14, c14, rfl, ho, hf⟩
  have HG := Lib.hid (HG9.out.trans' hf)
  have HOS := Lib.hid ((HOS9.out.frm' hf).push ho)
  have HWB : Hid (Frm noB wb wb) := Lib.hid (Frm.refl _ _)
  have B14 : Hid (∀ q, oB (.slice A14 xw.length c14) q → wa.heap.size ≤ q ∧ q < wb.heap.size) := Lib.hid fun q hq => own_lt ho q hq
  have sB := HSS.out _ HG.out
  have hsb := hf.size
  clear ho hf HOS9 HG9
  try dsimp only
  refine hK.out _ _ sB (fun hHeld => ?_)
  clear hK K
  try simp only [Act.put, List.setIfInBounds_toArray, List.set_cons_zero, List.set_cons_succ]
  refine takeC (i := 17) (.tuple #[.slice A14 xw.length c14, .int .i64 e]) rfl (by kernel_rfl) (by kernel_rfl) (by kernel_rfl) (fun _ _ _ h => h) (Or.inl ⟨by rfl, fun w hw => by go_simp⟩) sB ?_
  try simp only [Act.put, List.setIfInBounds_toArray, List.set_cons_zero, List.set_cons_succ]
  refine takeC (i := 18) (.slice A14 xw.length c14) rfl (by kernel_rfl) (by kernel_rfl) (by kernel_rfl) (fun _ _ _ h => h) (Or.inl ⟨by rfl, fun w hw => by go_simp⟩) sB ?_
  try simp only [Act.put, List.setIfInBounds_toArray, List.set_cons_zero, List.set_cons_succ]
  refine takeC (i := 19) (.int .i64 e) rfl (by kernel_rfl) (by kernel_rfl) (by kernel_rfl) (fun _ _ _ h => h) (Or.inl ⟨by rfl, fun w hw => by go_simp⟩) sB ?_
  try simp only [Act.put, List.setIfInBounds_toArray, List.set_cons_zero, List.set_cons_succ]
  refine takeC (i := 20) (.slice A14 xw.length c14) rfl (by kernel_rfl) (by kernel_rfl) (by kernel_rfl) (fun _ _ _ h => h) (Or.inl ⟨by rfl, fun w hw => by go_simp⟩) sB ?_
  try simp only [Act.put, List.setIfInBounds_toArray, List.set_cons_zero, List.set_cons_succ]
  refine takeC (i := 21) (.int .i64 e) rfl (by kernel_rfl) (by kernel_rfl) (by kernel_rfl) (fun _ _ _ h => h) (Or.inl ⟨by rfl, fun w hw => by go_simp⟩) sB ?_
  try simp only [Act.put, List.setIfInBounds_toArray, List.set_cons_zero, List.set_cons_succ]
  refine wpAnyH_done (by kernel_rfl) ?_ _
  clear sA sB hHeld
  go_wp2_with fail
  have hS := same_n A10 A3 xw xw xw.length xw.length c10 c3 wb rfl rfl (Rd.of_own (HOS.out (wd.heap.size, .slice A10 xw.length c10, xw) (by simp))) (Rd.of_own (HOS.out (wz.heap.size, .slice A3 xw.length c3, xw) (by simp))) (by unfold Len; omega) (by unfold Len; omega)
  rw [eql_true rfl] at hS
  refine hS.mono ?_
  clear hS
  rintro _ wc0 ⟨rfl, hf⟩
  have HG := Lib.hid (HG.out.trans' hf)
  have HOS := Lib.hid (HOS.out.frm' hf)
  have HWB := Lib.hid (HWB.out.trans' hf)
  clear hf
  try dsimp only
  go_wp2_with fail
  have hS := same_n A12 A3 xw xw xw.length xw.length c12 c3 wc0 rfl rfl (Rd.of_own (HOS.out (w8.heap.size, .slice A12 xw.length c12, xw) (by simp))) (Rd.of_own (HOS.out (wz.heap.size, .slice A3 xw.length c3, xw) (by simp))) (by unfold Len; omega) (by unfold Len; omega)
  rw [eql_true rfl] at hS
  refine hS.mono ?_
  clear hS
  rintro _ wc1 ⟨rfl, hf⟩
  have HG := Lib.hid (HG.out.trans' hf)
  have HOS := Lib.hid (HOS.out.frm' hf)
  have HWB := Lib.hid (HWB.out.trans' hf)
  clear hf
  try dsimp only
  go_wp2_with fail
  have hS := same_n A14 A3 xw xw xw.length xw.length c14 c3 wc1 rfl rfl (Rd.of_own (HOS.out (wa.heap.size, .slice A14 xw.length c14, xw) (by simp))) (Rd.of_own (HOS.out (wz.heap.size, .slice A3 xw.length c3, xw) (by simp))) (by unfold Len; omega) (by unfold Len; omega)
  rw [eql_true rfl] at hS
  refine hS.mono ?_
  clear hS
  rintro _ wc2 ⟨rfl, hf⟩
  have HG := Lib.hid (HG.out.trans' hf)
  have HOS := Lib.hid (HOS.out.frm' hf)
  have HWB := Lib.hid (HWB.out.trans' hf)
  clear hf
  try dsimp only
  obtain ⟨-, e0, e1, e2⟩ := HSS.out _ HG.out
  go_wp2_with fail
  refine (kept1_any wc2 A7 C info c7 cc ((Rd.of_own HL7.out).frm' HG.out) (HALL.out _ HG.out).2.2.2.1 (by omega)).mono ?_
  rintro _ wk0 ⟨rfl, hf⟩
  have HG := Lib.hid (HG.out.trans' hf)
  have HOS := Lib.hid (HOS.out.frm' hf)
  have HWB := Lib.hid (HWB.out.trans' hf)
  clear hf e0 e1 e2
  try dsimp only
  obtain ⟨-, e0, e1, e2⟩ := HSS.out _ HG.out
  go_wp2_with fail
  refine (kept1_any wk0 A8 A salt c8 ca (HL8.out.frm' HG.out) (HALL.out _ HG.out).2.1 (by omega)).mono ?_
  rintro _ wk1 ⟨rfl, hf⟩
  have HG := Lib.hid (HG.out.trans' hf)
  have HOS := Lib.hid (HOS.out.frm' hf)
  have HWB := Lib.hid (HWB.out.trans' hf)
  clear hf e0 e1 e2
  try dsimp only
  obtain ⟨-, e0, e1, e2⟩ := HSS.out _ HG.out
  go_wp2_with fail
  refine (kept1_any wk1 A9 B secret c9 cb (HL9.out.frm' HG.out) (HALL.out _ HG.out).2.2.1 (by omega)).mono ?_
  rintro _ wk2 ⟨rfl, hf⟩
  have HG := Lib.hid (HG.out.trans' hf)
  have HOS := Lib.hid (HOS.out.frm' hf)
  have HWB := Lib.hid (HWB.out.trans' hf)
  clear hf e0 e1 e2
  try dsimp only
  obtain ⟨-, e0, e1, e2⟩ := HSS.out _ HG.out
  go_wp2_with fail
  clear e0 e1 e2
  have HL := Lib.hid (own_frm' HL7.out HG.out)
  go_loopw [16] (fun i wr => ∃ (k : Nat) (ys : List UInt8), k ≤ info.length ∧ i = .int .i64 k ∧ ys.length = info.length + 64 ∧ wr.ownsRow w3.heap.size 5 1 (.slice A7 (info.length + 64) c7) (info.length + 64) (ys.map bv) ∧ Frm (oB (.slice A7 (info.length + 64) c7)) wk2 wr) (fun i _ => info.length - (intOf i).toNat)
  case atStart => exact ⟨0, lentL info, Nat.zero_le _, rfl, lentL_length _, HL.out, Frm.refl _ _⟩
  case round =>
    clear HL
    obtain ⟨k, ys, hk, rfl, hyl, ho, hF⟩ := hrel
    have HO := Lib.hid ho
    have HFR := Lib.hid hF
    have HYL := Lib.hid hyl
    have e2 : wr.cell? ⟨w.heap.size, 2, none⟩ = some (.slice C info.length cc) := ((HDB6.out.frm' HG.out).frm hF (HDB6.out.own_ne HL7.out (by decide))).cell 2
    clear ho hF hyl
    by_cases hlt : k < info.length
    · obtain ⟨g, x, rfl, hcu, hfz, hg, hput⟩ := own_putb HO.out (j := k) (by omega)
      have HPUT := Lib.hid hput
      clear hput
      go_wp2_with fail
      obtain ⟨ys', e1, e2⟩ := HPUT.out _ (bits_lo_u8 .xor _ 68) (bits_hi_u8 .xor _ 68)
      exact ⟨⟨k + 1, ys', by omega, by go_num, by rw [e1]; exact HYL.out, e2, HFR.out.setCell (.inl hg) _⟩, by simp [intOf]; omega⟩
    · have ek : k = info.length := by omega
      subst ek
      clear dz2 d1
      obtain ⟨zs, hzs⟩ : ∃ zs, zs = ys.take info.length := ⟨_, rfl⟩
      have hzl : zs.length = info.length := by rw [hzs, List.length_take, HYL.out]; omega
      have HZL := Lib.hid hzl
      obtain ⟨xz, hxz⟩ : ∃ xz, expW (sha mp) zs n = xz := ⟨_, rfl⟩
      have hxzl : xz.length ≤ 8160 := by rw [← hxz]; exact expW_le _ _ _
      have HXZ := Lib.hid hxz
      have HL7w := Lib.hid (own_frm' HL7.out HG.out)
      have HB2 := Lib.hid ((HPB6.out.frm' HG.out).frm HFR.out ((HPB6.out.frm' HG.out).own_ne HL7w.out (by decide)))
      have HD2 := Lib.hid ((HDB6.out.frm' HG.out).frm HFR.out ((HDB6.out.frm' HG.out).own_ne HL7w.out (by decide)))
      have HF2 : Hid (Frm noB w wr) := Lib.hid ((HF6.out.trans' HG.out).trans HFR.out fun q hq h => by have := B7.out q h; omega)
      have H7L : Hid (∀ q, aB A7 q → q < w4.heap.size) := Lib.hid fun q ⟨x, hx, hq⟩ => (B7.out q (by subst hx; subst hq; rfl)).2
      have HRZ : Hid (Rd wr A7 (zs.map bv)) := Lib.hid (by rw [hzs]; exact own_rd HO.out)
      have hwd : wd.heap.size ≤ wr.heap.size := Nat.le_trans HG.out.size HFR.out.size
      have hwb : wb.heap.size ≤ wr.heap.size := Nat.le_trans HWB.out.size HFR.out.size
      have HOS2 := Lib.hid (HOS.out.frm HFR.out fun x hx q hq h => by
        have h7 := B7.out q h
        simp only [List.mem_cons, List.not_mem_nil, or_false] at hx
        rcases hx with rfl | rfl | rfl | rfl
        · have := B14.out q hq; omega
        · have := B12.out q hq; omega
        · have := B10.out q hq; omega
        · have := B3.out q hq; omega)
      have HS2 : Hid (∀ w', Frm noB wr w' → w'.rangeAt w2.heap.size 0 cs ∧ w'.cell? ⟨w.heap.size, 0, none⟩ = some (.slice A salt.length ca) ∧ w'.cell? ⟨w.heap.size, 1, none⟩ = some (.slice B secret.length cb) ∧ w'.cell? ⟨w.heap.size, 2, none⟩ = some (.slice C info.length cc)) := Lib.hid fun w' hf => ⟨(HB2.out.frm' hf).range HA.out, (HD2.out.frm' hf).cell 0, (HD2.out.frm' hf).cell 1, (HD2.out.frm' hf).cell 2⟩
      have HA2 : Hid (∀ w', Frm noB wr w' → TabOk w' ∧ Rd w' A7 (zs.map bv)) := Lib.hid fun w' hf => ⟨HT.out.frm' (HF2.out.trans' hf), HRZ.out.frm' hf⟩
      clear hzs hzl hxz HPB6 HDB6 HF6 HL7 HL8 HL9 HSS HALL HOS HG HFR HO HRZ HL7w HYL
      go_wp2_with fail
      clear e2
      refine (twin_n wr A7 zs info.length c7 HZL.out (HA2.out _ (Frm.refl _ _)).2 (by omega)).mono ?_
      rintro _ wt ⟨A17, c17, rfl, ho, hf⟩
      have hc17 : info.length ≤ c17 := by obtain ⟨_, _, e, h⟩ := own_slice ho; injection e with _ _ e3; omega
      have HG := Lib.hid hf
      have HOS := Lib.hid ((HOS2.out.frm' hf).push (xs := zs) (by rw [HZL.out]; exact ho))
      have B17 : Hid (∀ q, oB (.slice A17 info.length c17) q → wr.heap.size ≤ q ∧ q < wt.heap.size) := Lib.hid fun q hq => own_lt ho q hq
      have hst := hf.size
      clear ho hf HOS2
      try dsimp only
      go_upto_region 20 with fail
      have hfd : Frm noB wt wt.drew := (Frm.refl noB wt).drew
      have hsdt : wt.heap.size ≤ wt.drew.heap.size := hfd.size
      have HG1 := Lib.hid (HG.out.trans' hfd)
      have HOS1 := Lib.hid (HOS.out.frm' hfd)
      clear hfd HG HOS
      have st := HS2.out _ HG1.out
      refine wp_region_held_drew (S := fun w' => w'.rangeAt w2.heap.size 0 cs ∧ w'.cell? ⟨w.heap.size, 0, none⟩ = some (.slice A salt.length ca) ∧ w'.cell? ⟨w.heap.size, 1, none⟩ = some (.slice B secret.length cb) ∧ w'.cell? ⟨w.heap.size, 2, none⟩ = some (.slice C info.length cc)) (by kernel_rfl) st (fun hHeld => ?_)
      generalize wt.drew = wu at *
      refine takeC (i := 0) (.agg cs.toArray) rfl (by kernel_rfl) (by kernel_rfl) (by kernel_rfl) (fun _ _ _ h => h) (yieldsIf_load_mid (by rfl) _ _ rfl w2.heap.size 0 rfl cs _ (fun w hw => hw.1) HU.out rfl HSZ.out) st ?_
      try simp only [Act.put, List.setIfInBounds_toArray, List.set_cons_zero, List.set_cons_succ]
      refine takeC (i := 1) (.slice A7 (info.length + 64) c7) rfl (by kernel_rfl) (by kernel_rfl) (by kernel_rfl) (fun _ _ _ h => h) (Or.inl ⟨by rfl, fun w hw => by go_simp⟩) st ?_
      try simp only [Act.put, List.setIfInBounds_toArray, List.set_cons_zero, List.set_cons_succ]
      refine takeC (i := 2) (.pointer (some ⟨w.heap.size, 2, none⟩)) rfl (by kernel_rfl) (by kernel_rfl) (by kernel_rfl) (fun _ _ _ h => h) (Or.inl ⟨by rfl, fun w hw => by go_simp⟩) st ?_
      try simp only [Act.put, List.setIfInBounds_toArray, List.set_cons_zero, List.set_cons_succ]
      refine takeC (i := 3) (.slice C info.length cc) rfl (by kernel_rfl) (by kernel_rfl) (by kernel_rfl) (fun _ _ _ h => h) (Or.inl ⟨by rfl, fun w hw => by go_simp⟩) st ?_
      try simp only [Act.put, List.setIfInBounds_toArray, List.set_cons_zero, List.set_cons_succ]
      refine takeC (i := 4) (.int .i64 info.length) rfl (by kernel_rfl) (by kernel_rfl) (by kernel_rfl) (fun _ _ _ h => h) (Or.inl ⟨by rfl, fun w hw => by go_simp⟩) st ?_
      try simp only [Act.put, List.setIfInBounds_toArray, List.set_cons_zero, List.set_cons_succ]
      refine takeC (i := 5) (.slice A7 info.length c7) rfl (by kernel_rfl) (by kernel_rfl) (by kernel_rfl) (fun _ _ _ h => h) (Or.inl ⟨by rfl, fun w hw => by go_simp⟩) st ?_
      try simp only [Act.put, List.setIfInBounds_toArray, List.set_cons_zero, List.set_cons_succ]
      refine takeC (i := 6) (.int .i64 n) rfl (by kernel_rfl) (by kernel_rfl) (by kernel_rfl) (fun _ _ _ h => h) (Or.inl ⟨by rfl, fun w hw => by go_simp⟩) st ?_
      try simp only [Act.put, List.setIfInBounds_toArray, List.set_cons_zero, List.set_cons_succ]
      refine consC (i := 7) rfl (by kernel_rfl) (fun K hK => ?_)
      go_simp
      go_at_call 52
      have hS := dexp_any wu mp A7 zs c7 n (HA2.out _ HG1.out).1 (HA2.out _ HG1.out).2 (by rw [HZL.out]; exact hc7) (by rw [HZL.out]; omega)
      rw [HXZ.out, HE.out, HA.out, HZL.out] at hS
      refine hS.mono ?_
      clear hS
      rintro _ wv ⟨A18, c18, rfl, ho, hf⟩
      have HG := Lib.hid (HG1.out.trans' hf)
      have HOS := Lib.hid ((HOS1.out.frm' hf).push ho)
      have B18 : Hid (∀ q, oB (.slice A18 xz.length c18) q → wu.heap.size ≤ q ∧ q < wv.heap.size) := Lib.hid fun q hq => own_lt ho q hq
      have sv := HS2.out _ HG.out
      have hsv := hf.size
      clear ho hf HOS1 HG1
      try dsimp only
      refine hK.out _ _ sv (fun hHeld => ?_)
      clear hK K
      try simp only [Act.put, List.setIfInBounds_toArray, List.set_cons_zero, List.set_cons_succ]
      refine takeC (i := 8) (.tuple #[.slice A18 xz.length c18, .int .i64 e]) rfl (by kernel_rfl) (by kernel_rfl) (by kernel_rfl) (fun _ _ _ h => h) (Or.inl ⟨by rfl, fun w hw => by go_simp⟩) sv ?_
      try simp only [Act.put, List.setIfInBounds_toArray, List.set_cons_zero, List.set_cons_succ]
      refine takeC (i := 9) (.slice A18 xz.length c18) rfl (by kernel_rfl) (by kernel_rfl) (by kernel_rfl) (fun _ _ _ h => h) (Or.inl ⟨by rfl, fun w hw => by go_simp⟩) sv ?_
      try simp only [Act.put, List.setIfInBounds_toArray, List.set_cons_zero, List.set_cons_succ]
      refine takeC (i := 10) (.int .i64 e) rfl (by kernel_rfl) (by kernel_rfl) (by kernel_rfl) (fun _ _ _ h => h) (Or.inl ⟨by rfl, fun w hw => by go_simp⟩) sv ?_
      try simp only [Act.put, List.setIfInBounds_toArray, List.set_cons_zero, List.set_cons_succ]
      refine takeC (i := 11) (.slice A18 xz.length c18) rfl (by kernel_rfl) (by kernel_rfl) (by kernel_rfl) (fun _ _ _ h => h) (Or.inl ⟨by rfl, fun w hw => by go_simp⟩) sv ?_
      try simp only [Act.put, List.setIfInBounds_toArray, List.set_cons_zero, List.set_cons_succ]
      refine takeC (i := 12) (.int .i64 e) rfl (by kernel_rfl) (by kernel_rfl) (by kernel_rfl) (fun _ _ _ h => h) (Or.inl ⟨by rfl, fun w hw => by go_simp⟩) sv ?_
      try simp only [Act.put, List.setIfInBounds_toArray, List.set_cons_zero, List.set_cons_succ]
      refine wpAnyH_done (by kernel_rfl) ?_ _
      clear st hHeld sv
      go_wp2_with (refine wpList_load_want (by rfl) _ _ rfl w2.heap.size 0 rfl cs _ (HS2.out _ HG.out).1 HU.out rfl HSZ.out ?_)
      have hS := rexp_any wv mp A17 zs c17 n (by have h := HOS.out (wr.heap.size, .slice A17 info.length c17, zs) (by simp); dsimp only at h; rw [HZL.out] at h; exact Rd.of_own h) (by rw [HZL.out]; omega)
      rw [HXZ.out, HA.out, HZL.out] at hS
      refine hS.mono ?_
      clear hS
      rintro _ ww ⟨A19, c19, rfl, ho, hf⟩
      have HG := Lib.hid (HG.out.trans' hf)
      have HOS := Lib.hid (HOS.out.frm' hf)
      have HR19 := Lib.hid (Rd.of_own ho)
      clear ho hf
      try dsimp only
      go_wp2_with fail
      have hS := same_n A18 A19 xz xz xz.length xz.length c18 c19 ww rfl rfl (Rd.of_own (HOS.out (wu.heap.size, .slice A18 xz.length c18, xz) (by simp))) HR19.out (by unfold Len; omega) (by unfold Len; omega)
      rw [eql_true rfl] at hS
      refine hS.mono ?_
      clear hS
      rintro _ wx0 ⟨rfl, hf⟩
      have HG := Lib.hid (HG.out.trans' hf)
      have HOS := Lib.hid (HOS.out.frm' hf)
      clear hf
      try dsimp only
      go_wp2_with fail
      have hS := same_n A10 A3 xw xw xw.length xw.length c10 c3 wx0 rfl rfl (Rd.of_own (HOS.out (wd.heap.size, .slice A10 xw.length c10, xw) (by simp))) (Rd.of_own (HOS.out (wz.heap.size, .slice A3 xw.length c3, xw) (by simp))) (by unfold Len; omega) (by unfold Len; omega)
      rw [eql_true rfl] at hS
      refine hS.mono ?_
      clear hS
      rintro _ wx1 ⟨rfl, hf⟩
      have HG := Lib.hid (HG.out.trans' hf)
      have HOS := Lib.hid (HOS.out.frm' hf)
      clear hf
      try dsimp only
      go_wp2_with fail
      have hS := same_n A12 A3 xw xw xw.length xw.length c12 c3 wx1 rfl rfl (Rd.of_own (HOS.out (w8.heap.size, .slice A12 xw.length c12, xw) (by simp))) (Rd.of_own (HOS.out (wz.heap.size, .slice A3 xw.length c3, xw) (by simp))) (by unfold Len; omega) (by unfold Len; omega)
      rw [eql_true rfl] at hS
      refine hS.mono ?_
      clear hS
      rintro _ wx2 ⟨rfl, hf⟩
      have HG := Lib.hid (HG.out.trans' hf)
      have HOS := Lib.hid (HOS.out.frm' hf)
      clear hf
      try dsimp only
      go_wp2_with fail
      have o10 := HOS.out (wd.heap.size, .slice A10 xw.length c10, xw) (by simp)
      have o12 := HOS.out (w8.heap.size, .slice A12 xw.length c12, xw) (by simp)
      have o14 := HOS.out (wa.heap.size, .slice A14 xw.length c14, xw) (by simp)
      have o18 := HOS.out (wu.heap.size, .slice A18 xz.length c18, xz) (by simp)
      have hbag := bag4 o10 o12 o14 o18 (fun k hk => by have := B10.out k hk; omega) (fun k hk => by have := B12.out k hk; omega) (fun k hk => by have := B14.out k hk; omega) (by omega) (by omega)
      have hfa : Frm noB wx2 (wx2.alloc (.cells #[.slice A10 xw.length c10, .slice A12 xw.length c12, .slice A14 xw.length c14, .slice A18 xz.length c18] 29)) := (Frm.refl _ _).alloc _
      have hra : Rd (wx2.alloc (.cells #[.slice A10 xw.length c10, .slice A12 xw.length c12, .slice A14 xw.length c14, .slice A18 xz.length c18] 29)) (some ⟨wx2.heap.size, 0, none⟩) [.slice A10 xw.length c10, .slice A12 xw.length c12, .slice A14 xw.length c14, .slice A18 xz.length c18] := fun i hi => ⟨_, _, rfl, by rw [Nat.zero_add, cell_of_row _ _ _ _ _ _ (heap_alloc_new wx2 _)]; simp only [List.getElem?_toArray, List.getElem?_eq_getElem hi]⟩
      have hlt2 := hbag.lt
      have hge : ∀ k, inV [.slice A10 xw.length c10, .slice A12 xw.length c12, .slice A14 xw.length c14, .slice A18 xz.length c18] k → wd.heap.size ≤ k ∧ (k < wb.heap.size ∨ wu.heap.size ≤ k) := fun k hk => by
        rcases inV4 hk with h | h | h | h
        · have := B10.out k h; omega
        · have := B12.out k h; omega
        · have := B14.out k h; omega
        · have := B18.out k h; omega
      have HGE := Lib.hid hge
      have hP := apart_any (some ⟨wx2.heap.size, 0, none⟩) _ _ 4 _ hra (fun k hk hv => by obtain ⟨x, hx, hq⟩ := hk; cases hx; have := hlt2 k hv; have hq : wx2.heap.size = k := hq; omega) (hbag.frm hfa fun _ _ h => h) (by simp) (fun i hi => by
        match i, hi with
        | 0, _ => show xw.length ≤ _; omega
        | 1, _ => show xw.length ≤ _; omega
        | 2, _ => show xw.length ≤ _; omega
        | 3, _ => show xz.length ≤ _; omega)
      refine hP.mono ?_
      rintro _ wy ⟨rfl, hf⟩
      have hfy : Frm (inV [.slice A10 xw.length c10, .slice A12 xw.length c12, .slice A14 xw.length c14, .slice A18 xz.length c18]) wx2 wy := hfa.any.trans' hf
      have HFY : Hid (Frm noB w wy) := Lib.hid ((HF2.out.trans' HG.out).trans hfy fun k hk h => by have := (HGE.out k h).1; omega)
      have e2 : wy.cell? ⟨w.heap.size, 2, none⟩ = some (.slice C info.length cc) := hfy.cell_some (HS2.out _ HG.out).2.2.2 (fun h => by have := (HGE.out _ h).1; have : wd.heap.size ≤ w.heap.size := this; omega)
      have h17 : Rd wy A17 (zs.map bv) := by
        have h := HOS.out (wr.heap.size, .slice A17 info.length c17, zs) (by simp)
        dsimp only at h
        rw [HZL.out] at h
        exact Rd.of_own (own_frm h hfy fun q hq h => by have := (HGE.out q h).2; have := B17.out q hq; omega)
      have h7 : Rd wy A7 (zs.map bv) := (HA2.out _ HG.out).2.frmN hfy fun hne q hq h => by
        have := (HGE.out q h).1
        have := H7L.out q hq
        omega
      have H17 := Lib.hid h17
      have H7 := Lib.hid h7
      clear hP hf hfy h17 h7 hge hlt2 hra hfa hbag o10 o12 o14 o18 HOS HG
      try dsimp only
      go_wp2_with fail
      have hS := same_n A7 A17 zs zs info.length info.length c7 c17 wy HZL.out HZL.out H7.out H17.out (by unfold Len; omega) (by unfold Len; omega)
      rw [eql_true rfl] at hS
      refine hS.mono ?_
      clear hS
      rintro _ wy2 ⟨rfl, hf⟩
      have HFY := Lib.hid (HFY.out.trans' hf)
      clear hf e2
      try dsimp only
      go_wp2_with fail
      refine (works04 wy2 (HT.out.frm' HFY.out)).mono ?_
      rintro _ wy3 ⟨rfl, hf⟩
      try dsimp only
      go_wp2_with fail
      go_ret
      exact ⟨rfl, HFY.out.trans' hf⟩
end Go.Proofs.YtkhakddecmgejaaDoor
