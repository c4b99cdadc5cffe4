/-
  Write.
-/
import Derived.Test.YtkhakddecmgejaaDoorHash
import Derived.Laws.CopyOwn
import Derived.Deep.RegionLaw
namespace Go.Proofs.YtkhakddecmgejaaDoor
open Go.RowKit
set_option linter.unusedVariables false
set_option linter.unusedSimpArgs false

/-- copy into a block -/
theorem wp_copyAt {P : Program} {o : Oper} {a : Act} {Q : Exit → Act → World → Prop} {K : Act → World → Prop} {w : World} (d s : Operand) {dT sT : TypeId} (ho : o.op = .call { callee := .builtin .copy, args := #[d, s], argTypes := #[dT, sT] }) {elem : TypeId} (hu : P.underlying dT = some (.slice elem)) (hsz : (P.info? elem).map (·.size) = some 1)
    {g off dLen dCap : Nat} (hd : a.eval d = .slice (some ⟨g, off, none⟩) dLen dCap) {A : Option Addr} {sLen sCap : Nat} (hs : a.eval s = .slice A sLen sCap) {cs : List Value} (hn : cs.length = Nat.min sLen dLen) (hr : Rd w A cs) (hp : 0 < cs.length) (h1 : ∀ v ∈ cs, v.oneCell' = true)
    {t : TypeId} {n : Nat} {f : Nat → Value} (hB : Blk w g t (arr n f)) (hfit : off + cs.length ≤ n)
    (h : ∀ w', Blk w' g t (arr n fun i => if off ≤ i ∧ i < off + cs.length then cs.getD (i - off) undef else f i) → Frm (isB g) w w' → K (a.put o.dst (.int .i64 cs.length)) w') : o.wp P a w K Q := by
  obtain ⟨b, o', e, _⟩ := hr 0 hp
  subst e
  have hsrc : ∀ j v, cs[j]? = some v → w.cell? ((⟨b, o', none⟩ : Addr).add j) = some v := fun j v hv => by
    obtain ⟨hj, rfl⟩ := List.getElem?_eq_some_iff.1 hv
    obtain ⟨b2, o2, e2, hc⟩ := hr j hj
    cases e2
    unfold Addr.add
    split
    · rename_i h0; subst h0; simpa using hc
    · exact hc
  have hrun := run_copy_row (P := P) w dT sT o.type elem g off dLen dCap ⟨b, o', none⟩ sLen sCap (arr n f) t cs hu hsz hB hn hsrc (by rw [arr_size]; exact hfit) h1
  unfold Oper.wp execOp
  simp only [ho, resolve, invoke, builtin, Sem.run_bind, Sem.run_pure, Result.andThen_ok, List.map_toArray, List.map_cons, List.map_nil, hs, hd, hrun]
  refine h _ ?_ ((Frm.refl _ _).setRow (.inl (show isB g g from rfl)) _)
  have e := setRow_heap w g (arr n f) (((arr n f).toList.take off ++ cs ++ (arr n f).toList.drop (off + cs.length)).toArray) t (0, 0) hB
  unfold Blk
  rw [e]
  congr 2
  apply Array.ext_getElem?
  intro i
  by_cases hi : i < n
  · rw [arr_at hi]
    simp only [List.getElem?_toArray]
    by_cases h1 : i < off
    · rw [if_neg (by omega), List.append_assoc, List.getElem?_append_left (by simp [arr]; omega)]
      simp [arr, h1, hi]
    · by_cases h2 : i < off + cs.length
      · rw [if_pos ⟨by omega, h2⟩, List.getElem?_append_left (by simp [arr]; omega), List.getElem?_append_right (by simp [arr]; omega)]
        simp only [List.length_take, arr, List.length_map, List.length_range]
        rw [show i - min off n = i - off by omega, List.getD_eq_getElem?_getD, List.getElem?_eq_getElem (by omega)]
        rfl
      · rw [if_neg (by omega), List.getElem?_append_right (by simp [arr]; omega)]
        simp only [List.length_append, List.length_take, arr, List.length_map, List.length_range, List.getElem?_drop]
        rw [show off + cs.length + (i - (min off n + cs.length)) = i by omega]
        simp [hi]
  · have e1 : (arr n fun i => if off ≤ i ∧ i < off + cs.length then cs.getD (i - off) undef else f i)[i]? = none := by simp [arr]; omega
    rw [e1]
    simp [arr]
    omega
theorem copyAt {P : Program} {ops : Array Oper} {rest : List Oper} {o : Oper} {a : Act} {Q : Exit → Act → World → Prop} {w : World} (hgd : o.guard = none) (d s : Operand) {dT sT : TypeId} (ho : o.op = .call { callee := .builtin .copy, args := #[d, s], argTypes := #[dT, sT] }) {elem : TypeId} (hu : P.underlying dT = some (.slice elem)) (hsz : (P.info? elem).map (·.size) = some 1)
    {g off dLen dCap : Nat} (hd : a.eval d = .slice (some ⟨g, off, none⟩) dLen dCap) {A : Option Addr} {sLen sCap : Nat} (hs : a.eval s = .slice A sLen sCap) {cs : List Value} (hn : cs.length = Nat.min sLen dLen) (hr : Rd w A cs) (hp : 0 < cs.length) (h1 : ∀ v ∈ cs, v.oneCell' = true)
    {t : TypeId} {n : Nat} {f : Nat → Value} (hB : Blk w g t (arr n f)) (hfit : off + cs.length ≤ n)
    (h : ∀ w', Blk w' g t (arr n fun i => if off ≤ i ∧ i < off + cs.length then cs.getD (i - off) undef else f i) → Frm (isB g) w w' → wpList P ops Q rest (a.put o.dst (.int .i64 cs.length)) w') : wpList P ops Q (o :: rest) a w :=
  wpList_plain hgd fun K hK => wp_copyAt d s ho hu hsz hd hs hn hr hp h1 hB hfit fun w' a b => hK _ _ (h w' a b)

theorem bv_u (x : UInt8) : bv x = .int .u8 (u x.toUInt32) := by simp [bv, u]
theorem hf_laid {st : Nat → UInt32} {bl : Nat → UInt8} {used size : Int} {q : Nat} {y : List UInt8} (hq : q + y.length ≤ 64) (i : Nat) :
    (if 8 + q ≤ i ∧ i < 8 + q + (y.map bv).length then (y.map bv).getD (i - (8 + q)) undef else hf st bl used size i) = hf st (laidIn bl q y) used size i := by
  rw [List.length_map]
  by_cases e : 8 + q ≤ i ∧ i < 8 + q + y.length
  · rw [if_pos e]
    unfold hf laidIn
    rw [if_neg (by omega), if_pos (by omega), if_pos (by omega)]
    have hj : i - 8 - q < y.length := by omega
    rw [show i - (8 + q) = i - 8 - q by omega]
    simp only [List.getD_eq_getElem?_getD, List.getElem?_map, List.getElem?_eq_getElem hj, Option.map_some, Option.getD_some]
    exact bv_u _
  · rw [if_neg e]
    unfold hf laidIn
    by_cases e1 : i < 8
    · rw [if_pos e1, if_pos e1]
    · rw [if_neg e1, if_neg e1]
      by_cases e2 : i < 72
      · rw [if_pos e2, if_pos e2, if_neg (by omega)]
      · rw [if_neg e2, if_neg e2]
theorem Blk.used {w : World} {b : Nat} {t : TypeId} {st : Nat → UInt32} {bl : Nat → UInt8} {used size : Int} (h : Blk w b t (arr 74 (hf st bl used size))) (k : Int) : Blk (w.setCell ⟨b, 72, none⟩ (.int .i64 k)) b t (arr 74 (hf st bl k size)) :=
  (h.put 72 (.int .i64 k)).same fun i hi => by
    unfold hf
    by_cases e : i = 72
    · subst e; rfl
    · rw [if_neg e, if_neg e, if_neg e]
theorem Blk.size_ {w : World} {b : Nat} {t : TypeId} {st : Nat → UInt32} {bl : Nat → UInt8} {used size : Int} (h : Blk w b t (arr 74 (hf st bl used size))) (k : Int) : Blk (w.setCell ⟨b, 73, none⟩ (.int .u64 k)) b t (arr 74 (hf st bl used k)) :=
  (h.put 73 (.int .u64 k)).same fun i hi => by
    unfold hf
    by_cases e : i = 73
    · subst e; rfl
    · rw [if_neg e]
      by_cases e1 : i < 8
      · rw [if_pos e1, if_pos e1]
      · rw [if_neg e1, if_neg e1]
        by_cases e2 : i < 72
        · rw [if_pos e2, if_pos e2]
        · rw [if_neg e2, if_neg e2, if_pos (by omega), if_pos (by omega)]

/-- lengths that a hash bears -/
def HLen (n : Nat) : Prop := n ≤ 1125899906842624

set_option maxRecDepth 100000 in
set_option maxHeartbeats 4000000 in
theorem write_any (w : World) (b : Nat) (m : List UInt8) (A : Option Addr) (xs : List UInt8) (c : Nat) (hT : TabOk w) (hI : IsH w b m) (hx : Rd w A (xs.map bv)) (hA : xs ≠ [] → ∀ q, aB A q → q ≠ b) (hc : xs.length ≤ c) (hm : HLen m.length) (hl : HLen xs.length) :
    Calls Tryd.prog 24 #[.pointer (some ⟨b, 0, none⟩), .slice A xs.length c] w fun e w' => e = .returned (.tuple #[.int .i64 xs.length, Value.nilIface]) ∧ IsH w' b (m ++ xs) ∧ Frm (isB b) w w' := by
  obtain ⟨st, bl, hb, hk, h2⟩ := hI
  unfold HLen at hm hl
  have HT := Lib.hid hT
  have HX := Lib.hid hx
  have HA := Lib.hid hA
  have HK := Lib.hid hk
  have HB := Lib.hid hb
  have d73 : w.cell? ⟨b, 73, none⟩ = some (.int .u64 m.length) := hb.at_ (i := 73) (by decide)
  have z73 := hb.frozen 73
  clear hT hx hA hk hb
  go_enter Tryd.func24, Tryd.ntmps24
  go_wp2_with fail
  have hb1 := HB.out.size_ (m.length + xs.length)
  have hf1 : Frm (isB b) w (w.setCell ⟨b, 73, none⟩ (.int .u64 (m.length + xs.length))) := (Frm.refl _ _).setCell (.inl (show isB b b from rfl)) _
  generalize w.setCell ⟨b, 73, none⟩ (.int .u64 (m.length + xs.length)) = w1 at *
  have HB1 := Lib.hid hb1
  have HF1 := Lib.hid hf1
  clear hb1 hf1 d73 z73
  go_loopw [6] (fun v wr => ∃ (k : Nat) (st : Nat → UInt32) (bl : Nat → UInt8) (A' : Option Addr) (c' : Nat), k ≤ xs.length ∧ v = .slice A' (xs.length - k) c' ∧ xs.length - k ≤ c' ∧ Rd w A' ((xs.drop k).map bv) ∧ (xs.drop k ≠ [] → ∀ q, aB A' q → q ≠ b) ∧ Blk wr b 97 (arr 74 (hf st bl ((m.length + k) % 64 : Nat) (m.length + xs.length))) ∧ Took st bl (m ++ xs.take k) ∧ Frm (isB b) w wr) (fun v _ => match v with | .slice _ n _ => n | _ => 0)
  case atStart =>
    exact ⟨0, st, bl, A, c, Nat.zero_le _, rfl, hc, HX.out, HA.out, HB1.out, by simpa using HK.out, HF1.out⟩
  case round =>
    clear HB HB1 HF1 HK HX HA
    obtain ⟨k, st', bl', A', c', hk, rfl, hc', hx, hA, hb, ht, hF⟩ := hrel
    have HX := Lib.hid hx
    have HA := Lib.hid hA
    have HB := Lib.hid hb
    have HK := Lib.hid ht
    have HF := Lib.hid hF
    clear hx hA hb ht hF
    by_cases hlt : k < xs.length
    · obtain ⟨q, hq⟩ : ∃ q, (m.length + k) % 64 = q := ⟨_, rfl⟩
      have hq64 : q < 64 := by omega
      have HQ := Lib.hid hq
      rw [hq] at HB
      have d72 : wr.cell? ⟨b, 72, none⟩ = some (.int .i64 (q : Int)) := HB.out.at_ (i := 72) (by decide)
      have z72 := HB.out.frozen 72
      obtain ⟨L, hL⟩ : ∃ L, xs.length - k = L := ⟨_, rfl⟩
      have HL := Lib.hid hL
      have hL0 : 0 < L ∧ L ≤ 1125899906842624 := by omega
      have hLc : L ≤ c' := by omega
      rw [hL]
      clear hq hL hc'
      have ok : (q : Int) < 64 ∧ (q : Int) ≤ 64 ∧ q ≤ 64 ∧ ¬ (64 = q) := by omega
      go_wp2_with fail
      go_still_tail 9, (by kernel_rfl)
      change wpList _ _ _ _ _ wr.drew
      obtain ⟨n, hn⟩ : ∃ n, Nat.min L (64 - q) = n := ⟨_, rfl⟩
      have hmin : Nat.min L (64 - q) = min L (64 - q) := rfl
      have hn1 : 0 < n ∧ n ≤ L ∧ q + n ≤ 64 ∧ (n = L ∨ q + n = 64) := by omega
      have hyl : (((xs.drop k).take n).map bv).length = n := by simp; have := HL.out; omega
      have HYL := Lib.hid hyl
      have hcap : n < c' ∨ n = c' := by omega
      refine copyAt rfl _ _ rfl Tryd.underlying29 (by kernel_rfl) rfl rfl (cs := ((xs.drop k).take n).map bv) (by rw [hyl, hn]) (fun i hi => ?_) (by omega) (bv_one _) HB.out.drew (by omega) ?_
      · have hi' : i < n := by omega
        obtain ⟨b', o', e, hc⟩ := (HX.out.frmN HF.out.drew fun hne q hq h => HA.out (by intro e; apply hne; rw [e]; rfl) q hq h) i (by simp at hi ⊢; omega)
        exact ⟨b', o', e, by rw [hc]; simp⟩
      · intro w2 hb2 hf2
        rw [hyl]
        have hb3 := hb2.same fun i _ => hf_laid (y := (xs.drop k).take n) (by rw [List.length_map] at hyl; omega) i
        have d72' : w2.cell? ⟨b, 72, none⟩ = some (.int .i64 (q : Int)) := hb3.at_ (i := 72) (by decide)
        have z72' := hb3.frozen 72
        have HB3 := Lib.hid hb3
        have HF3 := Lib.hid (HF.out.drew.trans' hf2)
        clear hb2 hb3 hf2 hyl d72 z72 hn hmin
        have hkn : k + n ≤ xs.length ∧ L - n = xs.length - (k + n) := by have := HL.out; omega
        have hcc : L - n ≤ c' - n := by omega
        have hdr : ∀ j, (xs.drop k).drop j = xs.drop (k + j) := fun j => by rw [List.drop_drop]
        have htk : m ++ xs.take (k + n) = (m ++ xs.take k) ++ (xs.drop k).take n := by rw [List.take_add, List.append_assoc]
        have hml : (m ++ xs.take k).length = m.length + k := by simp; omega
        have hyn : ((xs.drop k).take n).length = n := by have := HYL.out; rwa [List.length_map] at this
        have HKN := Lib.hid hkn
        have HTK := Lib.hid htk
        have HML := Lib.hid hml
        have HYN := Lib.hid hyn
        obtain ⟨A2, hA2, hA2'⟩ : ∃ A2 : Option Addr, (n < c' → A2 = A'.map fun x => x.add n) ∧ (n = c' → A2 = A') := by
          rcases hcap with h | h
          · exact ⟨_, fun _ => rfl, fun h' => absurd h' (by omega)⟩
          · exact ⟨_, fun h' => absurd h' (by omega), fun _ => rfl⟩
        have HR2 : Hid (Rd w A2 ((xs.drop (k + n)).map bv) ∧ (xs.drop (k + n) ≠ [] → ∀ q, aB A2 q → q ≠ b)) := Lib.hid (by
          rcases hcap with h | h
          · rw [hA2 h]
            have sh : Rd w (A'.map fun x => x.add n) ((xs.drop (k + n)).map bv) ∧ (∀ q, aB (A'.map fun x => x.add n) q → aB A' q) := by
              refine ⟨fun i hi => ?_, fun q ⟨a, ha, hq⟩ => ?_⟩
              · have hi' : n + i < ((xs.drop k).map bv).length := by simp at hi ⊢; omega
                obtain ⟨b', o', e, hc⟩ := HX.out (n + i) hi'
                refine ⟨b', o' + n, by rw [e]; simp only [Option.map_some, Addr.add]; split <;> simp_all, ?_⟩
                rw [Nat.add_assoc, hc]
                simp [Nat.add_assoc]
              · rcases A' with _ | a'
                · simp at ha
                · simp only [Option.map_some, Option.some.injEq] at ha
                  subst ha
                  exact ⟨a', rfl, by rw [← hq]; unfold Addr.add; split <;> rfl⟩
            exact ⟨sh.1, fun hne q hq => HA.out (by intro e; apply hne; rw [← List.drop_drop, e]; simp) q (sh.2 q hq)⟩
          · have e : xs.drop (k + n) = [] := List.drop_eq_nil_of_le (by have := HKN.out; omega)
            rw [e]
            exact ⟨Rd.nil _ _, fun h => absurd rfl h⟩)
        clear hdr htk hml hyn hkn
        rcases hcap with hcap | hcap
        · have h2A := hA2 hcap
          subst h2A
          by_cases h64 : q + n < 64
          · go_wp2_with fail
            refine ⟨⟨k + n, st', laidIn bl' q ((xs.drop k).take n), (A'.map fun x => x.add n), c' - n, HKN.out.1, by rw [HKN.out.2], by rw [← HKN.out.2]; exact hcc, HR2.out.1, HR2.out.2, ?_, ?_, HF3.out.setCell (.inl (show isB b b from rfl)) _⟩, by show L - n < L; omega⟩
            · have := HB3.out.used (q + n)
              rw [show (((m.length + (k + n)) % 64 : Nat) : Int) = q + n by have := HQ.out; omega]
              exact this
            · rw [HTK.out]
              have := HK.out.some (y := (xs.drop k).take n) (by rw [HML.out, HQ.out, HYN.out]; exact h64)
              rw [HML.out, HQ.out] at this
              exact this
          · have hb4 := HB3.out.used (q + n)
            have hf4 : Frm (isB b) w (w2.setCell ⟨b, 72, none⟩ (.int .i64 (q + n))) := HF3.out.setCell (.inl (show isB b b from rfl)) _
            have HB4 := Lib.hid hb4
            have HF4 := Lib.hid hf4
            clear hb4 hf4
            go_wp2_with fail
            refine (round_any _ b st' (laidIn bl' q ((xs.drop k).take n)) (q + n) (m.length + xs.length) (HT.out.at HF4.out h2) HB4.out h2).mono ?_
            rintro _ w5 ⟨rfl, hb5, hf5⟩
            have e72 : w5.cell? ⟨b, 72, none⟩ = some (.int .i64 (q + n)) := hb5.at_ (i := 72) (by decide)
            have y72 := hb5.frozen 72
            have HB5 := Lib.hid hb5
            have HF5 := Lib.hid (HF4.out.trans' hf5)
            clear hb5 hf5 d72' z72'
            try dsimp only
            go_wp2_with fail
            refine ⟨⟨k + n, comp st' (laidIn bl' q ((xs.drop k).take n)), laidIn bl' q ((xs.drop k).take n), (A'.map fun x => x.add n), c' - n, HKN.out.1, by rw [HKN.out.2], by rw [← HKN.out.2]; exact hcc, HR2.out.1, HR2.out.2, ?_, ?_, HF5.out.setCell (.inl (show isB b b from rfl)) _⟩, by show L - n < L; omega⟩
            · have := HB5.out.used 0
              rw [show (((m.length + (k + n)) % 64 : Nat) : Int) = 0 by have := HQ.out; omega]
              exact this
            · rw [HTK.out]
              have := HK.out.full (y := (xs.drop k).take n) (by rw [HML.out, HQ.out, HYN.out]; omega) (laidIn bl' q ((xs.drop k).take n))
              rw [HML.out, HQ.out] at this
              exact this
        · have h2A := hA2' hcap
          subst h2A
          subst hcap
          by_cases h64 : q + n < 64
          · go_wp2_with fail
            refine ⟨⟨k + n, st', laidIn bl' q ((xs.drop k).take n), A2, 0, HKN.out.1, by rw [show xs.length - (k + n) = 0 by have := HKN.out; omega], by have := HKN.out; omega, HR2.out.1, HR2.out.2, ?_, ?_, HF3.out.setCell (.inl (show isB b b from rfl)) _⟩, by show 0 < L; omega⟩
            · have := HB3.out.used (q + n)
              rw [show (((m.length + (k + n)) % 64 : Nat) : Int) = q + n by have := HQ.out; omega]
              exact this
            · rw [HTK.out]
              have := HK.out.some (y := (xs.drop k).take n) (by rw [HML.out, HQ.out, HYN.out]; exact h64)
              rw [HML.out, HQ.out] at this
              exact this
          · have hb4 := HB3.out.used (q + n)
            have hf4 : Frm (isB b) w (w2.setCell ⟨b, 72, none⟩ (.int .i64 (q + n))) := HF3.out.setCell (.inl (show isB b b from rfl)) _
            have HB4 := Lib.hid hb4
            have HF4 := Lib.hid hf4
            clear hb4 hf4
            go_wp2_with fail
            refine (round_any _ b st' (laidIn bl' q ((xs.drop k).take n)) (q + n) (m.length + xs.length) (HT.out.at HF4.out h2) HB4.out h2).mono ?_
            rintro _ w5 ⟨rfl, hb5, hf5⟩
            have e72 : w5.cell? ⟨b, 72, none⟩ = some (.int .i64 (q + n)) := hb5.at_ (i := 72) (by decide)
            have y72 := hb5.frozen 72
            have HB5 := Lib.hid hb5
            have HF5 := Lib.hid (HF4.out.trans' hf5)
            clear hb5 hf5 d72' z72'
            try dsimp only
            go_wp2_with fail
            refine ⟨⟨k + n, comp st' (laidIn bl' q ((xs.drop k).take n)), laidIn bl' q ((xs.drop k).take n), A2, 0, HKN.out.1, by rw [show xs.length - (k + n) = 0 by have := HKN.out; omega], by have := HKN.out; omega, HR2.out.1, HR2.out.2, ?_, ?_, HF5.out.setCell (.inl (show isB b b from rfl)) _⟩, by show 0 < L; omega⟩
            · have := HB5.out.used 0
              rw [show (((m.length + (k + n)) % 64 : Nat) : Int) = 0 by have := HQ.out; omega]
              exact this
            · rw [HTK.out]
              have := HK.out.full (y := (xs.drop k).take n) (by rw [HML.out, HQ.out, HYN.out]; omega) (laidIn bl' q ((xs.drop k).take n))
              rw [HML.out, HQ.out] at this
              exact this
    · have e : k = xs.length := by omega
      subst e
      have HI : Hid (IsH wr b (m ++ xs)) := Lib.hid ⟨st', bl', by rw [List.length_append]; push_cast; exact HB.out, by have := HK.out; rwa [List.take_length] at this, h2⟩
      clear HK
      go_wp2_with fail
      go_ret2
      exact ⟨rfl, HI.out, HF.out⟩
end Go.Proofs.YtkhakddecmgejaaDoor
