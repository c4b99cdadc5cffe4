/-
  trystlaw04.DeriveKnown: the walk.
-/
import Derived.Test.YtkhakddecmgejaaDoorWorks04b
import Derived.Test.YtkhakddecmgejaaDoorLawDSums
import Derived.Test.YtkhakddecmgejaaDoorLawDWrites
import Derived.Test.YtkhakddecmgejaaDoorLawDExps
import Derived.Test.YtkhakddecmgejaaDoorLawDKeys
namespace Go.Proofs.YtkhakddecmgejaaDoor
open Go.RowKit
set_option linter.unusedVariables false
set_option linter.unusedSimpArgs false

def b20L : List UInt8 := List.replicate 20 11
def b22L : List UInt8 := List.replicate 22 11
def saltL : List UInt8 := [0, 1, 2, 3, 4, 5, 6, 7, 8, 9, 10, 11, 12]
def infoL : List UInt8 := [240, 241, 242, 243, 244, 245, 246, 247, 248, 249]
def hiL : List UInt8 := [72, 105, 32, 84, 104, 101, 114, 101]
def okmL : List UInt8 := [60, 178, 95, 37, 250, 172, 213, 122, 144, 67, 79, 100, 208, 54, 47, 42, 45, 45, 10, 144, 207, 26, 90, 76, 93, 176, 45, 86, 236, 196, 197, 191, 52, 0, 114, 8, 213, 184, 135, 24, 88, 101]
theorem hex_salt : hexL (ByteArray.mk #[48, 48, 48, 49, 48, 50, 48, 51, 48, 52, 48, 53, 48, 54, 48, 55, 48, 56, 48, 57, 48, 97, 48, 98, 48, 99]).data.toList = saltL := by decide +kernel
theorem hex_info : hexL (ByteArray.mk #[102, 48, 102, 49, 102, 50, 102, 51, 102, 52, 102, 53, 102, 54, 102, 55, 102, 56, 102, 57]).data.toList = infoL := by decide +kernel
theorem hex_okm : hexL (ByteArray.mk #[51, 99, 98, 50, 53, 102, 50, 53, 102, 97, 97, 99, 100, 53, 55, 97, 57, 48, 52, 51, 52, 102, 54, 52, 100, 48, 51, 54, 50, 102, 50, 97, 50, 100, 50, 100, 48, 97, 57, 48, 99, 102, 49, 97, 53, 97, 52, 99, 53, 100, 98, 48, 50, 100, 53, 54, 101, 99, 99, 52, 99, 53, 98, 102, 51, 52, 48, 48, 55, 50, 48, 56, 100, 53, 98, 56, 56, 55, 49, 56, 53, 56, 54, 53]).data.toList = okmL := by decide +kernel
theorem okm_known : expL (sha (macT saltL b22L)) infoL 42 = okmL := by decide +kernel
theorem hi_known : hexL (ByteArray.mk #[98, 48, 51, 52, 52, 99, 54, 49, 100, 56, 100, 98, 51, 56, 53, 51, 53, 99, 97, 56, 97, 102, 99, 101, 97, 102, 48, 98, 102, 49, 50, 98, 56, 56, 49, 100, 99, 50, 48, 48, 99, 57, 56, 51, 51, 100, 97, 55, 50, 54, 101, 57, 51, 55, 54, 99, 50, 101, 51, 50, 99, 102, 102, 55]).data.toList = sha (macT b20L hiL) := by decide +kernel
theorem ext_known : hexL (ByteArray.mk #[48, 55, 55, 55, 48, 57, 51, 54, 50, 99, 50, 101, 51, 50, 100, 102, 48, 100, 100, 99, 51, 102, 48, 100, 99, 52, 55, 98, 98, 97, 54, 51, 57, 48, 98, 54, 99, 55, 51, 98, 98, 53, 48, 102, 57, 99, 51, 49, 50, 50, 101, 99, 56, 52, 52, 97, 100, 55, 99, 50, 98, 51, 101, 53]).data.toList = sha (macT saltL b22L) := by decide +kernel
theorem zero_known : decide (hmac b20L [] = List.replicate 32 0) = false := by decide +kernel

/-- make([]byte, n) -/
theorem mkBytes {ops : Array Oper} {rest : List Oper} {o : Oper} {a : Act} {Q : Exit → Act → World → Prop} {w : World} (hg : o.guard = none) (l c : Operand) (hop : o.op = Op.makeSlice 29 l c)
    {kl kc : IntKind} {L C : Int} (n : Nat) (hl : a.eval l = .int kl L) (hc : a.eval c = .int kc C) (hL : L = (n : Int)) (hC : C = (n : Int)) (hn : n ≤ 255)
    (h : ∀ w', Blk w' w.heap.size 5 (arr n fun _ => bv 0) → Frm noB w w' → wpList Tryd.prog ops Q rest (a.put o.dst (.slice (some ⟨w.heap.size, 0, none⟩) n n)) w') : wpList Tryd.prog ops Q (o :: rest) a w := by
  refine mkN info29 rfl hg l c hop w.heap.size n hl hc hL hC (by omega) (by omega) (Nat.le_refl _) fun w' h1 hf => h w' ?_ hf
  rcases h1.2 with ⟨e, _⟩ | ⟨g, cap, cur, e, _, hb, _, _, hs, ht⟩
  · cases e
  · injection e with e1 e2 e3
    injection e1 with e1
    injection e1 with e1
    subst e1; subst e3
    rw [List.take_of_length_le (by simp [hs])] at ht
    have hcur : cur = arr n fun _ => bv 0 := by
      rw [← arr_replicate]
      exact Array.ext' ht
    rw [← hcur]
    exact hb
theorem blk_rd {w : World} {g n : Nat} {x : UInt8} (h : Blk w g 5 (arr n fun _ => bv x)) : Rd w (some ⟨g, 0, none⟩) ((List.replicate n x).map bv) := fun i hi => by
  have hi : i < n := by simpa using hi
  exact ⟨g, 0, rfl, by rw [Nat.zero_add, h.at_ hi]; simp⟩

/-- a zero array, under a guard that lets it -/
theorem wpList_build0 {P : Program} {ops : Array Oper} {rest : List Oper} {o : Oper} {a : Act} {w : World} {Q : Exit → Act → World → Prop} (hw : Region.wanted o (yielded ops a.tmps) = true) (t : TypeId) (ho : o.op = .build t #[]) (v : Value)
    (hrun : (Instr.build t #[]).run P w = .ok v w) (h : wpList P ops Q rest (a.put o.dst v) w) : wpList P ops Q (o :: rest) a w :=
  wpList_step fun K hK => by
    rw [if_pos hw]
    unfold Oper.wp execOp
    simp only [ho, List.map_toArray, List.map_nil, Sem.run_bind, hrun, Result.andThen_ok]
    exact hK _ _ h
set_option maxRecDepth 100000 in
theorem run_build0 (w : World) : (Instr.build 26 #[]).run Tryd.prog w = .ok zH w := by kernel_rfl
theorem zH_code : zH = .agg (arr 32 (codeF (List.replicate 32 0))) := by
  unfold zH
  congr 1
theorem eq_zH (w : World) : (Op.equalIn 10000 26 zH zH).run Tryd.prog w = .ok true w := by
  have e : zH = .agg ((List.replicate 32 (0 : UInt8)).map Extern.Stop.cell).toArray := by
    unfold zH arr
    congr 2
  rw [e, run_equalIn_bytes w 9998 26 5 32 Tryd.underlying26 Tryd.underlying5 sizeOf_u8 _ _ (by simp) (by simp)]
  simp
/-- the lengths that are asked -/
def lenZ : List Int := [-9223372036854775808, -1, 0, 1, 31, 32, 33, 254, 255, 256, 8159, 8160, 8161, 9223372036854775807]

/-- the key of so many bytes -/
def keyK (k : Nat) : List UInt8 := (List.range k).map fun i => UInt8.ofNat (i * 7)
theorem keyK_length (k : Nat) : (keyK k).length = k := by simp [keyK]
theorem keyK_succ (k : Nat) : (keyK k).map bv ++ [.int .u8 ((k : Int) * 7 % 256)] = (keyK (k + 1)).map bv := by
  unfold keyK
  rw [List.range_succ, List.map_append, List.map_append]
  congr 1

/-- DeriveSums of a key, and of it, none and one byte -/
theorem sums_known (w : World) (A : Option Addr) (kl : List UInt8) (n c : Nat) (hn : kl.length = n) (hT : TabOk w) (hx : Rd w A (kl.map bv)) (hc : n ≤ c) (hl : n ≤ 1000) :
    Calls Tryd.prog 10 #[.slice A n c, .slice (some ⟨w.heap.size + 1, 0, none⟩) 3 3] ((w.alloc (.cells #[.int .u8 1] 5)).alloc (.cells #[.slice A n c, .slice none 0 0, .slice (some ⟨w.heap.size, 0, none⟩) 1 1] 29)) fun e w' => e = .returned (.bool true) ∧ Frm noB w w' := by
  subst hn
  have h1 : Frm noB w (w.alloc (.cells #[.int .u8 1] 5)) := (Frm.refl _ _).alloc _
  have hz1 : Rd (w.alloc (.cells #[.int .u8 1] 5)) (some ⟨w.heap.size, 0, none⟩) (([1] : List UInt8).map bv) := rd_laid w [1] (0, 0)
  have hs : (w.alloc (.cells #[.int .u8 1] 5)).heap.size = w.heap.size + 1 := by simp
  generalize w.alloc (.cells #[.int .u8 1] 5) = w1 at *
  rw [← hs]
  have hR : RdRows (w1.alloc (.cells #[.slice A kl.length c, .slice none 0 0, .slice (some ⟨w.heap.size, 0, none⟩) 1 1] 29)) (some ⟨w1.heap.size, 0, none⟩) [kl, [], [1]] (fun k => True ∨ k = w1.heap.size) :=
    RdRows.laid [.slice A kl.length c, .slice none 0 0, .slice (some ⟨w.heap.size, 0, none⟩) 1 1] [kl, [], [1]] rfl fun i hi hi' => by
      match i, hi with
      | 0, _ => exact ⟨_, _, rfl, hc, hx.frm' h1, fun _ _ _ => trivial⟩
      | 1, _ => exact ⟨_, _, rfl, Nat.le_refl _, Rd.nil _ _, fun _ _ _ => trivial⟩
      | 2, _ => exact ⟨_, _, rfl, Nat.le_refl _, hz1, fun _ _ _ => trivial⟩
  have ha : Frm noB w (w1.alloc (.cells #[.slice A kl.length c, .slice none 0 0, .slice (some ⟨w.heap.size, 0, none⟩) 1 1] 29)) := h1.alloc _
  exact (deriveSums_any _ A _ kl [kl, [], [1]] c 3 (hT.frm' ha) (hx.frm' ha) hR hc (by omega) (by simp; omega) (by simp)).mono fun e w' ⟨he, hf⟩ => ⟨he, ha.trans' hf⟩
/-- DeriveWrites of a key, of it without its first byte, and of four steps -/
theorem writes_known (w : World) (g : Nat) (kl : List UInt8) (n c : Nat) (hn : kl.length = n) (hT : TabOk w) (hx : Rd w (some ⟨g, 0, none⟩) (kl.map bv)) (hc : n ≤ c) (h5 : 5 ≤ n) (hl : n ≤ 1000) :
    Calls Tryd.prog 8 #[.slice (some ⟨g, 0, none⟩) n c, .slice (some ⟨g, 1, none⟩) (n - 1) (c - 1), .slice (some ⟨w.heap.size + 1, 0, none⟩) 4 4]
      ((w.alloc (.cells #[.int .u8 3] 5)).alloc (.cells #[.int .i64 0, .int .i64 0, .slice (some ⟨g, 0, none⟩) n c, .int .i64 2, .int .i64 0, .slice (some ⟨w.heap.size, 0, none⟩) 1 1, .int .i64 2, .int .i64 1, .slice none 0 0, .int .i64 1, .int .i64 0, .slice (some ⟨g, 0, none⟩) 5 c] 63)) fun e w' => e = .returned (.bool true) ∧ Frm noB w w' := by
  subst hn
  have h1 : Frm noB w (w.alloc (.cells #[.int .u8 3] 5)) := (Frm.refl _ _).alloc _
  have hz1 : Rd (w.alloc (.cells #[.int .u8 3] 5)) (some ⟨w.heap.size, 0, none⟩) (([3] : List UInt8).map bv) := rd_laid w [3] (0, 0)
  have hs : (w.alloc (.cells #[.int .u8 3] 5)).heap.size = w.heap.size + 1 := by simp
  generalize w.alloc (.cells #[.int .u8 3] 5) = w1 at *
  rw [← hs]
  have hB := Blk.new w1 63 #[.int .i64 0, .int .i64 0, .slice (some ⟨g, 0, none⟩) kl.length c, .int .i64 2, .int .i64 0, .slice (some ⟨w.heap.size, 0, none⟩) 1 1, .int .i64 2, .int .i64 1, .slice none 0 0, .int .i64 1, .int .i64 0, .slice (some ⟨g, 0, none⟩) 5 c]
  have ha : Frm noB w (w1.alloc (.cells #[.int .i64 0, .int .i64 0, .slice (some ⟨g, 0, none⟩) kl.length c, .int .i64 2, .int .i64 0, .slice (some ⟨w.heap.size, 0, none⟩) 1 1, .int .i64 2, .int .i64 1, .slice none 0 0, .int .i64 1, .int .i64 0, .slice (some ⟨g, 0, none⟩) 5 c] 63)) := h1.alloc _
  have hz2 : Rd (w1.alloc (.cells #[.int .i64 0, .int .i64 0, .slice (some ⟨g, 0, none⟩) kl.length c, .int .i64 2, .int .i64 0, .slice (some ⟨w.heap.size, 0, none⟩) 1 1, .int .i64 2, .int .i64 1, .slice none 0 0, .int .i64 1, .int .i64 0, .slice (some ⟨g, 0, none⟩) 5 c] 63)) (some ⟨w.heap.size, 0, none⟩) (([3] : List UInt8).map bv) := hz1.alloc _
  generalize w1.alloc (.cells #[.int .i64 0, .int .i64 0, .slice (some ⟨g, 0, none⟩) kl.length c, .int .i64 2, .int .i64 0, .slice (some ⟨w.heap.size, 0, none⟩) 1 1, .int .i64 2, .int .i64 1, .slice none 0 0, .int .i64 1, .int .i64 0, .slice (some ⟨g, 0, none⟩) 5 c] 63) = w2 at *
  have i0 : inM 0 := by unfold inM; omega
  have i1 : inM 1 := by unfold inM; omega
  have i2 : inM 2 := by unfold inM; omega
  have hl5 : (kl.take 5).length = 5 := by rw [List.length_take]; omega
  have hW : RdW w2 (some ⟨w1.heap.size, 0, none⟩) [⟨0, 0, kl⟩, ⟨2, 0, [3]⟩, ⟨2, 1, []⟩, ⟨1, 0, kl.take 5⟩] := fun i hi => by
    match i, hi with
    | 0, _ => exact ⟨_, 0, _, _, rfl, hB.cell 0, hB.cell 1, hB.cell 2, i0, i0, hc, hx.frm' ha⟩
    | 1, _ => exact ⟨_, 0, _, _, rfl, hB.cell 3, hB.cell 4, hB.cell 5, i2, i0, Nat.le_refl _, hz2⟩
    | 2, _ => exact ⟨_, 0, _, _, rfl, hB.cell 6, hB.cell 7, hB.cell 8, i2, i1, Nat.le_refl _, Rd.nil _ _⟩
    | 3, _ => exact ⟨_, 0, some ⟨g, 0, none⟩, c, rfl, hB.cell 9, hB.cell 10, (by rw [show (([⟨0, 0, kl⟩, ⟨2, 0, [3]⟩, ⟨2, 1, []⟩, ⟨1, 0, kl.take 5⟩] : List WOp)[3]).b.length = 5 from hl5]; exact hB.cell 11), i1, i0, (by show (kl.take 5).length ≤ c; omega), (hx.frm' ha).takeB 5⟩
  have hb : bringsW [⟨0, 0, kl⟩, ⟨2, 0, [3]⟩, ⟨2, 1, []⟩, ⟨1, 0, kl.take 5⟩] 4 ≤ 2000000 := by
    simp [bringsW]; omega
  have hd : (kl.drop 1).length = kl.length - 1 := by simp
  have hS := deriveWrites_any w2 (some ⟨g, 0, none⟩) (some ⟨g, 1, none⟩) (some ⟨w1.heap.size, 0, none⟩) kl (kl.drop 1) [⟨0, 0, kl⟩, ⟨2, 0, [3]⟩, ⟨2, 1, []⟩, ⟨1, 0, kl.take 5⟩] c (c - 1) 4 (hT.frm' ha) (hx.frm' ha) ((hx.frm' ha).dropB 1) hW hc (by omega) (by omega) (by omega) hb (by simp)
  rw [hd] at hS
  exact hS.mono fun e w' ⟨he, hf⟩ => ⟨he, ha.trans' hf⟩

set_option maxRecDepth 100000 in
set_option maxHeartbeats 1000000 in
theorem deriveKnown_any (w : World) (hT : TabOk w) : Calls Tryd.prog 15 #[] w fun r w' => r = .returned (.bool true) ∧ Frm noB w w' := by
  have HT := Lib.hid hT
  clear hT
  go_enter Tryd.func15, Tryd.ntmps15
  go_wp2_with (first | (at_make; refine mkBytes rfl _ _ rfl 20 rfl rfl rfl rfl (by decide) ?_; intro w1 hb1 hf1; have HB1 := Lib.hid hb1; have HF1 := Lib.hid hf1; clear hb1 hf1) | (at_make; refine mkBytes rfl _ _ rfl 22 rfl rfl rfl rfl (by decide) ?_; intro w2 hb2 hf2; have HB2 := Lib.hid hb2; have HF2 := Lib.hid hf2; clear hb2 hf2))
  have hs1 : w.heap.size < w1.heap.size := HB1.out.lt
  go_loopw [3] (fun i wr => ∃ k : Nat, k ≤ 22 ∧ i = .int .i64 k ∧ Blk wr w.heap.size 5 (arr 20 fun q => if q < k then bv 11 else bv 0) ∧ Blk wr w1.heap.size 5 (arr 22 fun q => if q < k then bv 11 else bv 0) ∧ Frm noB w wr) (fun i _ => 22 - (intOf i).toNat)
  case atStart => exact ⟨0, by omega, rfl, (HB1.out.frm' HF2.out).same fun i _ => by rw [if_neg (by omega)], HB2.out.same fun i _ => by rw [if_neg (by omega)], HF1.out.trans' HF2.out⟩
  case round =>
    clear HB1 HB2 HF1 HF2
    obtain ⟨k, hk, rfl, hB1, hB2, hF⟩ := hrel
    have HB1 := Lib.hid hB1
    have HB2 := Lib.hid hB2
    have HF := Lib.hid hF
    clear hB1 hB2 hF
    by_cases hlt : k < 22
    · have c2 := HB2.out.at_ hlt
      have f2 := HB2.out.frozen k
      rw [if_neg (by omega)] at c2
      have k1 : (k : Int) < 22 := by omega
      have hB2' := (HB2.out.put k (.int .u8 11)).same (f' := fun q => if q < k + 1 then bv 11 else bv 0) fun i _ => by
        by_cases e : i = k
        · subst e; rw [if_pos rfl, if_pos (by omega)]; rfl
        · rw [if_neg e]
          by_cases e2 : i < k
          · rw [if_pos e2, if_pos (by omega)]
          · rw [if_neg e2, if_neg (by omega)]
      have hs2 : Frm (fun q => q = w1.heap.size) wr (wr.setCell ⟨w1.heap.size, k, none⟩ (.int .u8 11)) := Frm.setCell (S := fun q => q = w1.heap.size) (Frm.refl _ _) (.inl rfl) _
      have hB1' := HB1.out.frm hs2 (fun e => by have e : w.heap.size = w1.heap.size := e; omega)
      have hF' : Frm noB w (wr.setCell ⟨w1.heap.size, k, none⟩ (.int .u8 11)) := HF.out.setCell (.inr (by show w.heap.size ≤ w1.heap.size; omega)) _
      by_cases h20 : k < 20
      · have c1 : (wr.setCell ⟨w1.heap.size, k, none⟩ (.int .u8 11)).cell? ⟨w.heap.size, k, none⟩ = some (bv 0) := by rw [hB1'.at_ h20, if_neg (by omega)]
        have f1 := hB1'.frozen k
        have k2 : (k : Int) < 20 := by omega
        have HB2' := Lib.hid hB2'
        have HB1' := Lib.hid hB1'
        have HF' := Lib.hid hF'
        clear hB2' hB1' hF' hs2
        go_wp2_with fail
        have hs3 := Frm.setCell (S := fun q => q = w.heap.size) (a := ⟨w.heap.size, k, none⟩) (Frm.refl _ (wr.setCell ⟨w1.heap.size, k, none⟩ (.int .u8 11))) (.inl rfl) (.int .u8 11)
        exact ⟨⟨k + 1, by omega, by go_num, (HB1'.out.put k (.int .u8 11)).same fun i _ => by
          by_cases e : i = k
          · subst e; rw [if_pos rfl, if_pos (by omega)]; rfl
          · rw [if_neg e]
            by_cases e2 : i < k
            · rw [if_pos e2, if_pos (by omega)]
            · rw [if_neg e2, if_neg (by omega)], HB2'.out.frm hs3 (fun e => by have e : w1.heap.size = w.heap.size := e; omega), HF'.out.setCell (.inr (Nat.le_refl _)) _⟩, by simp [intOf]; omega⟩
      · have k2 : ¬ (k : Int) < 20 := by omega
        have HB2' := Lib.hid hB2'
        have HB1' := Lib.hid hB1'
        have HF' := Lib.hid hF'
        clear hB2' hB1' hF' hs2
        go_wp2_with fail
        exact ⟨⟨k + 1, by omega, by go_num, HB1'.out.same fun i hi => by rw [if_pos (by omega), if_pos (by omega)], HB2'.out, HF'.out⟩, by simp [intOf]; omega⟩
    · have e : k = 22 := by omega
      subst e
      have HR20 : Hid (Rd wr (some ⟨w.heap.size, 0, none⟩) (b20L.map bv)) := Lib.hid (blk_rd (HB1.out.same fun i hi => if_pos (by omega)))
      have HR22 : Hid (Rd wr (some ⟨w1.heap.size, 0, none⟩) (b22L.map bv)) := Lib.hid (blk_rd (HB2.out.same fun i hi => if_pos hi))
      clear HB1 HB2
      have HU1 := Lib.hid fun w => unhex_n w (ByteArray.mk #[48, 48, 48, 49, 48, 50, 48, 51, 48, 52, 48, 53, 48, 54, 48, 55, 48, 56, 48, 57, 48, 97, 48, 98, 48, 99]) 13 rfl (by decide)
      have HU2 := Lib.hid fun w => unhex_n w (ByteArray.mk #[102, 48, 102, 49, 102, 50, 102, 51, 102, 52, 102, 53, 102, 54, 102, 55, 102, 56, 102, 57]) 10 rfl (by decide)
      rw [hex_salt] at HU1
      rw [hex_info] at HU2
      rw [show ((22 : Nat) : Int) = 22 from rfl]
      go_wp2_with fail
      refine (HU1.out wr).mono ?_
      rintro _ w3 ⟨A4, c4, rfl, ho, hf⟩
      have HG := Lib.hid hf
      have HS := Lib.hid (Rd.of_own ho)
      have hc4 : 13 ≤ c4 := by obtain ⟨_, _, e, h⟩ := own_slice ho; injection e with _ _ e3; omega
      clear ho hf
      try dsimp only
      go_wp2_with fail
      refine (HU2.out w3).mono ?_
      rintro _ w4 ⟨A5, c5, rfl, ho, hf⟩
      have HG := Lib.hid (HG.out.trans' hf)
      have HI := Lib.hid (Rd.of_own ho)
      have HS := Lib.hid (HS.out.frm' hf)
      have hc5 : 10 ≤ c5 := by obtain ⟨_, _, e, h⟩ := own_slice ho; injection e with _ _ e3; omega
      clear ho hf
      try dsimp only
      have HF4 := Lib.hid (HF.out.trans' HG.out)
      have HALL : Hid (∀ w', Frm noB w4 w' → TabOk w' ∧ Rd w' (some ⟨w.heap.size, 0, none⟩) (b20L.map bv) ∧ Rd w' (some ⟨w1.heap.size, 0, none⟩) (b22L.map bv) ∧ Rd w' A4 (saltL.map bv) ∧ Rd w' A5 (infoL.map bv)) := Lib.hid fun w' hf => ⟨HT.out.frm' (HF4.out.trans' hf), HR20.out.frm' (HG.out.trans' hf), HR22.out.frm' (HG.out.trans' hf), HS.out.frm' hf, HI.out.frm' hf⟩
      clear HR20 HR22 HS HI HG HF HU1 HU2
      obtain ⟨b20, hb20⟩ : ∃ b : List UInt8, b = b20L := ⟨_, rfl⟩
      obtain ⟨b22, hb22⟩ : ∃ b : List UInt8, b = b22L := ⟨_, rfl⟩
      obtain ⟨salt, hsalt⟩ : ∃ b : List UInt8, b = saltL := ⟨_, rfl⟩
      obtain ⟨info, hinfo⟩ : ∃ b : List UInt8, b = infoL := ⟨_, rfl⟩
      have hl20 : b20.length = 20 := by rw [hb20]; rfl
      have hl22 : b22.length = 22 := by rw [hb22]; rfl
      have hlS : salt.length = 13 := by rw [hsalt]; rfl
      have hlI : info.length = 10 := by rw [hinfo]; rfl
      have HK : Hid (expW (sha (macT salt b22)) info 42 = okmL) := Lib.hid (by rw [hsalt, hb22, hinfo]; exact okm_known)
      have HHI : Hid (hexL (ByteArray.mk #[98, 48, 51, 52, 52, 99, 54, 49, 100, 56, 100, 98, 51, 56, 53, 51, 53, 99, 97, 56, 97, 102, 99, 101, 97, 102, 48, 98, 102, 49, 50, 98, 56, 56, 49, 100, 99, 50, 48, 48, 99, 57, 56, 51, 51, 100, 97, 55, 50, 54, 101, 57, 51, 55, 54, 99, 50, 101, 51, 50, 99, 102, 102, 55]).data.toList = sha (macT b20 hiL)) := Lib.hid (by rw [hb20]; exact hi_known)
      have HEX : Hid (hexL (ByteArray.mk #[48, 55, 55, 55, 48, 57, 51, 54, 50, 99, 50, 101, 51, 50, 100, 102, 48, 100, 100, 99, 51, 102, 48, 100, 99, 52, 55, 98, 98, 97, 54, 51, 57, 48, 98, 54, 99, 55, 51, 98, 98, 53, 48, 102, 57, 99, 51, 49, 50, 50, 101, 99, 56, 52, 52, 97, 100, 55, 99, 50, 98, 51, 101, 53]).data.toList = sha (macT salt b22)) := Lib.hid (by rw [hsalt, hb22]; exact ext_known)
      have HZK : Hid (decide (hmac b20 [] = List.replicate 32 0) = false) := Lib.hid (by rw [hb20]; exact zero_known)
      rw [← hb20, ← hb22, ← hsalt, ← hinfo] at HALL
      have HL20 := Lib.hid hl20
      have HL22 := Lib.hid hl22
      have HLS := Lib.hid hlS
      have HLI := Lib.hid hlI
      clear hb20 hb22 hsalt hinfo hl20 hl22 hlS hlI
      obtain ⟨mp, hmp⟩ : ∃ mp, macT salt b22 = mp := ⟨_, rfl⟩
      obtain ⟨okm, hokm⟩ : ∃ o : List UInt8, o = okmL := ⟨_, rfl⟩
      have hlO : okm.length = 42 := by rw [hokm]; rfl
      have HU3 := Lib.hid fun w => unhex_n w (ByteArray.mk #[51, 99, 98, 50, 53, 102, 50, 53, 102, 97, 97, 99, 100, 53, 55, 97, 57, 48, 52, 51, 52, 102, 54, 52, 100, 48, 51, 54, 50, 102, 50, 97, 50, 100, 50, 100, 48, 97, 57, 48, 99, 102, 49, 97, 53, 97, 52, 99, 53, 100, 98, 48, 50, 100, 53, 54, 101, 99, 99, 52, 99, 53, 98, 102, 51, 52, 48, 48, 55, 50, 48, 56, 100, 53, 98, 56, 56, 55, 49, 56, 53, 56, 54, 53]) 42 rfl (by decide)
      rw [hex_okm, ← hokm] at HU3
      rw [hmp, ← hokm] at HK
      rw [hmp] at HEX
      have HMP := Lib.hid hmp
      have HLO := Lib.hid hlO
      clear hmp hokm hlO
      have kc := fun (w : World) (C : Array Value) (n c : Nat) => Lib.run_convert_bytes_const (P := Tryd.prog) w 29 5 C n c Tryd.underlying29 Tryd.underlying5
      go_wp2_with fail
      obtain ⟨t0, t1, t2, t3, t4⟩ := HALL.out _ (Frm.refl noB w4)
      have hS := derive_any w4 A4 (some ⟨w1.heap.size, 0, none⟩) A5 salt b22 info c4 22 c5 42 mp HMP.out t0 t3 t2 t4 (by rw [HLS.out]; exact hc4) (by rw [HL22.out]; omega) (by rw [HLI.out]; exact hc5) (by rw [HLS.out]; omega) (by rw [HL22.out]; omega) (by rw [HLI.out]; omega)
      rw [HLS.out, HL22.out, HLI.out, HK.out, show wrongI 42 8160 = 0 from rfl] at hS
      refine hS.mono ?_
      clear hS t0 t1 t2 t3 t4
      rintro _ w5 ⟨A6, c6, rfl, ho, hf⟩
      rw [HLO.out] at ho ⊢
      have HG := Lib.hid hf
      have HO6 := Lib.hid (Rd.of_own ho)
      clear ho hf
      try dsimp only
      go_wp2_with fail
      refine (works04 w5 (HALL.out _ HG.out).1).mono ?_
      rintro _ w6 ⟨rfl, hf⟩
      have HG := Lib.hid (HG.out.trans' hf)
      have HO6 := Lib.hid (HO6.out.frm' hf)
      clear hf
      try dsimp only
      go_wp2_with fail
      have hfx : Frm noB w6 (w6.alloc (.cells (hiL.map bv).toArray 5 (8, 9))) := (Frm.refl _ _).alloc _
      have hrx := rd_laid w6 hiL (8, 9)
      have hsx : (w6.alloc (.cells (hiL.map bv).toArray 5 (8, 9))).heap.size = w6.heap.size + 1 := by simp
      obtain ⟨t0, t1, t2, t3, t4⟩ := HALL.out _ (HG.out.trans' hfx)
      have hS := dersum1 (w6.alloc (.cells (hiL.map bv).toArray 5 (8, 9))) (some ⟨w.heap.size, 0, none⟩) (some ⟨w6.heap.size, 0, none⟩) b20 hiL 20 8 20 8 HL20.out rfl t0 t1 (by omega) (by omega) hrx (by omega) (by omega)
      rw [hsx] at hS
      refine hS.mono ?_
      clear hS t0 t1 t2 t3 t4
      rintro _ w7 ⟨rfl, hf⟩
      have HG7 := Lib.hid (HG.out.trans' (hfx.trans' hf))
      have HO7 := Lib.hid (HO6.out.frm' (hfx.trans' hf))
      clear hf hfx hrx hsx HG HO6
      obtain ⟨mq, hmq⟩ : ∃ mq, macT b20 hiL = mq := ⟨_, rfl⟩
      rw [hmq] at HHI ⊢
      clear hmq
      try dsimp only
      go_wp2_with fail
      refine (is_any w7 mq (ByteArray.mk #[98, 48, 51, 52, 52, 99, 54, 49, 100, 56, 100, 98, 51, 56, 53, 51, 53, 99, 97, 56, 97, 102, 99, 101, 97, 102, 48, 98, 102, 49, 50, 98, 56, 56, 49, 100, 99, 50, 48, 48, 99, 57, 56, 51, 51, 100, 97, 55, 50, 54, 101, 57, 51, 55, 54, 99, 50, 101, 51, 50, 99, 102, 102, 55]) rfl HHI.out).mono ?_
      rintro _ w8 ⟨rfl, hf⟩
      have HG := Lib.hid (HG7.out.trans' hf)
      have HO6 := Lib.hid (HO7.out.frm' hf)
      clear hf HG7 HO7
      try dsimp only
      go_wp2_with fail
      refine (HU3.out w8).mono ?_
      rintro _ w9 ⟨A55, c55, rfl, ho, hf⟩
      have HG := Lib.hid (HG.out.trans' hf)
      have HO6 := Lib.hid (HO6.out.frm' hf)
      have HR55 := Lib.hid (Rd.of_own ho)
      clear ho hf
      try dsimp only
      go_wp2_with fail
      have hS := same_n A6 A55 okm okm 42 42 c6 c55 w9 HLO.out HLO.out HO6.out HR55.out (by unfold Len; omega) (by unfold Len; omega)
      rw [eql_true rfl] at hS
      refine hS.mono ?_
      clear hS
      rintro _ w10 ⟨rfl, hf⟩
      have HG := Lib.hid (HG.out.trans' hf)
      clear hf HO6 HR55
      try dsimp only
      go_wp2_with fail
      obtain ⟨t0, t1, t2, t3, t4⟩ := HALL.out _ HG.out
      have hS := extract_any w10 A4 (some ⟨w1.heap.size, 0, none⟩) salt b22 c4 22 t0 t3 (by rw [HLS.out]; exact hc4) (by rw [HLS.out]; omega) t2 (by rw [HL22.out]; omega) (by rw [HL22.out]; omega)
      rw [HLS.out, HL22.out, HMP.out] at hS
      refine hS.mono ?_
      clear hS t0 t1 t2 t3 t4
      rintro _ w11 ⟨rfl, hf⟩
      have HG := Lib.hid (HG.out.trans' hf)
      clear hf
      try dsimp only
      go_wp2_with fail
      refine (is_any w11 mp (ByteArray.mk #[48, 55, 55, 55, 48, 57, 51, 54, 50, 99, 50, 101, 51, 50, 100, 102, 48, 100, 100, 99, 51, 102, 48, 100, 99, 52, 55, 98, 98, 97, 54, 51, 57, 48, 98, 54, 99, 55, 51, 98, 98, 53, 48, 102, 57, 99, 51, 49, 50, 50, 101, 99, 56, 52, 52, 97, 100, 55, 99, 50, 98, 51, 101, 53]) rfl HEX.out).mono ?_
      rintro _ w12 ⟨rfl, hf⟩
      have HG := Lib.hid (HG.out.trans' hf)
      have h4 : w4.heap.size ≤ w12.heap.size := HG.out.size
      clear hf kc
      try dsimp only
      go_wp2_with fail
      go_loopw [8, 9] (fun v i wr => ∃ k : Nat, k ≤ 140 ∧ i = .int .i64 k ∧ wr.ownsRow w12.heap.size 5 1 v k ((keyK k).map bv) ∧ Frm noB w12 wr) (fun _ i _ => 140 - (intOf i).toNat)
      case atStart => exact ⟨0, by omega, rfl, World.ownsRow_nil _ _ _ _, Frm.refl _ _⟩
      case round =>
        obtain ⟨k, hk, rfl, ho, hF⟩ := hrel
        obtain ⟨Ak, ck, rfl, hck⟩ := own_slice ho
        have HO := Lib.hid ho
        have HF := Lib.hid hF
        have HGk := Lib.hid (HG.out.trans' hF)
        clear ho hF
        by_cases hlt : k < 140
        · have k1 : (k : Int) < 140 := by omega
          have hsz : w12.heap.size ≤ wr.heap.size := HF.out.size
          by_cases h60 : 60 < k
          · obtain ⟨g, hg⟩ : ∃ g : Nat, Ak = some ⟨g, 0, none⟩ := by
              rcases HO.out.2 with ⟨_, h0⟩ | ⟨g, cap, cur, e, _⟩
              · omega
              · injection e with e
                exact ⟨g, e⟩
            subst hg
            have k2 : (60 : Int) < k := by omega
            have k3 : (1 : Int) ≤ k := by omega
            have k4 : ¬ ck = 1 := by omega
            have k5 : (5 : Int) ≤ ck := by omega
            go_upto_region 20 with fail
            have hfd : Frm noB wr wr.drew := (Frm.refl noB wr).drew
            have HOd := Lib.hid (own_frm' HO.out hfd)
            have HFd := Lib.hid (HF.out.trans' hfd)
            have HGd := Lib.hid (HGk.out.trans' hfd)
            clear hfd HO HF HGk hsz
            have hh : True := trivial
            refine wp_region_held_drew (S := fun _ => True) (by kernel_rfl) hh (fun hHeld => ?_)
            generalize wr.drew = wa at *
            refine takeC (i := 0) (.int .i64 k) rfl (by kernel_rfl) (by kernel_rfl) (by kernel_rfl) (fun _ _ _ h => h) (Or.inl ⟨by rfl, fun w hw => by go_simp⟩) hh ?_
            try simp only [Act.put, List.setIfInBounds_toArray, List.set_cons_zero, List.set_cons_succ]
            refine takeC (i := 1) (.bool true) rfl (by kernel_rfl) (by kernel_rfl) (by kernel_rfl) (fun _ _ _ h => h) (Or.inl ⟨by rfl, fun w hw => by go_simp⟩) hh ?_
            try simp only [Act.put, List.setIfInBounds_toArray, List.set_cons_zero, List.set_cons_succ]
            refine takeC (i := 2) (.bool true) rfl (by kernel_rfl) (by kernel_rfl) (by kernel_rfl) (fun _ _ _ h => h) (Or.inl ⟨by rfl, fun w hw => by go_simp⟩) hh ?_
            try simp only [Act.put, List.setIfInBounds_toArray, List.set_cons_zero, List.set_cons_succ]
            refine takeC (i := 3) (.slice (some ⟨g, 0, none⟩) k ck) rfl (by kernel_rfl) (by kernel_rfl) (by kernel_rfl) (fun _ _ _ h => h) (Or.inl ⟨by rfl, fun w hw => by go_simp⟩) hh ?_
            try simp only [Act.put, List.setIfInBounds_toArray, List.set_cons_zero, List.set_cons_succ]
            refine takeC (i := 4) (.slice (some ⟨g, 0, none⟩) k ck) rfl (by kernel_rfl) (by kernel_rfl) (by kernel_rfl) (fun _ _ _ h => h) (Or.inl ⟨by rfl, fun w hw => by go_simp⟩) hh ?_
            try simp only [Act.put, List.setIfInBounds_toArray, List.set_cons_zero, List.set_cons_succ]
            refine consC (i := 5) rfl (by kernel_rfl) (fun K hK => ?_)
            go_simp
            refine hK.out _ _ hh (fun hHeld => ?_)
            clear hK K
            try simp only [Act.put, List.setIfInBounds_toArray, List.set_cons_zero, List.set_cons_succ]
            refine consC (i := 6) rfl (by kernel_rfl) (fun K hK => ?_)
            go_simp
            refine hK.out _ _ hh (fun hHeld => ?_)
            clear hK K
            try simp only [Act.put, List.setIfInBounds_toArray, List.set_cons_zero, List.set_cons_succ]
            refine consC (i := 7) rfl (by kernel_rfl) (fun K hK => ?_)
            go_simp
            go_at_call 10
            refine (sums_known wa (some ⟨g, 0, none⟩) (keyK k) k ck (keyK_length k) (HALL.out _ HGd.out).1 (Rd.of_own HOd.out) hck (by omega)).mono ?_
            rintro _ wb ⟨rfl, hf⟩
            have HOb := Lib.hid (own_frm' HOd.out hf)
            have HFb := Lib.hid (HFd.out.trans' hf)
            have HGb := Lib.hid (HGd.out.trans' hf)
            clear hf HOd HFd HGd
            try dsimp only
            refine hK.out _ _ hh (fun hHeld => ?_)
            clear hK K
            try simp only [Act.put, List.setIfInBounds_toArray, List.set_cons_zero, List.set_cons_succ]
            refine takeC (i := 8) (.bool false) rfl (by kernel_rfl) (by kernel_rfl) (by kernel_rfl) (fun _ _ _ h => h) (Or.inl ⟨by rfl, fun w hw => by go_simp⟩) hh ?_
            try simp only [Act.put, List.setIfInBounds_toArray, List.set_cons_zero, List.set_cons_succ]
            refine takeC (i := 9) (.bool false) rfl (by kernel_rfl) (by kernel_rfl) (by kernel_rfl) (fun _ _ _ h => h) (Or.inl ⟨by rfl, fun w hw => by go_simp⟩) hh ?_
            try simp only [Act.put, List.setIfInBounds_toArray, List.set_cons_zero, List.set_cons_succ]
            refine takeC (i := 10) (.bool false) rfl (by kernel_rfl) (by kernel_rfl) (by kernel_rfl) (fun _ _ _ h => h) (Or.inl ⟨by rfl, fun w hw => by go_simp⟩) hh ?_
            try simp only [Act.put, List.setIfInBounds_toArray, List.set_cons_zero, List.set_cons_succ]
            refine takeC (i := 11) (.int .i64 k) rfl (by kernel_rfl) (by kernel_rfl) (by kernel_rfl) (fun _ _ _ h => h) (Or.inl ⟨by rfl, fun w hw => by go_simp⟩) hh ?_
            try simp only [Act.put, List.setIfInBounds_toArray, List.set_cons_zero, List.set_cons_succ]
            refine takeC (i := 12) (.bool true) rfl (by kernel_rfl) (by kernel_rfl) (by kernel_rfl) (fun _ _ _ h => h) (Or.inl ⟨by rfl, fun w hw => by go_simp⟩) hh ?_
            try simp only [Act.put, List.setIfInBounds_toArray, List.set_cons_zero, List.set_cons_succ]
            refine takeC (i := 13) (.bool true) rfl (by kernel_rfl) (by kernel_rfl) (by kernel_rfl) (fun _ _ _ h => h) (Or.inl ⟨by rfl, fun w hw => by go_simp⟩) hh ?_
            try simp only [Act.put, List.setIfInBounds_toArray, List.set_cons_zero, List.set_cons_succ]
            refine takeC (i := 14) (.slice (some ⟨g, 0, none⟩) k ck) rfl (by kernel_rfl) (by kernel_rfl) (by kernel_rfl) (fun _ _ _ h => h) (Or.inl ⟨by rfl, fun w hw => by go_simp⟩) hh ?_
            try simp only [Act.put, List.setIfInBounds_toArray, List.set_cons_zero, List.set_cons_succ]
            refine takeC (i := 15) (.slice (some ⟨g, 0, none⟩) k ck) rfl (by kernel_rfl) (by kernel_rfl) (by kernel_rfl) (fun _ _ _ h => h) (Or.inl ⟨by rfl, fun w hw => by go_simp⟩) hh ?_
            try simp only [Act.put, List.setIfInBounds_toArray, List.set_cons_zero, List.set_cons_succ]
            refine takeC (i := 16) (.slice (some ⟨g, 1, none⟩) (k - 1) (ck - 1)) rfl (by kernel_rfl) (by kernel_rfl) (by kernel_rfl) (fun _ _ _ h => h) (Or.inl ⟨by rfl, fun w hw => by go_simp⟩) hh ?_
            try simp only [Act.put, List.setIfInBounds_toArray, List.set_cons_zero, List.set_cons_succ]
            refine takeC (i := 17) (.slice (some ⟨g, 0, none⟩) k ck) rfl (by kernel_rfl) (by kernel_rfl) (by kernel_rfl) (fun _ _ _ h => h) (Or.inl ⟨by rfl, fun w hw => by go_simp⟩) hh ?_
            try simp only [Act.put, List.setIfInBounds_toArray, List.set_cons_zero, List.set_cons_succ]
            refine takeC (i := 18) (.agg #[.int .i64 0, .int .i64 0, .slice (some ⟨g, 0, none⟩) k ck]) rfl (by kernel_rfl) (by kernel_rfl) (by kernel_rfl) (fun _ _ _ h => h) (Or.inl ⟨by rfl, fun w hw => by go_simp⟩) hh ?_
            try simp only [Act.put, List.setIfInBounds_toArray, List.set_cons_zero, List.set_cons_succ]
            refine takeC (i := 21) (.agg #[.int .i64 2, .int .i64 1, .slice none 0 0]) rfl (by kernel_rfl) (by kernel_rfl) (by kernel_rfl) (fun _ _ _ h => h) (Or.inl ⟨by rfl, fun w hw => by go_simp⟩) hh ?_
            try simp only [Act.put, List.setIfInBounds_toArray, List.set_cons_zero, List.set_cons_succ]
            refine takeC (i := 22) (.slice (some ⟨g, 0, none⟩) k ck) rfl (by kernel_rfl) (by kernel_rfl) (by kernel_rfl) (fun _ _ _ h => h) (Or.inl ⟨by rfl, fun w hw => by go_simp⟩) hh ?_
            try simp only [Act.put, List.setIfInBounds_toArray, List.set_cons_zero, List.set_cons_succ]
            refine takeC (i := 23) (.slice (some ⟨g, 0, none⟩) 5 ck) rfl (by kernel_rfl) (by kernel_rfl) (by kernel_rfl) (fun _ _ _ h => h) (Or.inl ⟨by rfl, fun w hw => by go_simp⟩) hh ?_
            try simp only [Act.put, List.setIfInBounds_toArray, List.set_cons_zero, List.set_cons_succ]
            refine takeC (i := 24) (.agg #[.int .i64 1, .int .i64 0, .slice (some ⟨g, 0, none⟩) 5 ck]) rfl (by kernel_rfl) (by kernel_rfl) (by kernel_rfl) (fun _ _ _ h => h) (Or.inl ⟨by rfl, fun w hw => by go_simp⟩) hh ?_
            try simp only [Act.put, List.setIfInBounds_toArray, List.set_cons_zero, List.set_cons_succ]
            refine consC (i := 19) rfl (by kernel_rfl) (fun K hK => ?_)
            go_simp
            refine hK.out _ _ hh (fun hHeld => ?_)
            clear hK K
            try simp only [Act.put, List.setIfInBounds_toArray, List.set_cons_zero, List.set_cons_succ]
            refine takeC (i := 20) (.agg #[.int .i64 2, .int .i64 0, .slice (some ⟨wb.heap.size, 0, none⟩) 1 1]) rfl (by kernel_rfl) (by kernel_rfl) (by kernel_rfl) (fun _ _ _ h => h) (Or.inl ⟨by rfl, fun w hw => by go_simp⟩) hh ?_
            try simp only [Act.put, List.setIfInBounds_toArray, List.set_cons_zero, List.set_cons_succ]
            refine consC (i := 25) rfl (by kernel_rfl) (fun K hK => ?_)
            go_simp
            refine hK.out _ _ hh (fun hHeld => ?_)
            clear hK K
            try simp only [Act.put, List.setIfInBounds_toArray, List.set_cons_zero, List.set_cons_succ]
            refine consC (i := 26) rfl (by kernel_rfl) (fun K hK => ?_)
            go_simp
            go_at_call 8
            refine (writes_known wb g (keyK k) k ck (keyK_length k) (HALL.out _ HGb.out).1 (Rd.of_own HOb.out) hck (by omega) (by omega)).mono ?_
            rintro _ wc ⟨rfl, hf⟩
            have HOc := Lib.hid (own_frm' HOb.out hf)
            have HFc := Lib.hid (HFb.out.trans' hf)
            have hsz : w12.heap.size ≤ wc.heap.size := HFc.out.size
            clear hf HOb HFb HGb
            try dsimp only
            refine hK.out _ _ hh (fun hHeld => ?_)
            clear hK K
            try simp only [Act.put, List.setIfInBounds_toArray, List.set_cons_zero, List.set_cons_succ]
            refine takeC (i := 27) (.bool false) rfl (by kernel_rfl) (by kernel_rfl) (by kernel_rfl) (fun _ _ _ h => h) (Or.inl ⟨by rfl, fun w hw => by go_simp⟩) hh ?_
            try simp only [Act.put, List.setIfInBounds_toArray, List.set_cons_zero, List.set_cons_succ]
            refine takeC (i := 28) (.bool false) rfl (by kernel_rfl) (by kernel_rfl) (by kernel_rfl) (fun _ _ _ h => h) (Or.inl ⟨by rfl, fun w hw => by go_simp⟩) hh ?_
            try simp only [Act.put, List.setIfInBounds_toArray, List.set_cons_zero, List.set_cons_succ]
            refine takeC (i := 29) (.bool false) rfl (by kernel_rfl) (by kernel_rfl) (by kernel_rfl) (fun _ _ _ h => h) (Or.inl ⟨by rfl, fun w hw => by go_simp⟩) hh ?_
            try simp only [Act.put, List.setIfInBounds_toArray, List.set_cons_zero, List.set_cons_succ]
            refine wpAnyH_done (by kernel_rfl) ?_ _
            go_wp2_with (at_builtin; refine app1N info29 rfl w12.heap.size HOc.out (.tmp 98) (.tmp 102) rfl rfl rfl rfl rfl (k + 1) rfl _ (keyK_succ k) (by omega) (by omega) hsz ?_; intro A8 c8 w8_ ho8 hc8 hf8 hv8; have HO8 := Lib.hid ho8; have HF8 := Lib.hid hf8; clear ho8 hf8 hv8 hc8)
            exact ⟨⟨k + 1, by omega, by go_num, HO8.out, HFc.out.trans HF8.out fun j hj hv => by have := own_lt HOc.out j hv; omega⟩, by simp [intOf]; omega⟩
          · have k2 : ¬ (60 : Int) < k := by omega
            have k3 : (k : Int) ≤ 60 := by omega
            go_upto_region 20 with fail
            go_quiet (fail)
            have HOq := Lib.hid (own_frm' HO.out (Frm.of_drewN noB wr nq))
            have HFq := Lib.hid (HF.out.trans' (Frm.of_drewN noB wr nq))
            have hszq : w12.heap.size ≤ (wr.drewN nq).heap.size := HFq.out.size
            go_wp2_with (at_builtin; refine app1N info29 rfl w12.heap.size HOq.out (.tmp 98) (.tmp 102) rfl rfl rfl rfl rfl (k + 1) rfl _ (keyK_succ k) (by omega) (by omega) hszq ?_; intro A8 c8 w8_ ho8 hc8 hf8 hv8; have HO8 := Lib.hid ho8; have HF8 := Lib.hid hf8; clear ho8 hf8 hv8 hc8)
            exact ⟨⟨k + 1, by omega, by go_num, HO8.out, HFq.out.trans HF8.out fun j hj hv => by have := own_lt HOq.out j hv; omega⟩, by simp [intOf]; omega⟩
        · have e : k = 140 := by omega
          subst e
          rw [show ((140 : Nat) : Int) = 140 from rfl]
          go_upto_region 24 with fail
          have hlb : Blk (wr.alloc (.cells (lenZ.map fun z => Value.int .i64 z).toArray 3)) wr.heap.size 3 (lenZ.map fun z => Value.int .i64 z).toArray := Blk.new _ _ _
          have hfl : Frm noB wr (wr.alloc (.cells (lenZ.map fun z => Value.int .i64 z).toArray 3)) := (Frm.refl _ _).alloc _
          change Code.wp _ _ _ _ (wr.alloc (.cells (lenZ.map fun z => Value.int .i64 z).toArray 3))
          generalize wr.alloc (.cells (lenZ.map fun z => Value.int .i64 z).toArray 3) = wl at *
          obtain ⟨lb, hlbe⟩ : ∃ lb, lb = wr.heap.size := ⟨_, rfl⟩
          rw [← hlbe] at hlb ⊢
          have HLB := Lib.hid hlb
          have HGL := Lib.hid (HGk.out.trans' hfl)
          clear hlb hfl hlbe HO HF
          go_wp2_with fail
          go_loopw [11] (fun i wq => ∃ k : Nat, k ≤ 14 ∧ i = .int .i64 k ∧ Frm noB wl wq) (fun i _ => 14 - (intOf i).toNat)
          case atStart => exact ⟨0, by omega, rfl, Frm.refl _ _⟩
          case round =>
            obtain ⟨q, hq, rfl, hF⟩ := hrel
            have HF := Lib.hid hF
            clear hF
            by_cases hq14 : q < 14
            · obtain ⟨z, e0⟩ : ∃ z : Int, wr.cell? ⟨lb, q, none⟩ = some (.int .i64 z) := by
                have hl : q < lenZ.length := hq14
                refine ⟨lenZ[q], ?_⟩
                rw [(HLB.out.frm' HF.out).cell q]
                simp [hl]
              have q1 : (q : Int) < 14 := by omega
              obtain ⟨t0, t1, t2, t3, t4⟩ := HALL.out _ (HGL.out.trans' HF.out)
              have hS := deriveExpands_any wr A4 (some ⟨w1.heap.size, 0, none⟩) A5 salt b22 info c4 22 c5 z t0 t3 t2 t4 (by rw [HLS.out]; exact hc4) (by rw [HL22.out]; omega) (by rw [HLI.out]; exact hc5) (by rw [HLS.out]; omega) (by rw [HL22.out]; omega) (by rw [HLI.out]; omega)
              rw [HLS.out, HL22.out, HLI.out] at hS
              have HS := Lib.hid hS
              clear hS t0 t1 t2 t3 t4
              go_wp2_with fail
              refine HS.out.mono ?_
              rintro _ wm ⟨rfl, hf⟩
              have HFm := Lib.hid (HF.out.trans' hf)
              have e1 := hf.cell_some e0 (fun h => h)
              obtain ⟨t0, t1, t2, t3, t4⟩ := HALL.out _ (HGL.out.trans' HFm.out)
              have hS := deriveKeys_any wm none (some ⟨w.heap.size, 0, none⟩) none [] b20 [] 0 20 0 z t0 (Rd.nil _ _) t1 (Rd.nil _ _) (Nat.le_refl _) (by rw [HL20.out]; omega) (Nat.le_refl _) (by simp) (by rw [HL20.out]; omega) (by simp)
              rw [HL20.out, List.length_nil] at hS
              have HS2 := Lib.hid hS
              clear hS t0 t1 t2 t3 t4 hf e0 HS
              try dsimp only
              go_wp2_with fail
              refine HS2.out.mono ?_
              rintro _ wn ⟨rfl, hf⟩
              have HFn := Lib.hid (HFm.out.trans' hf)
              clear hf HS2
              try dsimp only
              go_wp2_with fail
              exact ⟨⟨q + 1, by omega, by go_num, HFn.out⟩, by simp [intOf]; omega⟩
            · have e : q = 14 := by omega
              subst e
              rw [show ((14 : Nat) : Int) = 14 from rfl]
              have HGZ := Lib.hid (HGL.out.trans' HF.out)
              clear HGL HF HLB
              go_wp2_with fail
              refine (macwrite_nil _ _ _ _).mono ?_
              rintro _ _ ⟨rfl, rfl⟩
              have hfa : Frm noB wr (wr.alloc (.cells #[.int .u8 1] 5)) := (Frm.refl _ _).alloc _
              have HGA := Lib.hid (HGZ.out.trans' hfa)
              have hEI : ∀ w : World, (binOp .eql 36 (.iface 77 (.int .i64 1)) (.iface 77 (.int .i64 1))).run Tryd.prog w = .ok (.bool true) w := fun w => by kernel_rfl
              clear hfa
              generalize wr.alloc (.cells #[.int .u8 1] 5) = wx at *
              try dsimp only
              go_wp2_with fail
              refine (macsum_nil wx).mono ?_
              rintro _ wy ⟨rfl, hf⟩
              have HGY := Lib.hid (HGA.out.trans' hf)
              obtain ⟨C0, hZ0⟩ : ∃ C0 : Array Value, .agg C0 = zH := ⟨_, rfl⟩
              have HB0 : Hid (∀ w : World, (Instr.build 26 #[]).run Tryd.prog w = .ok (.agg C0) w) := Lib.hid (by rw [hZ0]; exact run_build0)
              have hE : ∀ w : World, (Op.equalIn 10000 26 (.agg C0) (.agg C0)).run Tryd.prog w = .ok true w := by rw [hZ0]; exact eq_zH
              have HZC : Hid (Value.agg (arr 32 (codeF (List.replicate 32 0))) = .agg C0) := Lib.hid (by rw [hZ0]; exact zH_code.symm)
              rw [← hZ0]
              clear hf hZ0
              try dsimp only
              go_wp2_with (refine wpList_build0 (by rfl) 26 rfl (.agg C0) (HB0.out _) ?_)
              have HS := Lib.hid fun w' (hf : Frm noB w4 w') => check_any w' (some ⟨w.heap.size, 0, none⟩) none b20 [] (List.replicate 32 0) 20 0 (N := fun _ => True) (by simp) (HALL.out _ hf).1 (HALL.out _ hf).2.1 (by rw [HL20.out]; omega) (by rw [HL20.out]; omega) (⟨[], Rd.nil _ _, rfl, fun i h => absurd h (by simp), fun h => absurd rfl h⟩) (by simp) (by simp)
              rw [HL20.out, HZC.out, List.flatten_nil, HZK.out, List.length_nil] at HS
              refine (HS.out _ HGY.out).mono ?_
              rintro _ wz ⟨rfl, hf⟩
              have HGE := Lib.hid (HF4.out.trans' (HGY.out.trans' hf))
              clear hf
              try dsimp only
              go_wp2_with fail
              go_ret
              exact ⟨rfl, HGE.out⟩
end Go.Proofs.YtkhakddecmgejaaDoor
