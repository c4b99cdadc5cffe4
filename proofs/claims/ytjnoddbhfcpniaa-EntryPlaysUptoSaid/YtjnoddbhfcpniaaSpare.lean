/-
  Spare and Kept: bytes with marked room behind them.
-/
import Derived.Test.YtjnoddbhfcpniaaRef
import Derived.Test.YtjnoddbhfcpniaaBlk
namespace Go.Proofs.Ytjnoddbhfcpniaa
open Go.RowKit
set_option linter.unusedVariables false
set_option linter.unusedSimpArgs false

/-- an owned row whose room is full is a block known whole -/
theorem own_blk {w : World} {base e n : Nat} {g : Nat} {xs : List Value} (h : w.ownsRow base e 1 (.slice (some ⟨g, 0, none⟩) n n) n xs) : Blk w g e xs.toArray := by
  rcases h.2 with ⟨h', _⟩ | ⟨g', cap', cur, h', hb, hg, hnc, hcm, hcs, htake⟩
  · simp at h'
  · simp only [Value.slice.injEq, Option.some.injEq, Addr.mk.injEq, and_true, true_and] at h'
    obtain ⟨rfl, rfl⟩ := h'
    unfold Blk
    rw [hg]
    congr 2
    rw [← htake, List.take_of_length_le (by simp; omega)]

/-- the mark at a place -/
def smk (k : Int) : Int := bits BinOp.xor IntKind.i64 165 k % 256
/-- block g has the bytes xs and 80 marks behind them -/
def Spared (w : World) (g : Nat) (xs : List UInt8) : Prop :=
  ∃ cs, Blk w g 5 cs ∧ cs.size = xs.length + 80 ∧ (∀ j (h : j < xs.length), cs[j]? = some (bv xs[j])) ∧ ∀ j, xs.length ≤ j → j < xs.length + 80 → cs[j]? = some (.int .u8 (smk j))
theorem Spared.frm {S : Nat → Prop} {w w' : World} {g : Nat} {xs : List UInt8} (h : Spared w g xs) (hf : Frm S w w') (hS : ¬ S g) : Spared w' g xs := by
  obtain ⟨cs, h1, h2⟩ := h
  exact ⟨cs, h1.frm hf hS, h2⟩
theorem Spared.frm' {w w' : World} {g : Nat} {xs : List UInt8} (h : Spared w g xs) (hf : Frm noB w w') : Spared w' g xs := h.frm hf fun h => h
theorem Spared.lt {w : World} {g : Nat} {xs : List UInt8} (h : Spared w g xs) : g < w.heap.size := by
  obtain ⟨cs, h1, _⟩ := h
  exact h1.lt
theorem Spared.rd {w : World} {g : Nat} {xs : List UInt8} (h : Spared w g xs) : Rd w (some ⟨g, 0, none⟩) (xs.map bv) := by
  obtain ⟨cs, h1, h2, h3, _⟩ := h
  intro i hi
  refine ⟨g, 0, rfl, ?_⟩
  rw [Nat.zero_add, h1.cell i, h3 i (by simpa using hi)]
  simp

set_option maxHeartbeats 400000 in
theorem spare_any (A : Option Addr) (xs : List UInt8) (c : Nat) (w : World) (hx : Rd w A (xs.map bv)) (h1 : xs.length ≤ 4000000) :
    Calls Try.prog 24 #[.slice A xs.length c] w fun e w' => ∃ g, e = .returned (.slice (some ⟨g, 0, none⟩) xs.length (xs.length + 80)) ∧ w.heap.size ≤ g ∧ Spared w' g xs ∧ Frm noB w w' := by
  go_enter Try.func24, Try.ntmps24
  go_wp2_with (at_make; refine mkN info35 rfl rfl _ _ rfl w.heap.size (xs.length + 80) rfl rfl (by go_num) (by go_num) (by omega) (by omega) (Nat.le_refl _) ?_; intro w1 hown1 hf1)
  go_loopw [4] (fun i wr => ∃ (k : Nat) (cs : Array Value), k ≤ xs.length + 80 ∧ i = .int .i64 k ∧ Blk wr w.heap.size 5 cs ∧ cs.size = xs.length + 80 ∧ (∀ j (h : j < xs.length), j < k → cs[j]? = some (bv xs[j])) ∧ (∀ j, xs.length ≤ j → j < k → cs[j]? = some (.int .u8 (smk j))) ∧ Frm noB w wr) (fun i _ => xs.length + 80 - (intOf i).toNat)
  case atStart => exact ⟨0, _, by omega, rfl, own_blk hown1, by simp, fun j _ h => absurd h (by omega), fun j _ h => absurd h (by omega), hf1⟩
  case round =>
    obtain ⟨k, cs, hk, rfl, hB, hs, ha, hm, hf⟩ := hrel
    have HA := Lib.hid ha
    have HM := Lib.hid hm
    clear ha hm
    by_cases hlt : k < xs.length + 80
    · have hb := hB.cell k
      rw [Array.getElem?_eq_getElem (by omega)] at hb
      have hz := hB.frozen k
      by_cases hl : k < xs.length
      · obtain ⟨b, o, rfl, hc⟩ := (hx.frm' hf).b hl
        go_wp2
        refine ⟨⟨k + 1, _, by omega, by go_num, hB.set_ k _, by simpa using hs, fun j hj hjk => ?_, fun j hj hjk => absurd hjk (by omega), hf.setCell (.inr (Nat.le_refl _)) _⟩, by simp [intOf]; omega⟩
        rw [Array.getElem?_setIfInBounds]
        by_cases e : k = j
        · subst e; rw [if_pos rfl, if_pos (by omega)]; rfl
        · rw [if_neg e]; exact HA.out j hj (by omega)
      · go_wp2
        refine ⟨⟨k + 1, _, by omega, by go_num, hB.set_ k _, by simpa using hs, fun j hj hjk => ?_, fun j hj hjk => ?_, hf.setCell (.inr (Nat.le_refl _)) _⟩, by simp [intOf]; omega⟩
        · rw [Array.getElem?_setIfInBounds, if_neg (by omega)]; exact HA.out j hj (by omega)
        · rw [Array.getElem?_setIfInBounds]
          by_cases e : k = j
          · subst e; rw [if_pos rfl, if_pos (by omega)]; rfl
          · rw [if_neg e]; exact HM.out j hj (by omega)
    · have e : k = xs.length + 80 := by omega
      subst e
      go_wp2
      go_ret
      exact ⟨_, rfl, Nat.le_refl _, ⟨cs, hB, hs, fun j hj => HA.out j hj (by omega), HM.out⟩, hf⟩

set_option maxHeartbeats 400000 in
theorem kept_q (g : Nat) (B : Option Addr) (xs : List UInt8) (d : Nat) (w : World) (hg : Spared w g xs) (hx : Rd w B (xs.map bv)) (h1 : xs.length ≤ 4000000) :
    Calls Try.prog 25 #[.slice (some ⟨g, 0, none⟩) xs.length (xs.length + 80), .slice B xs.length d] w fun e w' => e = .returned (.bool true) ∧ ∃ n, w' = w.drewN n := by
  have hL : Len xs.length := Nat.le_trans h1 (by decide)
  go_enter Try.func25, Try.ntmps25
  go_wp2_with fail
  refine (eqBytes_q (some ⟨g, 0, none⟩) B xs xs (xs.length + 80) d _ hg.rd hx hL hL).mono ?_
  rintro e w1 ⟨rfl, n, rfl⟩
  rw [show eql xs xs = true from eql_true rfl]
  try dsimp only
  go_wp2
  go_loopw [6] (fun i wr => ∃ k n : Nat, xs.length ≤ k ∧ k ≤ xs.length + 80 ∧ i = .int .i64 k ∧ wr = w.drewN n) (fun i _ => xs.length + 80 - (intOf i).toNat)
  case atStart => exact ⟨xs.length, _, Nat.le_refl _, by omega, rfl, rfl⟩
  case round =>
    obtain ⟨k, m, hk0, hk, rfl, rfl⟩ := hrel
    by_cases hlt : k < xs.length + 80
    · obtain ⟨cs, hB, hs, _, hm⟩ := hg
      have hb : (w.drewN m).cell? ⟨g, k, none⟩ = some (.int .u8 (bits BinOp.xor IntKind.i64 165 k % 256)) := ((hB.drewN m).cell k).trans (hm k hk0 hlt)
      have hne : (bits BinOp.xor IntKind.i64 165 (k : Int) % 256 != bits BinOp.xor IntKind.i64 165 (k : Int) % 256) = false := by simp
      go_wp2
      exact ⟨⟨k + 1, m, by omega, by omega, by go_num, rfl⟩, by simp [intOf]; omega⟩
    · go_wp2
      go_ret
      exact ⟨rfl, _, rfl⟩
end Go.Proofs.Ytjnoddbhfcpniaa
