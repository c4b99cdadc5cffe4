/-
  The code of a text under a key: plain. No program in sight.
-/
import Derived.Test.YtkhakddecmgejaaDoorSum
import Derived.Test.YtkhakddecmgejaaDoorDsum
namespace Go.Proofs.YtkhakddecmgejaaDoor
open Go.RowKit
set_option linter.unusedVariables false
set_option linter.unusedSimpArgs false

/-- a key, or its digest where it is long -/
def shortKey (key : List UInt8) : List UInt8 := if 64 < key.length then sha key else key
/-- a key's frame -/
def padKey (key : List UInt8) : List UInt8 := shortKey key ++ List.replicate (64 - (shortKey key).length) 0
def turned (c : UInt8) (l : List UInt8) : List UInt8 := l.map (· ^^^ c)
/-- what the inner digest is of -/
def macIn (key text : List UInt8) : List UInt8 := turned 0x36 (padKey key) ++ text
/-- what the outer digest is of -/
def macT (key text : List UInt8) : List UInt8 := turned 0x5c (padKey key) ++ sha (macIn key text)
theorem shortKey_le (key : List UInt8) : (shortKey key).length ≤ 64 := by
  unfold shortKey; split
  · rw [sha_length]; omega
  · omega
theorem padKey_length (key : List UInt8) : (padKey key).length = 64 := by
  have := shortKey_le key
  simp [padKey]; omega
theorem turned_length (c : UInt8) (l : List UInt8) : (turned c l).length = l.length := by simp [turned]
theorem macIn_length (key text : List UInt8) : (macIn key text).length = 64 + text.length := by simp [macIn, turned_length, padKey_length]
theorem macT_length (key text : List UInt8) : (macT key text).length = 96 := by simp [macT, turned_length, padKey_length, sha_length]
/-- a list whose first k elements have been turned -/
def mixL (f : UInt8 → UInt8) (l : List UInt8) (k : Nat) : List UInt8 := (l.take k).map f ++ l.drop k
theorem mixL_zero (f : UInt8 → UInt8) (l : List UInt8) : mixL f l 0 = l := by simp [mixL]
theorem mixL_all (f : UInt8 → UInt8) (l : List UInt8) : mixL f l l.length = l.map f := by simp [mixL]
theorem mixL_length (f : UInt8 → UInt8) (l : List UInt8) (k : Nat) : (mixL f l k).length = l.length := by simp [mixL]; omega
theorem mixL_at (f : UInt8 → UInt8) (l : List UInt8) {k : Nat} (h : k < l.length) : (mixL f l k)[k]'(by rw [mixL_length]; exact h) = l[k] := by
  have hk : ((l.take k).map f).length = k := by simp; omega
  unfold mixL
  rw [List.getElem_append_right (by omega), List.getElem_drop]
  congr 1
  omega
theorem mixL_set (f : UInt8 → UInt8) (l : List UInt8) {k : Nat} (h : k < l.length) : (mixL f l k).set k (f l[k]) = mixL f l (k + 1) := by
  have hk : ((l.take k).map f).length = k := by simp; omega
  unfold mixL
  rw [List.set_append_right _ _ (by omega), hk, Nat.sub_self, List.take_succ_eq_append_getElem h, List.map_append, List.drop_eq_getElem_cons h, List.set_cons_zero, List.append_assoc]
  rfl
theorem bv_xor (x c : UInt8) : bits .xor .u8 (x.toNat : Int) (c.toNat : Int) = ((x ^^^ c).toNat : Int) := by
  rw [u8_xor_nat _ _ x.toNat_lt c.toNat_lt, UInt8.toNat_xor]
/-- how long a slice is -/
def lenV : Value → Nat
  | .slice _ n _ => n
  | _ => 0
/-- a hash that lies in a block, as a list -/
theorem Blk.hashRd {w : World} {g : Nat} {t : TypeId} {m : List UInt8} (h : Blk w g t (arr 32 (shaAt m))) : Rd w (some ⟨g, 0, none⟩) ((sha m).map bv) := by
  intro i hi
  have hi : i < 32 := by simpa [sha_length] using hi
  refine ⟨g, 0, rfl, ?_⟩
  have hl : i < (sha m).length := by rw [sha_length]; exact hi
  rw [Nat.zero_add, h.at_ hi]
  simp [shaAt, List.getD, hl]
/-- the code -/
def hmac (key text : List UInt8) : List UInt8 := sha (macT key text)
theorem hmac_length (key text : List UInt8) : (hmac key text).length = 32 := sha_length _
/-- the chain of Expand: its k-th piece -/
def tCh (pk info : List UInt8) : Nat → List UInt8
  | 0 => []
  | k + 1 => hmac pk (tCh pk info k ++ info ++ [UInt8.ofNat (k + 1)])
/-- .. its first k pieces -/
def oCh (pk info : List UInt8) : Nat → List UInt8
  | 0 => []
  | k + 1 => oCh pk info k ++ tCh pk info (k + 1)
theorem tCh_length (pk info : List UInt8) (k : Nat) : (tCh pk info (k + 1)).length = 32 := hmac_length _ _
theorem tCh_le (pk info : List UInt8) (k : Nat) : (tCh pk info k).length ≤ 32 := by
  cases k with
  | zero => simp [tCh]
  | succ k => rw [tCh_length]; omega
theorem oCh_length (pk info : List UInt8) : ∀ k, (oCh pk info k).length = 32 * k
  | 0 => rfl
  | k + 1 => by simp only [oCh, List.length_append, oCh_length pk info k, tCh_length]; omega
/-- how many pieces n bytes want -/
def pcs (n : Nat) : Nat := (n + 31) / 32
/-- n bytes -/
def expL (pk info : List UInt8) (n : Nat) : List UInt8 := (oCh pk info (pcs n)).take n
theorem expL_length (pk info : List UInt8) (n : Nat) : (expL pk info n).length = n := by
  unfold expL pcs
  rw [List.length_take, oCh_length]; omega
end Go.Proofs.YtkhakddecmgejaaDoor
