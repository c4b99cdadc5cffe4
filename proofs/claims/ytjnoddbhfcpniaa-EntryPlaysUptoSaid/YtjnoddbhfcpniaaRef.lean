/-
  Contracts of the helpers of trystref00: equal lists, copies.
-/
import Derived.Test.YtjnoddbhfcpniaaProg
import Derived.Test.YtjnoddbhfcpniaaMem
namespace Go.Proofs.Ytjnoddbhfcpniaa
open Go.RowKit
set_option linter.unusedVariables false
set_option linter.unusedSimpArgs false

def bv (x : UInt8) : Value := .int .u8 x.toNat
def iv (x : Int) : Value := .int .i64 x
def eql {α : Type} [DecidableEq α] (xs ys : List α) : Bool := decide (xs = ys)
theorem eql_true {α : Type} [DecidableEq α] {xs ys : List α} (h : xs = ys) : eql xs ys = true := by simp [eql, h]
theorem eql_false {α : Type} [DecidableEq α] {xs ys : List α} (h : xs ≠ ys) : eql xs ys = false := by simp [eql, h]
theorem u8_ne {a b : UInt8} (h : ((a.toNat : Int) != (b.toNat : Int)) = true) : a ≠ b := by
  rintro rfl; simp at h
theorem u8_eq {a b : UInt8} (h : ((a.toNat : Int) != (b.toNat : Int)) = false) : a = b := by
  have : (a.toNat : Int) = (b.toNat : Int) := by simpa using h
  exact UInt8.toNat_inj.1 (by omega)
theorem int_ne {a b : Int} (h : (a != b) = true) : a ≠ b := by simpa using h
theorem int_eq {a b : Int} (h : (a != b) = false) : a = b := by simpa using h
theorem ne_of_at {α : Type} {xs ys : List α} {k : Nat} (hx : k < xs.length) (hy : k < ys.length) (h : xs[k] ≠ ys[k]) : xs ≠ ys := by
  rintro rfl; exact h rfl
theorem take_succ_eq {α : Type} {xs ys : List α} {k : Nat} (hx : k < xs.length) (hy : k < ys.length) (h : xs.take k = ys.take k) (e : xs[k] = ys[k]) : xs.take (k + 1) = ys.take (k + 1) := by
  rw [List.take_succ_eq_append_getElem hx, List.take_succ_eq_append_getElem hy, h, e]
theorem ret_bool {a b : Bool} (h : a = b) : Ending.returned (.bool a) = Ending.returned (.bool b) := by rw [h]
theorem ret_int {k : IntKind} {a b : Int} (h : a = b) : Ending.returned (.int k a) = .returned (.int k b) := by rw [h]

theorem Rd.b {w : World} {A : Option Addr} {xs : List UInt8} (h : Rd w A (xs.map bv)) {i : Nat} (hi : i < xs.length) :
    ∃ b off, A = some ⟨b, off, none⟩ ∧ w.cell? ⟨b, off + i, none⟩ = some (.int .u8 (xs[i].toNat : Int)) := by
  obtain ⟨b, off, e, hc⟩ := h i (by simpa using hi)
  exact ⟨b, off, e, by simpa [bv] using hc⟩
theorem Rd.i {w : World} {A : Option Addr} {xs : List Int} (h : Rd w A (xs.map iv)) {i : Nat} (hi : i < xs.length) :
    ∃ b off, A = some ⟨b, off, none⟩ ∧ w.cell? ⟨b, off + i, none⟩ = some (.int .i64 xs[i]) := by
  obtain ⟨b, off, e, hc⟩ := h i (by simpa using hi)
  exact ⟨b, off, e, by simpa [iv] using hc⟩
theorem bv_one (xs : List UInt8) : ∀ u ∈ xs.map bv, u.oneCell' = true := by
  intro u hu; obtain ⟨x, _, rfl⟩ := List.mem_map.1 hu; rfl
theorem iv_one (xs : List Int) : ∀ u ∈ xs.map iv, u.oneCell' = true := by
  intro u hu; obtain ⟨x, _, rfl⟩ := List.mem_map.1 hu; rfl

/-- a slice of lists of bytes; N: of each of its blocks -/
def RdRows (w : World) (A : Option Addr) (xss : List (List UInt8)) (N : Nat → Prop) : Prop :=
  ∃ vs : List Value, Rd w A vs ∧ vs.length = xss.length ∧ (∀ i (h : i < xss.length) (h' : i < vs.length), ∃ A' c, vs[i] = .slice A' xss[i].length c ∧ xss[i].length ≤ c ∧ Rd w A' (xss[i].map bv) ∧ (xss[i] ≠ [] → ∀ k, aB A' k → N k)) ∧ (vs ≠ [] → ∀ k, aB A k → N k)
theorem RdRows.at {w : World} {A : Option Addr} {xss : List (List UInt8)} {N : Nat → Prop} (h : RdRows w A xss N) {i : Nat} (hi : i < xss.length) :
    ∃ b off A' c, A = some ⟨b, off, none⟩ ∧ w.cell? ⟨b, off + i, none⟩ = some (.slice A' xss[i].length c) ∧ xss[i].length ≤ c ∧ Rd w A' (xss[i].map bv) ∧ (xss[i] ≠ [] → ∀ k, aB A' k → N k) ∧ N b := by
  obtain ⟨vs, h1, h2, h3, h4⟩ := h
  obtain ⟨b, off, e, hc⟩ := h1 i (by omega)
  obtain ⟨A', c, e', hcc, hr, hn⟩ := h3 i hi (by omega)
  exact ⟨b, off, A', c, e, by rw [hc, e'], hcc, hr, hn, h4 (by intro e; subst e; simp at h2; omega) b ⟨_, e, rfl⟩⟩
theorem Rd.frmN {S : Nat → Prop} {w w' : World} {A : Option Addr} {xs : List Value} (h : Rd w A xs) (hf : Frm S w w') (hS : xs ≠ [] → ∀ k, aB A k → ¬ S k) : Rd w' A xs := by
  by_cases e : xs = []
  · subst e; exact Rd.nil _ _
  · exact h.frm hf (hS e)
theorem RdRows.frm {S N : Nat → Prop} {w w' : World} {A : Option Addr} {xss : List (List UInt8)} (h : RdRows w A xss N) (hf : Frm S w w') (hS : ∀ k, N k → ¬ S k) : RdRows w' A xss N := by
  obtain ⟨vs, h1, h2, h3, h4⟩ := h
  refine ⟨vs, h1.frmN hf fun e k hk => hS k (h4 e k hk), h2, fun i hi hi' => ?_, h4⟩
  obtain ⟨A', c, e, hcc, hr, hn⟩ := h3 i hi hi'
  exact ⟨A', c, e, hcc, hr.frmN hf fun e k hk => hS k (hn (by intro h; apply e; rw [h]; rfl) k hk), hn⟩
theorem RdRows.frm' {N : Nat → Prop} {w w' : World} {A : Option Addr} {xss : List (List UInt8)} (h : RdRows w A xss N) (hf : Frm noB w w') : RdRows w' A xss N := h.frm hf fun _ _ h => h
theorem RdRows.mono {N M : Nat → Prop} {w : World} {A : Option Addr} {xss : List (List UInt8)} (h : RdRows w A xss N) (hM : ∀ k, N k → M k) : RdRows w A xss M := by
  obtain ⟨vs, h1, h2, h3, h4⟩ := h
  refine ⟨vs, h1, h2, fun i hi hi' => ?_, fun e k hk => hM k (h4 e k hk)⟩
  obtain ⟨A', c, e, hcc, hr, hn⟩ := h3 i hi hi'
  exact ⟨A', c, e, hcc, hr, fun e k hk => hM k (hn e k hk)⟩

/-- lengths that the walk bears -/
def Len (n : Nat) : Prop := n ≤ 140737488351232
theorem Len.le {n : Nat} (h : Len n) : n ≤ 140737488351232 := h

theorem info35 : EInfo Try.prog 35 5 1 1 (.int .u8 0) := by
  obtain ⟨i, h1, h2, h3, h4⟩ := info_parts (show (Try.prog.info? 5).map (fun i => (i.zero, i.size, i.bytes)) = some (some (.int .u8 0), 1, 1) by kernel_rfl)
  exact ⟨Try.underlying35, ⟨i, h1, h2, h3, h4⟩, rfl, by decide⟩
theorem info37 : EInfo Try.prog 37 35 1 24 (.slice none 0 0) := by
  obtain ⟨i, h1, h2, h3, h4⟩ := info_parts (show (Try.prog.info? 35).map (fun i => (i.zero, i.size, i.bytes)) = some (some (.slice none 0 0), 1, 24) by kernel_rfl)
  exact ⟨Try.underlying37, ⟨i, h1, h2, h3, h4⟩, rfl, by decide⟩

set_option maxHeartbeats 400000 in
theorem eqBytes_q (A B : Option Addr) (xs ys : List UInt8) (c d : Nat) (w : World) (hx : Rd w A (xs.map bv)) (hy : Rd w B (ys.map bv)) (h1 : Len xs.length) (h2 : Len ys.length) :
    Calls Try.prog 22 #[.slice A xs.length c, .slice B ys.length d] w fun e w' => e = .returned (.bool (eql xs ys)) ∧ ∃ n, w' = w.drewN n := by
  have h1 := h1.le
  have h2 := h2.le
  by_cases hl : xs.length = ys.length
  · go_enter Try.func22, Try.ntmps22
    go_wp2
    go_loopw [5] (fun i wr => ∃ k n : Nat, k ≤ xs.length ∧ i = .int .i64 k ∧ xs.take k = ys.take k ∧ wr = w.drewN n) (fun i _ => xs.length - (intOf i).toNat)
    case atStart => exact ⟨0, 0, by omega, rfl, rfl, rfl⟩
    case round =>
      obtain ⟨k, n, hk, rfl, hp, rfl⟩ := hrel
      by_cases hlt : k < xs.length
      · have hlt' : k < ys.length := by omega
        obtain ⟨b, o, rfl, hc⟩ := hx.b hlt
        obtain ⟨b', o', rfl, hc'⟩ := hy.b hlt'
        have HP := Lib.hid hp
        have HL := Lib.hid hl
        clear hp hl
        go_wp2_with fail
        go_quiet (fail)
        go_wp2
        · have hne := u8_ne ‹_›
          go_ret
          exact ⟨ret_bool (eql_false (ne_of_at hlt hlt' hne)).symm, n + nq, by simp⟩
        · have he := u8_eq ‹_›
          go_roundw
          case rel => exact ⟨k + 1, n + nq, by omega, by go_num, take_succ_eq hlt hlt' HP.out he, by simp⟩
          case measure => simp [intOf]; omega
      · have e : xs = ys := by rw [List.take_of_length_le (by omega), List.take_of_length_le (by omega)] at hp; exact hp
        have HE := Lib.hid e
        clear e hp
        go_wp2
        go_ret
        exact ⟨ret_bool (eql_true HE.out).symm, _, rfl⟩
  · have hl' : ((xs.length : Int) != (ys.length : Int)) = true := by simp; omega
    go_enter Try.func22, Try.ntmps22
    go_wp2
    go_ret
    exact ⟨ret_bool (eql_false fun e => hl (by rw [e])).symm, 0, rfl⟩

theorem eqBytes_any (A B : Option Addr) (xs ys : List UInt8) (c d : Nat) (w : World) (hx : Rd w A (xs.map bv)) (hy : Rd w B (ys.map bv)) (h1 : Len xs.length) (h2 : Len ys.length) :
    Calls Try.prog 22 #[.slice A xs.length c, .slice B ys.length d] w fun e w' => e = .returned (.bool (eql xs ys)) ∧ Frm noB w w' :=
  (eqBytes_q A B xs ys c d w hx hy h1 h2).mono fun _ _ ⟨h, n, hw⟩ => ⟨h, hw ▸ Frm.of_drewN _ _ _⟩

set_option maxHeartbeats 400000 in
theorem copyBytes_any (A : Option Addr) (xs : List UInt8) (c : Nat) (w : World) (hx : Rd w A (xs.map bv)) (h1 : Len xs.length) :
    Calls Try.prog 16 #[.slice A xs.length c] w fun e w' => ∃ v, e = .returned v ∧ w'.ownsRow w.heap.size 5 1 v xs.length (xs.map bv) ∧ Frm noB w w' := by
  have h1 := h1.le
  go_enter Try.func16, Try.ntmps16
  go_wp2_with (at_make; refine mk0 info35 rfl _ _ rfl w.heap.size xs.length rfl rfl rfl (by omega) (by omega) (Nat.le_refl _) ?_; intro w1 hown1 hf1)
  go_loopw [3, 4] (fun v i wr => ∃ k : Nat, k ≤ xs.length ∧ i = .int .i64 k ∧ wr.ownsRow w.heap.size 5 1 v k ((xs.take k).map bv) ∧ Frm noB w wr) (fun _ i _ => xs.length - (intOf i).toNat)
  case atStart => exact ⟨0, Nat.zero_le _, rfl, hown1, hf1⟩
  case round =>
    obtain ⟨k, hk, rfl, hown, hf⟩ := hrel
    by_cases hlt : k < xs.length
    · obtain ⟨b, o, rfl, hc⟩ := (hx.frm' hf).b hlt
      go_wp2_with (at_builtin; refine app1 info35 rfl w.heap.size hown _ _ rfl rfl rfl rfl (by omega) (by omega) hf.size ?_; intro A' c' w' hown' hcc hf' hv')
      go_roundw
      case rel =>
        refine ⟨k + 1, by omega, by go_num, ?_, hf.trans hf' fun j hj hv => ?_⟩
        · rw [List.take_succ_eq_append_getElem hlt, List.map_append]; exact hown'
        · have := own_lt hown j hv; omega
      case measure => simp [intOf]; omega
    · have e : k = xs.length := by omega
      subst e
      rw [List.take_length] at hown
      go_wp2
      go_ret
      exact ⟨_, rfl, hown, hf⟩

theorem RdRows.drewN {w : World} {A : Option Addr} {xss : List (List UInt8)} {N : Nat → Prop} (h : RdRows w A xss N) (n : Nat) : RdRows (w.drewN n) A xss N := h

end Go.Proofs.Ytjnoddbhfcpniaa
