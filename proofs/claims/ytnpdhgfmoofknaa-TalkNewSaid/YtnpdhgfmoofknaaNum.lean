/-
  TalkNew: the small functions: within, pages, take, Pad, Check.
-/
import Derived.Test.YtnpdhgfmoofknaaBlk
import Derived.Test.YtnpdhgfmoofknaaProg
namespace Go.Proofs.Ytnpdhgfmoofknaa
open Go.RowKit
set_option linter.unusedVariables false
set_option linter.unusedSimpArgs false

theorem ret_bool {a b : Bool} (h : a = b) : Ending.returned (.bool a) = Ending.returned (.bool b) := by rw [h]
theorem ret_int {k : IntKind} {a b : Int} (h : a = b) : Ending.returned (.int k a) = .returned (.int k b) := by rw [h]
/-- a number that fits -/
def i64 (n : Int) : Prop := -9223372036854775808 ≤ n ∧ n ≤ 9223372036854775807

theorem within_any (i n : Int) (w : World) (hi : i64 i) (hn : 1 ≤ n ∧ n ≤ 100000) : Calls Try.prog 4 #[.int .i64 i, .int .i64 n] w fun e w' => ∃ r : Int, e = .returned (.int .i64 r) ∧ 0 ≤ r ∧ r < n ∧ w = w' := by
  obtain ⟨h1, h2⟩ := hn
  have n0 : ¬ n = 0 := by omega
  have hlt : i.tmod n < n := Int.tmod_lt_of_pos _ (by omega)
  have hgt : -n < i.tmod n := by
    have := Int.tmod_lt_of_pos (-i) (b := n) (by omega)
    rw [Int.neg_tmod] at this
    omega
  by_cases h0 : i.tmod n < 0
  · have e1 : IntKind.i64.wrap (i.tmod n) = i.tmod n := IntWalk.i64_in _ (by omega)
    go_enter Try.func4, Try.ntmps4
    go_wp2
    go_ret
    exact ⟨_, rfl, by omega, by omega, rfl⟩
  · have e1 : IntKind.i64.wrap (i.tmod n) = i.tmod n := IntWalk.i64_in _ (by omega)
    go_enter Try.func4, Try.ntmps4
    go_wp2
    go_ret
    exact ⟨_, rfl, by omega, by omega, rfl⟩

/-- n to a page of per -/
def pgs (n per : Nat) : Nat := n / per + if n % per = 0 then 0 else 1
theorem pages_any (n per : Nat) (w : World) (hn : n ≤ 100000) (hp : 1 ≤ per ∧ per ≤ 100000) : Calls Try.prog 32 #[.int .i64 n, .int .i64 per] w fun e w' => e = .returned (.int .i64 (pgs n per)) ∧ w = w' := by
  have n0 : ¬ (per : Int) = 0 := by omega
  have hd : n / per ≤ n := Nat.div_le_self _ _
  by_cases h : n % per = 0
  · have h' : (n : Int) % per = 0 := by omega
    have e : (pgs n per : Int) = (n : Int) / per := by unfold pgs; rw [if_pos h]; simp
    rw [e]
    go_enter Try.func32, Try.ntmps32
    go_wp2
    go_ret
    exact ⟨rfl, rfl⟩
  · have h' : ¬ (n : Int) % per = 0 := by omega
    have e : (pgs n per : Int) = (n : Int) / per + 1 := by unfold pgs; rw [if_neg h]; simp
    rw [e]
    go_enter Try.func32, Try.ntmps32
    go_wp2
    go_ret
    exact ⟨rfl, rfl⟩
theorem take_any (n per : Nat) (w : World) (hn : n ≤ 100000) (hp : 1 ≤ per ∧ per ≤ 100000) : Calls Try.prog 36 #[.int .i64 n, .int .i64 per] w fun e w' => e = .returned (.int .i64 (pgs n per)) ∧ w = w' := by
  have n0 : ¬ (per : Int) = 0 := by omega
  have hd : n / per ≤ n := Nat.div_le_self _ _
  by_cases h : n % per = 0
  · have h' : ¬ 0 < (n : Int) % per := by omega
    have e : (pgs n per : Int) = (n : Int) / per := by unfold pgs; rw [if_pos h]; simp
    rw [e]
    go_enter Try.func36, Try.ntmps36
    go_wp2
    go_ret
    exact ⟨rfl, rfl⟩
  · have h' : 0 < (n : Int) % per := by omega
    have e : (pgs n per : Int) = (n : Int) / per + 1 := by unfold pgs; rw [if_neg h]; simp
    rw [e]
    go_enter Try.func36, Try.ntmps36
    go_wp2
    go_ret
    exact ⟨rfl, rfl⟩

/-- the number of bits, up to 8 -/
def len8 (x : Nat) : Nat := if x = 0 then 0 else Nat.log2 x + 1
/-- the least power of two that is not below n -/
def padN (n : Nat) : Nat := if n = 0 then 0 else 2 ^ len8 (n - 1)
theorem padN_le : ∀ n : Nat, n ≤ 256 → padN n ≤ 256 := by
  have h : ∀ n : Fin 257, padN n.val ≤ 256 := by decide +kernel
  exact fun n hn => h ⟨n, by omega⟩
theorem padN_eq : ∀ n j : Nat, n ≤ 256 → j ≤ 9 → 1 ≤ n → n ≤ 2 ^ j → (j = 0 ∨ 2 ^ (j - 1) < n) → 2 ^ j = padN n := by
  have h : ∀ n : Fin 257, ∀ j : Fin 10, 1 ≤ n.val → n.val ≤ 2 ^ j.val → (j.val = 0 ∨ 2 ^ (j.val - 1) < n.val) → 2 ^ j.val = padN n.val := by decide +kernel
  exact fun n j hn hj => h ⟨n, by omega⟩ ⟨j, by omega⟩
theorem rpad_any (n : Nat) (w : World) (hn : n ≤ 256) : Calls Try.prog 25 #[.int .i64 n] w fun e w' => e = .returned (.int .i64 (padN n)) ∧ w = w' := by
  by_cases h0 : n = 0
  · subst h0
    go_enter Try.func25, Try.ntmps25
    go_wp2
    go_ret
    exact ⟨rfl, rfl⟩
  · go_enter Try.func25, Try.ntmps25
    go_wp2
    go_loopw [3] (fun i wr => ∃ j s : Nat, j ≤ 9 ∧ s = 2 ^ j ∧ i = .int .i64 s ∧ (j = 0 ∨ 2 ^ (j - 1) < n) ∧ wr = w) (fun i _ => 600 - (intOf i).toNat)
    case atStart => exact ⟨0, 1, by omega, rfl, rfl, .inl rfl, rfl⟩
    case round =>
      obtain ⟨j, s, hj, hs, rfl, hb, rfl⟩ := hrel
      have hs1 : 1 ≤ s := by rw [hs]; exact Nat.one_le_two_pow
      by_cases hlt : s < n
      · have hj8 : j ≤ 8 := by
          rcases Nat.lt_or_ge 8 j with h | h
          · have : j = 9 := by omega
            subst this
            omega
          · exact h
        have HS := Lib.hid hs
        have HB := Lib.hid hb
        clear hs hb
        go_wp2
        exact ⟨⟨j + 1, 2 * s, by omega, by rw [HS.out, Nat.pow_succ, Nat.mul_comm], by go_num, .inr (by rw [Nat.add_sub_cancel, ← HS.out]; exact hlt), by first | rfl | trivial⟩, by simp [intOf]; omega⟩
      · have e := padN_eq n j hn hj (by omega) (by omega) hb
        rw [← hs] at e
        have HE := Lib.hid e
        clear hs hb e
        go_wp2
        go_ret
        exact ⟨by rw [HE.out]; rfl, rfl⟩

theorem cwithin_any (x l m : Int) (w : World) : Calls Try.prog 30 #[.int .i64 x, .int .i64 l, .int .i64 m] w fun e w' => e = .returned (.bool (decide (l ≤ x ∧ x ≤ m))) ∧ w = w' := by
  by_cases h1 : l ≤ x
  · by_cases h2 : x ≤ m
    · rw [decide_eq_true (p := l ≤ x ∧ x ≤ m) ⟨h1, h2⟩]
      go_enter Try.func30, Try.ntmps30
      go_wp2
      go_ret
      simp
    · rw [decide_eq_false (p := l ≤ x ∧ x ≤ m) (fun h => h2 h.2)]
      go_enter Try.func30, Try.ntmps30
      go_wp2
      go_ret
      exact ⟨rfl, rfl⟩
  · rw [decide_eq_false (p := l ≤ x ∧ x ≤ m) (fun h => h1 h.1)]
    go_enter Try.func30, Try.ntmps30
    go_wp2
    go_ret
    exact ⟨rfl, rfl⟩

/-- a config, as its six numbers -/
structure Cfg where
  batch : Int
  message : Int
  buckets : Int
  text : Int
  window : Int
  workers : Int
def Cfg.val (c : Cfg) : Value := .agg #[.int .i64 c.batch, .int .i64 c.message, .int .i64 c.buckets, .int .i64 c.text, .int .i64 c.window, .int .i64 c.workers]
def Cfg.good (c : Cfg) : Prop := (1 ≤ c.batch ∧ c.batch ≤ 256) ∧ (32 ≤ c.message ∧ c.message ≤ 512) ∧ (2 ≤ c.buckets ∧ c.buckets ≤ 64) ∧ (26 + max c.message 88 ≤ c.text ∧ c.text ≤ 4096) ∧ (2 ≤ c.window ∧ c.window ≤ 16) ∧ (1 ≤ c.workers ∧ c.workers ≤ 16)
instance (c : Cfg) : Decidable c.good := by unfold Cfg.good; infer_instance
def Cfg.fits (c : Cfg) : Prop := i64 c.batch ∧ i64 c.message ∧ i64 c.buckets ∧ i64 c.text ∧ i64 c.window ∧ i64 c.workers
def Cfg.err (c : Cfg) : Int := if c.good then 0 else 200

set_option maxHeartbeats 1000000 in
theorem check_any (c : Cfg) (w : World) (hf : c.fits) : Calls Try.prog 14 #[c.val] w fun e w' => e = .returned (.int .i64 c.err) ∧ Frm noB w w' := by
  obtain ⟨x1, x2, x3, x4, x5, x6⟩ := c
  obtain ⟨f1, f2, f3, f4, f5, f6⟩ := hf
  unfold i64 at f1 f2 f3 f4 f5 f6
  simp only at f1 f2 f3 f4 f5 f6
  have hfa : Frm noB w (w.alloc (.cells #[.int .i64 x1, .int .i64 x2, .int .i64 x3, .int .i64 x4, .int .i64 x5, .int .i64 x6] 23)) := (Frm.refl _ _).alloc _
  have key : ∀ b1 b2 b3 b4 b5 b6 : Bool, decide (1 ≤ x1 ∧ x1 ≤ 256) = b1 → decide (32 ≤ x2 ∧ x2 ≤ 512) = b2 → decide (2 ≤ x3 ∧ x3 ≤ 64) = b3 → decide (26 + max x2 88 ≤ x4 ∧ x4 ≤ 4096) = b4 → decide (2 ≤ x5 ∧ x5 ≤ 16) = b5 → decide (1 ≤ x6 ∧ x6 ≤ 16) = b6 →
      Calls Try.prog 14 #[.agg #[.int .i64 x1, .int .i64 x2, .int .i64 x3, .int .i64 x4, .int .i64 x5, .int .i64 x6]] w fun e w' => e = .returned (.int .i64 (if (b1 && b2 && b3 && b4 && b5 && b6) = true then 0 else 200)) ∧ Frm noB w w' := by
    intro b1 b2 b3 b4 b5 b6 h1 h2 h3 h4 h5 h6
    cases b1
    · go_enter Try.func14, Try.ntmps14
      go_wp2_with (go_at_call 30; refine (cwithin_any _ _ _ _).mono ?_; rintro _ _ ⟨rfl, rfl⟩)
      go_ret
      exact ⟨rfl, hfa⟩
    · cases b2
      · go_enter Try.func14, Try.ntmps14
        go_wp2_with (go_at_call 30; refine (cwithin_any _ _ _ _).mono ?_; rintro _ _ ⟨rfl, rfl⟩)
        go_ret
        exact ⟨rfl, hfa⟩
      · cases b3
        · go_enter Try.func14, Try.ntmps14
          go_wp2_with (go_at_call 30; refine (cwithin_any _ _ _ _).mono ?_; rintro _ _ ⟨rfl, rfl⟩)
          go_ret
          exact ⟨rfl, hfa⟩
        · rcases Int.lt_or_le x2 88 with hx | hx
          · rw [show 26 + max x2 88 = 114 by omega] at h4
            have hm : wrap64 114 = 114 := by unfold wrap64; omega
            cases b4
            · go_enter Try.func14, Try.ntmps14
              go_wp2_with (go_at_call 30; refine (cwithin_any _ _ _ _).mono ?_; rintro _ _ ⟨rfl, rfl⟩)
              go_ret
              exact ⟨rfl, hfa⟩
            · cases b5
              · go_enter Try.func14, Try.ntmps14
                go_wp2_with (go_at_call 30; refine (cwithin_any _ _ _ _).mono ?_; rintro _ _ ⟨rfl, rfl⟩)
                go_ret
                exact ⟨rfl, hfa⟩
              · cases b6
                · go_enter Try.func14, Try.ntmps14
                  go_wp2_with (go_at_call 30; refine (cwithin_any _ _ _ _).mono ?_; rintro _ _ ⟨rfl, rfl⟩)
                  go_ret
                  exact ⟨rfl, hfa⟩
                · go_enter Try.func14, Try.ntmps14
                  go_wp2_with (go_at_call 30; refine (cwithin_any _ _ _ _).mono ?_; rintro _ _ ⟨rfl, rfl⟩)
                  go_ret
                  exact ⟨rfl, hfa⟩
          · have h2' := of_decide_eq_true h2
            rw [show 26 + max x2 88 = 26 + x2 by omega] at h4
            have hm : wrap64 (26 + x2) = 26 + x2 := by unfold wrap64; omega
            have hx' : ¬ x2 < 88 := by omega
            clear h2'
            cases b4
            · go_enter Try.func14, Try.ntmps14
              go_wp2_with (go_at_call 30; refine (cwithin_any _ _ _ _).mono ?_; rintro _ _ ⟨rfl, rfl⟩)
              go_ret
              exact ⟨rfl, hfa⟩
            · cases b5
              · go_enter Try.func14, Try.ntmps14
                go_wp2_with (go_at_call 30; refine (cwithin_any _ _ _ _).mono ?_; rintro _ _ ⟨rfl, rfl⟩)
                go_ret
                exact ⟨rfl, hfa⟩
              · cases b6
                · go_enter Try.func14, Try.ntmps14
                  go_wp2_with (go_at_call 30; refine (cwithin_any _ _ _ _).mono ?_; rintro _ _ ⟨rfl, rfl⟩)
                  go_ret
                  exact ⟨rfl, hfa⟩
                · go_enter Try.func14, Try.ntmps14
                  go_wp2_with (go_at_call 30; refine (cwithin_any _ _ _ _).mono ?_; rintro _ _ ⟨rfl, rfl⟩)
                  go_ret
                  exact ⟨rfl, hfa⟩
  have h := key _ _ _ _ _ _ rfl rfl rfl rfl rfl rfl
  have e : (if (decide (1 ≤ x1 ∧ x1 ≤ 256) && decide (32 ≤ x2 ∧ x2 ≤ 512) && decide (2 ≤ x3 ∧ x3 ≤ 64) && decide (26 + max x2 88 ≤ x4 ∧ x4 ≤ 4096) && decide (2 ≤ x5 ∧ x5 ≤ 16) && decide (1 ≤ x6 ∧ x6 ≤ 16)) = true then (0 : Int) else 200) = Cfg.err ⟨x1, x2, x3, x4, x5, x6⟩ := by
    unfold Cfg.err Cfg.good
    congr 1
    simp only [Bool.and_eq_true, decide_eq_true_eq, and_assoc]
  rw [e] at h
  exact h
end Go.Proofs.Ytnpdhgfmoofknaa
