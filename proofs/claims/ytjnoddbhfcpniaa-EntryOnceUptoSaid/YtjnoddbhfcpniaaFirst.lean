/-
  at, first: a number in a range; the first right request of a client.
-/
import Derived.Test.YtjnoddbhfcpniaaAwake
namespace Go.Proofs.Ytjnoddbhfcpniaa
open Go.RowKit
set_option linter.unusedVariables false
set_option linter.unusedSimpArgs false

theorem at_any (k n : Int) (w : World) (hk : -9223372036854775808 ≤ k ∧ k ≤ 9223372036854775807) (hn : 0 < n ∧ n ≤ 1000) : Calls Try.prog 9 #[.int .i64 k, .int .i64 n] w fun e w' => (∃ r, e = .returned (.int .i64 r) ∧ 0 ≤ r ∧ r < n) ∧ w' = w := by
  have h1 : -n < k.tmod n := by
    have := Int.lt_tmod_of_pos k hn.1; omega
  have h2 : k.tmod n < n := Int.tmod_lt_of_pos k hn.1
  by_cases h : k.tmod n < 0
  · go_enter Try.func9, Try.ntmps9
    go_wp2
    go_ret
    exact ⟨⟨_, rfl, by omega, by omega⟩, rfl⟩
  · go_enter Try.func9, Try.ntmps9
    go_wp2
    go_ret
    exact ⟨⟨_, rfl, by omega, by omega⟩, rfl⟩

/-- who came with what -/
abbrev Coms := List (Int × List UInt8)
/-- a slice of comings reads so; N: of each block of it -/
def RdCom (w : World) (A : Option Addr) (l : Coms) (N : Nat → Prop) : Prop :=
  ∀ i (h : i < l.length), ∃ b off A' c, A = some ⟨b, off, none⟩ ∧ w.cell? ⟨b, off + i * 2, none⟩ = some (.int .i64 l[i].1) ∧ w.cell? ⟨b, off + i * 2 + 1, none⟩ = some (.slice A' l[i].2.length c) ∧ Rd w A' (l[i].2.map bv) ∧ N b ∧ (l[i].2 ≠ [] → ∀ k, aB A' k → N k)
theorem RdCom.frm {w w' : World} {A : Option Addr} {l : Coms} {N S : Nat → Prop} (h : RdCom w A l N) (hf : Frm S w w') (hS : ∀ k, N k → ¬ S k) : RdCom w' A l N := by
  intro i hi
  obtain ⟨b, off, A', c, e, h1, h2, h3, h4, h5⟩ := h i hi
  exact ⟨b, off, A', c, e, hf.cell_some h1 (hS _ h4), hf.cell_some h2 (hS _ h4), h3.frmN hf fun hne k hk => hS k (h5 (by intro e; apply hne; rw [e]; rfl) k hk), h4, h5⟩
theorem RdCom.frm' {w w' : World} {A : Option Addr} {l : Coms} {N : Nat → Prop} (h : RdCom w A l N) (hf : Frm noB w w') : RdCom w' A l N := h.frm hf fun _ _ h => h
/-- is it the first right request of its client? -/
def fst1 (l : Coms) (i : Nat) (c : Int) (n : Nat) : Bool := decide (0 ≤ c) && decide (c < 64) && decide (n = 2) && (l.take i).all fun x => !(decide (x.1 = c) && decide (x.2.length = 2))

set_option maxHeartbeats 1000000 in
theorem first_q (A : Option Addr) (l : Coms) (c : Nat) (i : Nat) (w : World) {N : Nat → Prop} (hl : RdCom w A l N) (hi : i < l.length) (h1 : Len l.length) (h2 : ∀ x ∈ l, Len x.2.length) :
    Calls Try.prog 17 #[.slice A l.length c, .int .i64 i, .int .i64 2] w fun e w' => e = .returned (.bool (fst1 l i l[i].1 l[i].2.length)) ∧ ∃ n, w' = w.drewN n := by
  have h1 := h1.le
  obtain ⟨b, off, Ai, ci, rfl, hc, hs, _, _, _⟩ := hl i hi
  have HL := Lib.hid hl
  have hmem : l[i].2.length ≤ 140737488351232 := h2 _ (List.getElem_mem hi)
  have H2 := Lib.hid h2
  clear hl h2
  have no : ¬ (0 ≤ l[i].1 ∧ l[i].1 < 64 ∧ l[i].2.length = 2) → fst1 l i l[i].1 l[i].2.length = false := fun h => by
    unfold fst1
    rw [Bool.and_eq_false_iff]
    left
    simp only [Bool.and_eq_false_iff, decide_eq_false_iff_not]
    omega
  by_cases k1 : l[i].1 < 0
  · rw [no (by omega)]
    clear no
    go_enter Try.func17, Try.ntmps17
    go_wp2
    go_ret
    exact ⟨rfl, 0, rfl⟩
  by_cases k2 : 64 ≤ l[i].1
  · rw [no (by omega)]
    clear no
    go_enter Try.func17, Try.ntmps17
    go_wp2
    go_ret
    exact ⟨rfl, 0, rfl⟩
  by_cases k3 : l[i].2.length = 2
  · have yes : ∀ v, (∀ j (h : j < i), ¬ (l[j].1 = l[i].1 ∧ l[j].2.length = 2)) = v → v = True → fst1 l i l[i].1 l[i].2.length = true := by
      rintro v rfl h
      have h := of_eq_true h
      unfold fst1
      rw [k3]
      simp only [Bool.and_eq_true, decide_eq_true_eq, List.all_eq_true]
      refine ⟨⟨⟨by omega, by omega⟩, trivial⟩, fun x hx => ?_⟩
      obtain ⟨j, hj, rfl⟩ := List.getElem_of_mem hx
      have hj' : j < i := by simp at hj; omega
      have := h j hj'
      simp only [List.getElem_take]
      by_cases q1 : l[j].1 = l[i].1
      · have q2 : ¬ l[j].2.length = 2 := fun q2 => this ⟨q1, q2⟩
        simp [q2]
      · simp [q1]
    have nope : ∀ j (h : j < i), l[j].1 = l[i].1 → l[j].2.length = 2 → fst1 l i l[i].1 l[i].2.length = false := fun j hj e1 e2 => by
      unfold fst1
      rw [Bool.and_eq_false_iff]
      right
      rw [List.all_eq_false]
      exact ⟨l[j], List.mem_take_iff_getElem.2 ⟨j, by omega, rfl⟩, by simp [e1, e2]⟩
    have YES := Lib.hid yes
    have NOPE := Lib.hid nope
    clear yes nope no
    have hs2 : w.cell? ⟨b, off + i * 2 + 1, none⟩ = some (.slice Ai 2 ci) := by rw [hs, k3]
    have K3 := Lib.hid k3
    clear hs k3 hmem
    go_enter Try.func17, Try.ntmps17
    go_wp2
    go_loopw [7] (fun q wr => ∃ (k m : Nat), k ≤ i ∧ q = .int .i64 k ∧ wr = w.drewN m ∧ ∀ j (h : j < k) (h' : j < l.length), ¬ (l[j].1 = l[i].1 ∧ l[j].2.length = 2)) (fun q _ => i - (intOf q).toNat)
    case atStart => exact ⟨0, 0, by omega, rfl, rfl, fun j h => absurd h (by omega)⟩
    case round =>
      obtain ⟨k, m, hk, rfl, hw, hp⟩ := hrel
      have HP := Lib.hid hp
      have HW := Lib.hid hw
      clear hp
      by_cases hlt : k < i
      · have hkl : k < l.length := by omega
        obtain ⟨b', off', Ak, ck, e', hck, hsk, _, _, _⟩ := HL.out k hkl
        cases e'
        have hmk : l[k].2.length ≤ 140737488351232 := H2.out _ (List.getElem_mem hkl)
        have hc' : wr.cell? ⟨b, off + i * 2, none⟩ = some (.int .i64 l[i].1) := by rw [hw]; exact hc
        have hck' : wr.cell? ⟨b, off + k * 2, none⟩ = some (.int .i64 l[k].1) := by rw [hw]; exact hck
        have hsk' : wr.cell? ⟨b, off + k * 2 + 1, none⟩ = some (.slice Ak l[k].2.length ck) := by rw [hw]; exact hsk
        clear hw hc hs2 hck hsk
        by_cases he : l[k].1 = l[i].1
        · have hb : (l[k].1 == l[i].1) = true := by simpa using he
          by_cases h3 : l[k].2.length = 2
          · have hb2 : ((l[k].2.length : Int) == 2) = true := by simp; omega
            have HE := Lib.hid he
            have H3 := Lib.hid h3
            clear he h3
            go_wp2_with fail
            go_quiet (fail)
            go_wp2
            go_ret
            exact ⟨ret_bool (NOPE.out k hlt HE.out H3.out).symm, m + nq, by rw [HW.out]; simp⟩
          · have hb2 : ((l[k].2.length : Int) == 2) = false := by simp; omega
            have HE := Lib.hid he
            have H3 := Lib.hid h3
            clear he h3
            go_wp2_with fail
            go_quiet (fail)
            go_wp2
            exact ⟨⟨k + 1, m + nq, by omega, by go_num, by rw [HW.out]; simp, fun j hj hj' => by
              by_cases e : j = k
              · subst e; exact fun h => H3.out h.2
              · exact HP.out j (by omega) hj'⟩, by simp [intOf]; omega⟩
        · have hb : (l[k].1 == l[i].1) = false := by simpa using he
          have HE := Lib.hid he
          clear he
          go_wp2_with fail
          go_quiet (fail)
          go_wp2
          exact ⟨⟨k + 1, m + nq, by omega, by go_num, by rw [HW.out]; simp, fun j hj hj' => by
            by_cases e : j = k
            · subst e; exact fun h => HE.out h.1
            · exact HP.out j (by omega) hj'⟩, by simp [intOf]; omega⟩
      · have e : k = i := by omega
        subst e
        have hy := YES.out _ rfl (eq_true fun j h => HP.out j h (by omega))
        clear hw
        go_wp2
        go_ret
        exact ⟨ret_bool hy.symm, m, HW.out⟩
  · rw [no (by omega)]
    have k3' : ((l[i].2.length : Int) != 2) = true := by simp; omega
    clear no
    go_enter Try.func17, Try.ntmps17
    go_wp2
    go_ret
    exact ⟨rfl, 0, rfl⟩
end Go.Proofs.Ytjnoddbhfcpniaa
