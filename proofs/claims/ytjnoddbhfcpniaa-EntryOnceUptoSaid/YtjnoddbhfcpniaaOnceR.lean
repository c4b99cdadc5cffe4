/-
  EntryOnce: the replies that the law makes, and what a client wants.
-/
import Derived.Test.YtjnoddbhfcpniaaOnce
import Derived.Test.YtjnoddbhfcpniaaOwn
namespace Go.Proofs.Ytjnoddbhfcpniaa
open Go.RowKit
set_option linter.unusedVariables false
set_option linter.unusedSimpArgs false

/-- a row that has just been laid -/
theorem own_laid (w : World) (e : TypeId) (xs : List Value) (h : xs.length ≤ 1000) : (w.alloc (.cells xs.toArray e)).ownsRow w.heap.size e 1 (.slice (some ⟨w.heap.size, 0, none⟩) xs.length xs.length) xs.length xs :=
  ⟨by omega, .inr ⟨_, _, _, rfl, Nat.le_refl _, heap_alloc_new w _, Nat.le_refl _, by unfold maxLen; omega, by simp, by simp⟩⟩

/-- one row more -/
theorem OwnedRows.push {w w1 w2 : World} {base : Nat} {v v2 u : Value} {vs : List Value} {xss : List (List UInt8)} {l : List UInt8} (h : OwnedRows w base v vs xss) (hb : base ≤ w.heap.size) (f1 : Frm noB w w1) (hu : w1.ownsRow w.heap.size 5 1 u l.length (l.map bv))
    (h2 : w2.ownsRow base 35 1 v2 (vs.length + 1) (vs ++ [u])) (f2 : Frm (oB v) w1 w2) : OwnedRows w2 base v2 (vs ++ [u]) (xss ++ [l]) := by
  have hl := h.len
  have hl1 := own_lt hu
  have hrow := own_frm' h.row f1
  have last : ∀ j (hj : j < (vs ++ [u]).length), ¬ j < vs.length → (vs ++ [u])[j] = u := fun j hj e => by
    have : j = vs.length := by simp at hj; omega
    subst this; simp
  have old : ∀ j (e : j < vs.length), ∀ q, oB vs[j] q → q < w.heap.size := fun j e q hq => (own_lt (h.each j e (by omega)) q hq).2
  refine ⟨by simpa using h2, by simp [hl], fun i hi hi' => ?_, fun i j hi hj q hij hq => ?_⟩
  · by_cases e : i < vs.length
    · have e' : i < xss.length := by omega
      simp only [List.getElem_append_left e, List.getElem_append_left e']
      have hh := own_frm' (h.each i e e') f1
      exact own_frm hh f2 fun q hq => own_own_ne hh hrow (by decide) hq
    · have e1 : i = vs.length := by simp at hi; omega
      have e4 : (xss ++ [l])[i] = l := by
        rw [List.getElem_append_right (by omega)]; simp
      rw [last i hi e, e4]
      exact own_base (own_frm hu f2 fun q hq h' => by have := (hl1 q hq).1; have := (own_lt h.row q h').2; omega) fun q hq => by have := (hl1 q hq).1; omega
  · by_cases e : i < vs.length
    · simp only [List.getElem_append_left e] at hq
      by_cases e' : j < vs.length
      · simp only [List.getElem_append_left e']
        exact h.apart i j e e' q hij hq
      · rw [last j hj e']
        intro h'
        have := (hl1 q h').1
        have := old i e q hq
        omega
    · rw [last i hi e] at hq
      have e' : j < vs.length := by simp at hi hj; omega
      simp only [List.getElem_append_left e']
      intro h'
      have := (hl1 q hq).1
      have := old j e' q h'
      omega

/-- append of one element, whose block's number is spelt otherwise -/
theorem app1g {P : Program} {ops : Array Oper} {rest : List Oper} {o : Oper} {a : Act} {Q : Exit → Act → World → Prop} {t e bytes : Nat} {z : Value} {w : World} (E : EInfo P t e 1 bytes z) (hgd : o.guard = none) (base : Nat) {v : Value} {n : Nat} {xs : List Value} {y : Value} (hown : w.ownsRow base e 1 v n xs) (s x : Operand) (ho : o.op = .call { callee := .builtin .append, args := #[s, x], argTypes := #[t, t] }) (hs : a.eval s = v)
    {g : Nat} (hg : g = w.heap.size) (hx : a.eval x = .slice (some ⟨g, 0, none⟩) 1 1) (hy : y.oneCell' = true)
    (hn : n + 1 ≤ 9007199254740992) (hbytes : (n + 1) * bytes ≤ 140737488355328) (hbase : base ≤ w.heap.size)
    (h : ∀ A' c' w', w'.ownsRow base e 1 (.slice A' (n + 1) c') (n + 1) (xs ++ [y]) → n + 1 ≤ c' → Frm (oB v) w w' → (∀ k, oB (.slice A' (n + 1) c') k → oB v k ∨ w.heap.size ≤ k) → wpList P ops Q rest (a.put o.dst (.slice A' (n + 1) c')) w') : wpList P ops Q (o :: rest) a (w.alloc (.cells #[y] e)) :=
  app1 E hgd base hown s x ho hs (by rw [hx, hg]) hy hn hbytes hbase h

/-- the reply of place i, to client c -/
def rep1 (i : Nat) (c : Int) : List UInt8 := [UInt8.ofNat i, UInt8.ofNat c.toNat, 3]
theorem rep1_bv {i : Nat} {c : Int} (hi : i < 256) (hc : 0 ≤ c ∧ c < 64) : (rep1 i c).map bv = [.int .u8 i, .int .u8 c, .int .u8 3] := by
  simp only [rep1, bv, List.map_cons, List.map_nil, UInt8.toNat_ofNat']
  have e1 : i % 2 ^ 8 = i := by omega
  have e2 : c.toNat % 2 ^ 8 = c.toNat := by omega
  rw [e1, e2, Int.toNat_of_nonneg hc.1]
  rfl
/-- all replies -/
def repsOf (who : List Int) : List (List UInt8) := who.mapIdx rep1
theorem repsOf_length (who : List Int) : (repsOf who).length = who.length := by simp [repsOf]
theorem repsOf_at (who : List Int) {i : Nat} (hi : i < who.length) : (repsOf who)[i]'(by rw [repsOf_length]; exact hi) = rep1 i who[i] := by simp [repsOf]
theorem repsOf_take (who : List Int) {i : Nat} (hi : i < who.length) : (repsOf who).take (i + 1) = (repsOf who).take i ++ [rep1 i who[i]] := by
  rw [List.take_succ_eq_append_getElem (by rw [repsOf_length]; exact hi), repsOf_at who hi]
theorem repsOf_len (who : List Int) : ∀ l ∈ repsOf who, l.length = 3 := fun l hl => by
  obtain ⟨i, hi, rfl⟩ := List.getElem_of_mem hl
  rw [repsOf_length] at hi
  rw [repsOf_at who hi]; rfl
/-- what client c wants, when k have been looked at -/
def wantOf (who : List Int) (k : Nat) (c : Int) : List UInt8 := (repl who (repsOf who) k c).getD []
theorem wantOf_hit (who : List Int) {k : Nat} {c : Int} (hk : k < who.length) (h : who[k] = c) : wantOf who (k + 1) c = rep1 k c := by
  have hk' : k < (repsOf who).length := by rw [repsOf_length]; exact hk
  simp only [wantOf, repl, List.getElem?_eq_getElem hk, List.getElem?_eq_getElem hk', Option.getD_some, h, if_true]
  rw [repsOf_at who hk, h]
theorem wantOf_miss (who : List Int) {k : Nat} {c : Int} (hk : k < who.length) (h : who[k] ≠ c) : wantOf who (k + 1) c = wantOf who k c := by
  simp only [wantOf, repl, List.getElem?_eq_getElem hk, Option.getD_some, if_neg h]
theorem wantOf_some (who : List Int) (c : Int) : ∀ k, k ≤ who.length → (repl who (repsOf who) k c).isSome = decide (0 < (wantOf who k c).length) ∧ (wantOf who k c).length ≤ 3
  | 0, _ => ⟨by simp [wantOf, repl], by simp [wantOf, repl]⟩
  | k + 1, hk => by
    have hk' : k < who.length := by omega
    by_cases h : who[k] = c
    · rw [wantOf_hit who hk' h]
      simp only [repl, List.getElem?_eq_getElem hk', Option.getD_some, h, if_true]
      exact ⟨rfl, by simp [rep1]⟩
    · rw [wantOf_miss who hk' h]
      have := wantOf_some who c k (by omega)
      simp only [repl, List.getElem?_eq_getElem hk', Option.getD_some, if_neg h]
      exact this
end Go.Proofs.Ytjnoddbhfcpniaa
