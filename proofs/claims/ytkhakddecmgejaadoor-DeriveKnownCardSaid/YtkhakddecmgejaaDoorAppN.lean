/-
  append, the length and the list behind it named.
-/
import Derived.Test.YtkhakddecmgejaaDoorRef
namespace Go.Proofs.YtkhakddecmgejaaDoor
open Go.RowKit
set_option linter.unusedVariables false
set_option linter.unusedSimpArgs false

section
variable {P : Program} {ops : Array Oper} {rest : List Oper} {o : Oper} {a : Act} {Q : Exit → Act → World → Prop} {t e size bytes : Nat} {z : Value} {w : World}
theorem appN (E : EInfo P t e 1 bytes z) (hgd : o.guard = none) (base : Nat) {v : Value} {n : Nat} {xs : List Value} (hown : w.ownsRow base e 1 v n xs) (s x : Operand) (ho : o.op = .call { callee := .builtin .append, args := #[s, x], argTypes := #[t, t] }) (hs : a.eval s = v)
    {A : Option Addr} {m c : Nat} {news : List Value} (hx : a.eval x = .slice A m c) (hl : news.length = m) (hr : Rd w A news) (h1 : ∀ u ∈ news, u.oneCell' = true) (N : Nat) (hN : n + m = N) (ys : List Value) (hys : xs ++ news = ys)
    (hn : N ≤ 9007199254740992) (hbytes : N * bytes ≤ 140737488355328) (hbase : base ≤ w.heap.size)
    (h : ∀ A' c' w', w'.ownsRow base e 1 (.slice A' N c') N ys → N ≤ c' → Frm (oB v) w w' → (∀ k, oB (.slice A' N c') k → oB v k ∨ w.heap.size ≤ k) → wpList P ops Q rest (a.put o.dst (.slice A' N c')) w') : wpList P ops Q (o :: rest) a w := by
  subst hN; subst hys
  exact app E hgd base hown s x ho hs hx (by omega) hr h1 hn hbytes hbase h
theorem app1N (E : EInfo P t e 1 bytes z) (hgd : o.guard = none) (base : Nat) {v : Value} {n : Nat} {xs : List Value} {y : Value} (hown : w.ownsRow base e 1 v n xs) (s x : Operand) (ho : o.op = .call { callee := .builtin .append, args := #[s, x], argTypes := #[t, t] }) (hs : a.eval s = v)
    {g : Nat} (hg : g = w.heap.size) (hx : a.eval x = .slice (some ⟨g, 0, none⟩) 1 1) (hy : y.oneCell' = true) (N : Nat) (hN : n + 1 = N) (ys : List Value) (hys : xs ++ [y] = ys)
    (hn : N ≤ 9007199254740992) (hbytes : N * bytes ≤ 140737488355328) (hbase : base ≤ w.heap.size)
    (h : ∀ A' c' w', w'.ownsRow base e 1 (.slice A' N c') N ys → N ≤ c' → Frm (oB v) w w' → (∀ k, oB (.slice A' N c') k → oB v k ∨ w.heap.size ≤ k) → wpList P ops Q rest (a.put o.dst (.slice A' N c')) w') : wpList P ops Q (o :: rest) a (w.alloc (.cells #[y] e)) := by
  subst hN; subst hys; subst hg
  exact app1 E hgd base hown s x ho hs hx hy hn hbytes hbase h
end
end Go.Proofs.YtkhakddecmgejaaDoor
