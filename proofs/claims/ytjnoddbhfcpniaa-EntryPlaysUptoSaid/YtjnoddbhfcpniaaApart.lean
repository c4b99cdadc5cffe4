/-
  Apart: lists of bytes in rows of their own, written over and grown.
-/
import Derived.Test.YtjnoddbhfcpniaaSpare
import Derived.Deep.RegionHeld3
import Derived.StillTailTactics
namespace Go.Proofs.Ytjnoddbhfcpniaa
open Go.RowKit
set_option linter.unusedVariables false
set_option linter.unusedSimpArgs false

/-- what an append leaves of the elder slice -/
theorem append_keeps {P : Program} {w w' : World} {base t ty e : Nat} {i : TypeInfo} {z : Value} {size bytes : Nat} (ht : P.underlying t = some (.slice e)) (hi : P.info? e = some i) (hz : i.zero = some z)
    (hsize : i.size = size) (hby : i.bytes = bytes) (hsz : 0 < size) {v v' : Value} {n : Nat} {xs : List Value} (hown : w.ownsRow base e size v n xs)
    (ad : Addr) (m c : Nat) (news : List Value) (hl : news.length = m * size) (hnews : ∀ j u, news[j]? = some u → w.cell? (ad.add j) = some u) (h1 : ∀ u ∈ news, u.oneCell' = true)
    (h63 : n + m ≤ maxLen) (hbytes : (n + m) * bytes ≤ 140737488355328) (hr : (Builtin.append_ #[t, t] ty #[v, .slice (some ad) m c]).run P w = .ok v' w') : ∀ g cap, v = .slice (some ⟨g, 0, none⟩) n cap → ∀ j u, xs[j]? = some u → w'.cell? ⟨g, j, none⟩ = some u := by
  subst hsize
  subst hby
  have hsmall : n + m ≤ 9223372036854775807 := by simp only [maxLen] at h63; omega
  intro g cap hv j u hu
  rcases hown.2 with ⟨rfl, _⟩ | ⟨g', cap', cur, hv', hb, hg, hnc, hcm, hcs, htake⟩
  · cases hv
  · subst hv
    simp only [Value.slice.injEq, Option.some.injEq, Addr.mk.injEq, and_true, true_and] at hv'
    obtain ⟨rfl, rfl⟩ := hv'
    have hj : j < xs.length := (List.getElem?_eq_some_iff.1 hu).1
    by_cases hroom : n + m ≤ cap
    · have hfit : n * i.size + news.length ≤ cur.size := by rw [hl, hcs, ← Nat.add_mul]; exact Nat.mul_le_mul_right _ hroom
      rw [run_append_room (P := P) w t ty e i ht hi g n cap cur hg ad m c news hl hnews h1 hroom hfit] at hr
      injection hr with _ hr
      subst hr
      rw [cell_of_row _ g j _ e (0, 0) (setRow_heap w g cur _ e _ hg), htake]
      simp [hj, hu]
      rw [List.getElem?_append_left hj, hu]
    · have holds : ∀ j u, xs[j]? = some u → w.cell? ((⟨g, 0, none⟩ : Addr).add j) = some u := hown.cells (g := g) rfl
      rw [run_append_grow (P := P) w t ty e i z ht hi hz ⟨g, 0, none⟩ n cap xs hown.1 holds ad m c news hl hnews (by omega) (by omega) (growslice_fits (by omega) hbytes)] at hr
      injection hr with _ hr
      subst hr
      have hlt : g < w.heap.size := (Array.getElem?_eq_some_iff.1 hg).1
      rw [World.cell?_of_block (w := w) (heap_alloc_old w.drew _ hlt), cell_of_row w g j cur e (0, 0) hg, ← hu, ← htake, List.getElem?_take, if_pos (by rw [← hown.1]; exact hj)]
      simp

/-- append of one element, and what it leaves of the elder slice -/
theorem app1k {P : Program} {ops : Array Oper} {rest : List Oper} {o : Oper} {a : Act} {Q : Exit → Act → World → Prop} {t e bytes : Nat} {z : Value} {w : World} (E : EInfo P t e 1 bytes z) (hgd : o.guard = none) (base : Nat) {v : Value} {n : Nat} {xs : List Value} {y : Value} (hown : w.ownsRow base e 1 v n xs) (s x : Operand) (ho : o.op = .call { callee := .builtin .append, args := #[s, x], argTypes := #[t, t] }) (hs : a.eval s = v)
    (hx : a.eval x = .slice (some ⟨w.heap.size, 0, none⟩) 1 1) (hy : y.oneCell' = true)
    (hn : n + 1 ≤ 9007199254740992) (hbytes : (n + 1) * bytes ≤ 140737488355328) (hbase : base ≤ w.heap.size)
    (h : ∀ A' c' w', w'.ownsRow base e 1 (.slice A' (n + 1) c') (n + 1) (xs ++ [y]) → n + 1 ≤ c' → Frm (oB v) w w' → (∀ k, oB (.slice A' (n + 1) c') k → oB v k ∨ w.heap.size ≤ k) → (∀ A c, v = .slice A n c → Rd w' A xs) → wpList P ops Q rest (a.put o.dst (.slice A' (n + 1) c')) w') : wpList P ops Q (o :: rest) a (w.alloc (.cells #[y] e)) := by
  obtain ⟨i, hi, hz, hsz, hby⟩ := E.hi
  refine wpList_plain hgd fun K hK => ?_
  have ha : Frm noB w (w.alloc (.cells #[y] e)) := (Frm.refl _ _).alloc _
  have hown2 := own_frm' hown ha
  have hcells : ∀ j u, [y][j]? = some u → (w.alloc (.cells #[y] e)).cell? ((⟨w.heap.size, 0, none⟩ : Addr).add j) = some u := by
    intro j u hu
    have : j = 0 := by
      rcases j with _ | j
      · rfl
      · simp at hu
    subst this
    simp at hu
    subst hu
    show (w.alloc (.cells #[y] e)).cell? ⟨w.heap.size, 0, none⟩ = _
    rw [cell_of_row _ _ 0 #[y] e (0, 0) (heap_alloc_new w _)]
    rfl
  obtain ⟨v', w', hr, h2, h3, _, h5⟩ := run_append_own_at (P := P) (w.alloc (.cells #[y] e)) base t o.type e i z 1 bytes E.ht hi hz hsz hby E.hz (by decide) v n xs hown2 ⟨w.heap.size, 0, none⟩ 1 1 [y] (by simp) hcells (by simpa using hy) (by unfold maxLen; omega) hbytes (Nat.le_trans hbase ha.size)
  have hk := append_keeps (P := P) E.ht hi hz hsz hby (by decide) hown2 ⟨w.heap.size, 0, none⟩ 1 1 [y] (by simp) hcells (by simpa using hy) (by unfold maxLen; omega) hbytes hr
  unfold Oper.wp execOp
  simp only [ho, resolve, invoke, builtin, Sem.run_bind, Sem.run_pure, Result.andThen_ok, List.map_toArray, List.map_cons, List.map_nil, hs, hx, hr]
  obtain ⟨A', c', rfl, hc'⟩ := own_slice h2
  have f2 : Frm (oB v) (w.alloc (.cells #[y] e)) w' := (Frm.refl _ _).grown h3 fun k hk => .inl hk
  refine hK _ _ (h A' c' w' h2 hc' (ha.any.trans' f2) (fun k hk => ?_) fun A c hv => ?_)
  · rcases h5 with h5 | h5
    · exact .inl (by unfold oB at hk ⊢; rw [← h5]; exact hk)
    · right; unfold oB at hk; rw [h5] at hk; injection hk with hk; have := ha.size; omega
  · rcases hown.2 with ⟨e1, e2⟩ | ⟨g, cap, cur, e1, _⟩
    · have : xs = [] := List.eq_nil_of_length_eq_zero (by rw [hown.1, e2])
      subst this
      exact Rd.nil _ _
    · rw [hv] at e1
      injection e1 with e1 e2 e3
      subst e1 e3
      intro j hj
      exact ⟨g, 0, rfl, by rw [Nat.zero_add]; exact hk g _ hv j _ (List.getElem?_eq_getElem hj)⟩

/-- the mark of a list at a place -/
def mkI (i k : Int) : Int := (i * 31 + k * 7 + 1) % 256
theorem mark_q (i k : Int) (w : World) (hi : 0 ≤ i ∧ i ≤ 1000) (hk : 0 ≤ k ∧ k ≤ 4000000) : Calls Try.prog 32 #[.int .i64 i, .int .i64 k] w fun e w' => e = .returned (.int .u8 (mkI i k)) ∧ w' = w := by
  go_enter Try.func32, Try.ntmps32
  go_wp2
  go_ret
  exact ⟨rfl, rfl⟩
theorem mark_n (i k : Int) (w : World) (hi : 0 ≤ i ∧ i ≤ 1000) (hk : 0 ≤ k ∧ k ≤ 4000000) : Calls Try.prog 32 #[.int .i64 i, .int .i64 k] w fun e w' => e = .returned (.int .u8 (mkI i k)) ∧ ∃ n, w' = w.drewN n :=
  (mark_q i k w hi hk).mono fun _ _ ⟨h, hw⟩ => ⟨h, 0, by rw [hw]; rfl⟩
end Go.Proofs.Ytjnoddbhfcpniaa
