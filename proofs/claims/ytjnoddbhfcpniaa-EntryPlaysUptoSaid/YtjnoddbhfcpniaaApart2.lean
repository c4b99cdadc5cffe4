/-
  Apart: the walk.
-/
import Derived.Test.YtjnoddbhfcpniaaApart
namespace Go.Proofs.Ytjnoddbhfcpniaa
open Go.RowKit
set_option linter.unusedVariables false
set_option linter.unusedSimpArgs false

/-- rows of bytes, each of its own; where P says so they bear their marks -/
structure Bag (w : World) (vs : List Value) (ns : List Nat) (P : Nat → Nat → Prop) : Prop where
  len : vs.length = ns.length
  each : ∀ i (h : i < vs.length) (h' : i < ns.length), ∃ xs, w.ownsRow 0 5 1 vs[i] ns[i] xs ∧ ∀ q, q < ns[i] → P i q → xs[q]? = some (.int .u8 (mkI i q))
  apart : ∀ i j (h : i < vs.length) (h' : j < vs.length) k, i ≠ j → oB vs[i] k → ¬ oB vs[j] k
def inV (vs : List Value) : Nat → Prop := fun k => ∃ i, ∃ h : i < vs.length, oB vs[i] k
section
variable {w w' : World} {vs : List Value} {ns : List Nat} {P P' : Nat → Nat → Prop}
theorem Bag.frm {S : Nat → Prop} (h : Bag w vs ns P) (hf : Frm S w w') (hS : ∀ k, inV vs k → ¬ S k) : Bag w' vs ns P :=
  ⟨h.len, fun i hi hi' => by
    obtain ⟨xs, h1, h2⟩ := h.each i hi hi'
    exact ⟨xs, own_frm h1 hf fun k hk => hS k ⟨i, hi, hk⟩, h2⟩, h.apart⟩
theorem Bag.drewN (h : Bag w vs ns P) (n : Nat) : Bag (w.drewN n) vs ns P := h.frm (Frm.of_drewN noB w n) fun _ _ h => h
theorem Bag.imp (h : Bag w vs ns P) (hP : ∀ i q, i < ns.length → q < ns[i]?.getD 0 → P' i q → P i q) : Bag w vs ns P' :=
  ⟨h.len, fun i hi hi' => by
    obtain ⟨xs, h1, h2⟩ := h.each i hi hi'
    exact ⟨xs, h1, fun q hq hp => h2 q hq (hP i q hi' (by simpa [hi'] using hq) hp)⟩, h.apart⟩
theorem Bag.lt (h : Bag w vs ns P) : ∀ k, inV vs k → k < w.heap.size := fun k ⟨i, hi, hk⟩ => by
  obtain ⟨xs, h1, _⟩ := h.each i hi (by have := h.len; omega)
  exact (own_lt h1 k hk).2
theorem Bag.at_ (h : Bag w vs ns P) {i : Nat} (hi : i < vs.length) (hi' : i < ns.length) : ∃ A c, vs[i] = .slice A ns[i] c := by
  obtain ⟨xs, h1, _⟩ := h.each i hi hi'
  obtain ⟨A, c, e, _⟩ := own_slice h1
  exact ⟨A, c, e⟩
theorem Bag.place (h : Bag w vs ns P) {i k : Nat} (hi : i < vs.length) (hi' : i < ns.length) (hk : k < ns[i]) : ∃ g c u, vs[i] = .slice (some ⟨g, 0, none⟩) ns[i] c ∧ w.cell? ⟨g, k, none⟩ = some u ∧ w.frozen? ⟨g, k, none⟩ = false ∧ (P i k → u = .int .u8 (mkI i k)) := by
  obtain ⟨xs, h1, h2⟩ := h.each i hi hi'
  have h3 := h1
  rcases h1.2 with ⟨_, h0⟩ | ⟨g, cap, cur, e, _⟩
  · omega
  · rw [e] at h1
    have hx : k < xs.length := by have := h1.1; omega
    refine ⟨g, cap, xs[k], e, ?_, h1.frozenAt k, fun hp => ?_⟩
    · rw [h1.cellAt k (by omega)]; exact List.getElem?_eq_getElem hx
    · have := h2 k hk hp
      rw [List.getElem?_eq_getElem hx] at this
      exact Option.some.inj this
theorem Bag.set_ (h : Bag w vs ns P) {i k g c : Nat} (hi : i < vs.length) (hi' : i < ns.length) (hk : k < ns[i]) (e : vs[i] = .slice (some ⟨g, 0, none⟩) ns[i] c) (hP : ∀ j q, P' j q → (j = i ∧ q = k) ∨ P j q) :
    Bag (w.setCell ⟨g, k, none⟩ (.int .u8 (mkI i k))) vs ns P' := by
  refine ⟨h.len, fun j hj hj' => ?_, h.apart⟩
  obtain ⟨xs, h1, h2⟩ := h.each j hj hj'
  by_cases ej : j = i
  · subst ej
    rw [e] at h1 ⊢
    refine ⟨_, (h1.stored k _).1, fun q hq hp => ?_⟩
    rw [List.getElem?_set]
    by_cases eq_ : k = q
    · subst eq_
      rw [if_pos rfl, if_pos (by have := h1.1; omega)]
    · rw [if_neg eq_]
      rcases hP j q hp with ⟨_, h⟩ | h
      · omega
      · exact h2 q hq h
  · refine ⟨xs, own_frm h1 ((Frm.refl (fun b => b = g) w).setCell (.inl rfl) _) fun b hb hg => ?_, fun q hq hp => ?_⟩
    · subst hg
      exact h.apart j i hj hi b ej hb (by rw [e]; rfl)
    · rcases hP j q hp with ⟨h, _⟩ | h
      · omega
      · exact h2 q hq h
theorem inV_at {i g n c : Nat} (hi : i < vs.length) (e : vs[i] = .slice (some ⟨g, 0, none⟩) n c) : inV vs g := ⟨i, hi, by rw [e]; rfl⟩
end


/-- the marks of list i at its first n places -/
def marks (i n : Nat) : List Value := (List.range n).map fun q => .int .u8 (mkI i (q : Nat))
theorem marks_len (i n : Nat) : (marks i n).length = n := by simp [marks]
theorem marks_take (i : Nat) {n m : Nat} (h : n ≤ m) : marks i n = (marks i m).take n := by
  apply List.ext_getElem?
  intro j
  rw [List.getElem?_take]
  by_cases hj : j < n
  · rw [if_pos hj]; simp [marks, hj, show j < m by omega]
  · rw [if_neg hj]; simp [marks, hj]
theorem marks_succ (i n : Nat) : marks i (n + 1) = marks i n ++ [.int .u8 (mkI i (n : Nat))] := by simp [marks, List.range_succ]
theorem Rd.take {w : World} {A : Option Addr} {xs : List Value} (h : Rd w A xs) (n : Nat) : Rd w A (xs.take n) := by
  intro i hi
  obtain ⟨b, off, e, hc⟩ := h i (by simp at hi; omega)
  exact ⟨b, off, e, by rw [hc]; simp⟩
theorem Rd.mark {w : World} {A : Option Addr} {i n : Nat} (h : Rd w A (marks i n)) {q : Nat} (hq : q < n) : ∃ b off, A = some ⟨b, off, none⟩ ∧ w.cell? ⟨b, off + q, none⟩ = some (.int .u8 (mkI i q)) := by
  obtain ⟨b, off, e, hc⟩ := h q (by rw [marks_len]; exact hq)
  exact ⟨b, off, e, by rw [hc]; simp [marks]⟩
theorem Bag.whole {w : World} {vs : List Value} {ns : List Nat} (h : Bag w vs ns fun _ _ => True) {j : Nat} (hj : j < vs.length) (hj' : j < ns.length) : w.ownsRow 0 5 1 vs[j] ns[j] (marks j ns[j]) := by
  obtain ⟨xs, h1, h2⟩ := h.each j hj hj'
  have e : xs = marks j ns[j] := by
    apply List.ext_getElem?
    intro q
    by_cases hq : q < ns[j]
    · rw [h2 q hq trivial]; simp [marks, hq]
    · rw [List.getElem?_eq_none (by have := h1.1; omega), List.getElem?_eq_none (by rw [marks_len]; omega)]
  rw [← e]
  exact h1

/-- i lists are grown; those from r on are as they were -/
structure Grw (w0 w : World) (vs : List Value) (ns : List Nat) (i r : Nat) (gv : Value) (gs : List Value) : Prop where
  row : w.ownsRow w0.heap.size 35 1 gv i gs
  each : ∀ j (h : j < gs.length) (h' : j < ns.length), w.ownsRow 0 5 1 gs[j] (ns[j] + 70) (marks j (ns[j] + 70))
  old : ∀ j (h : j < vs.length) (h' : j < ns.length), ∃ A c, vs[j] = .slice A ns[j] c ∧ Rd w A (marks j ns[j]) ∧ ∀ a, A = some a → a = ⟨a.block, 0, none⟩
  rest : ∀ j (h : j < vs.length) (h' : j < ns.length), r ≤ j → w.ownsRow 0 5 1 vs[j] ns[j] (marks j ns[j])
  blk : ∀ j (h : j < gs.length) (h' : j < vs.length) k, oB gs[j] k → oB vs[j] k ∨ w0.heap.size ≤ k
  ap : ∀ j j' (h : j < gs.length) (h' : j' < gs.length) k, j ≠ j' → oB gs[j] k → ¬ oB gs[j'] k
  frm : Frm (inV vs) w0 w
/-- list i is being grown: by k -/
structure Cur (w0 w : World) (vs : List Value) (ns : List Nat) (i : Nat) (gv : Value) (gs : List Value) (v : Value) (n : Nat) : Prop where
  g : Grw w0 w vs ns i (i + 1) gv gs
  own : w.ownsRow 0 5 1 v n (marks i n)
  vb : ∀ (h : i < vs.length) b, oB v b → oB vs[i] b ∨ w0.heap.size ≤ b
  va : ∀ j (h : j < gs.length) b, oB v b → ¬ oB gs[j] b
/-- the lists, as they came in -/
structure Stat (w0 : World) (vs : List Value) (ns : List Nat) : Prop where
  len : vs.length = ns.length
  lt : ∀ k, inV vs k → k < w0.heap.size
  ap : ∀ i j (h : i < vs.length) (h' : j < vs.length) k, i ≠ j → oB vs[i] k → ¬ oB vs[j] k
section
variable {w0 w w' : World} {vs : List Value} {ns : List Nat} {i n : Nat} {gv : Value} {gs : List Value} {v : Value}
theorem Grw.start (hB : Bag w vs ns fun _ _ => True) (hf : Frm (inV vs) w0 w) : Grw w0 w vs ns 0 0 (.slice none 0 0) [] := by
  refine ⟨World.ownsRow_nil _ _ _ _, fun j h => absurd h (by simp), fun j hj hj' => ?_, fun j hj hj' _ => hB.whole hj hj', fun j h => absurd h (by simp), fun j j' h => absurd h (by simp), hf⟩
  have h := hB.whole hj hj'
  rcases h.2 with ⟨e, h0⟩ | ⟨g, cap, cur, e, _⟩
  · refine ⟨none, 0, by rw [e, h0], ?_, fun a ha => by cases ha⟩
    rw [h0]
    exact Rd.nil _ _
  · rw [e] at h
    exact ⟨_, cap, e, Rd.of_own h, fun a ha => by cases ha; rfl⟩
theorem Grw.cur (S : Stat w0 vs ns) (h : Grw w0 w vs ns i i gv gs) (hi : i < vs.length) (hi' : i < ns.length) : Cur w0 w vs ns i gv gs vs[i] ns[i] := by
  have hl : gs.length = i := by have := h.row.1; omega
  refine ⟨⟨h.row, h.each, h.old, fun j hj hj' hr => h.rest j hj hj' (by omega), h.blk, h.ap, h.frm⟩, h.rest i hi hi' (Nat.le_refl _), fun _ b hb => .inl hb, fun j hj b hb hg => ?_⟩
  rcases h.blk j hj (by omega) b hg with h | h
  · exact S.ap i j hi (by omega) b (by omega) hb h
  · have := S.lt b ⟨i, hi, hb⟩; omega
theorem Cur.grow (S : Stat w0 vs ns) (h : Cur w0 w vs ns i gv gs v n) (hi : i < vs.length) (hi' : i < ns.length) (hn : ns[i] ≤ n) {A' : Option Addr} {c' : Nat} (ho : w'.ownsRow 0 5 1 (.slice A' (n + 1) c') (n + 1) (marks i n ++ [.int .u8 (mkI i (n : Nat))])) (hf : Frm (oB v) w w') (hb : ∀ k, oB (.slice A' (n + 1) c') k → oB v k ∨ w.heap.size ≤ k)
    (hk : ∀ A c, v = .slice A n c → Rd w' A (marks i n)) : Cur w0 w' vs ns i gv gs (.slice A' (n + 1) c') (n + 1) := by
  have hl : gs.length = i := by have := h.g.row.1; omega
  have hs := h.g.frm.size
  refine ⟨⟨own_frm h.g.row hf fun k hk => own_own_ne h.g.row h.own (by decide) hk, fun j hj hj' => own_frm (h.g.each j hj hj') hf fun k hk hv => h.va j hj k hv hk, fun j hj hj' => ?_, fun j hj hj' hr => own_frm (h.g.rest j hj hj' hr) hf fun k hk hv => ?_, h.g.blk, h.g.ap, h.g.frm.trans hf fun k hlt hv => ?_⟩, ?_, fun _ b hb' => ?_, fun j hj b hb' hg => ?_⟩
  · obtain ⟨A, c, e, hr, hz⟩ := h.g.old j hj hj'
    refine ⟨A, c, e, ?_, hz⟩
    by_cases ej : j = i
    · subst ej
      by_cases hv : ∀ k, aB A k → ¬ oB v k
      · exact hr.frm hf hv
      · have : ∃ k, aB A k ∧ oB v k := Classical.byContradiction fun hn => hv fun k h1 h2 => hn ⟨k, h1, h2⟩
        obtain ⟨k, ⟨a, ha, hak⟩, hov⟩ := this
        have hza := hz a ha
        rcases h.own.2 with ⟨e1, _⟩ | ⟨g, cap, cur, e1, _⟩
        · rw [e1] at hov; simp [oB, Value.ownBlock] at hov
        · have hgk : g = k := by rw [e1] at hov; simpa [oB, Value.ownBlock] using hov
          have h2 := hk _ _ e1
          rw [ha, hza, hak, ← hgk, marks_take j hn]
          exact h2.take _
    · refine hr.frm hf fun k hk hv => ?_
      have hkj : oB vs[j] k := by
        obtain ⟨a, ha, hak⟩ := hk
        rw [e, ha]
        exact congrArg some hak
      rcases h.vb hi k hv with h1 | h1
      · exact S.ap j i hj hi k ej hkj h1
      · have := S.lt k ⟨j, hj, hkj⟩; omega
  · rcases h.vb hi k hv with h1 | h1
    · exact S.ap j i hj hi k (by omega) hk h1
    · have := S.lt k ⟨j, hj, hk⟩; omega
  · rcases h.vb hi k hv with h1 | h1
    · exact ⟨i, hi, h1⟩
    · omega
  · rw [marks_succ]; exact ho
  · rcases hb b hb' with h1 | h1
    · exact h.vb hi b h1
    · right; omega
  · rcases hb b hb' with h1 | h1
    · exact h.va j hj b h1 hg
    · by_cases hj' : j < ns.length
      · have := (own_lt (h.g.each j hj hj') b hg).2; omega
      · have := S.len; omega
theorem Cur.done (S : Stat w0 vs ns) (h : Cur w0 w vs ns i gv gs v (ns[i]?.getD 0 + 70)) (hi : i < vs.length) (hi' : i < ns.length) {A' : Option Addr} {c' : Nat} (ho : w'.ownsRow w0.heap.size 35 1 (.slice A' (i + 1) c') (i + 1) (gs ++ [v])) (hf : Frm (oB gv) w w') :
    Grw w0 w' vs ns (i + 1) (i + 1) (.slice A' (i + 1) c') (gs ++ [v]) := by
  have hl : gs.length = i := by have := h.g.row.1; omega
  have hgv : ∀ k, oB gv k → w0.heap.size ≤ k := fun k hk => (own_lt h.g.row k hk).1
  have en : ns[i]?.getD 0 = ns[i] := by simp [hi']
  rw [en] at h
  refine ⟨ho, fun j hj hj' => ?_, fun j hj hj' => ?_, fun j hj hj' hr => own_frm (h.g.rest j hj hj' hr) hf fun k hk hv => ?_, fun j hj hj' k hk => ?_, fun j j' hj hj' k hne hk hk' => ?_, h.g.frm.trans hf fun k hlt hv => ?_⟩
  · by_cases e : j < gs.length
    · rw [List.getElem_append_left e]
      exact own_frm (h.g.each j e hj') hf fun k hk => own_own_ne (h.g.each j e hj') h.g.row (by decide) hk
    · have e1 : j = i := by simp at hj; omega
      subst e1
      have e3 : (gs ++ [v])[j] = v := by rw [List.getElem_append_right (by omega)]; simp
      rw [e3]
      exact own_frm h.own hf fun k hk => own_own_ne h.own h.g.row (by decide) hk
  · obtain ⟨A, c, e, hr, hz⟩ := h.g.old j hj hj'
    refine ⟨A, c, e, hr.frm hf fun k hk hv => ?_, hz⟩
    have hkj : oB vs[j] k := by
      obtain ⟨a, ha, hak⟩ := hk
      rw [e, ha]
      exact congrArg some hak
    have := S.lt k ⟨j, hj, hkj⟩
    have := hgv k hv
    omega
  · have := S.lt k ⟨j, hj, hk⟩
    have := hgv k hv
    omega
  · by_cases e : j < gs.length
    · rw [List.getElem_append_left e] at hk
      exact h.g.blk j e hj' k hk
    · have e1 : j = i := by simp at hj; omega
      subst e1
      have e3 : (gs ++ [v])[j] = v := by rw [List.getElem_append_right (by omega)]; simp
      rw [e3] at hk
      exact h.vb hi k hk
  · by_cases e : j < gs.length
    · rw [List.getElem_append_left e] at hk
      by_cases e' : j' < gs.length
      · rw [List.getElem_append_left e'] at hk'
        exact h.g.ap j j' e e' k hne hk hk'
      · have e3 : (gs ++ [v])[j'] = v := by rw [List.getElem_append_right (by omega)]; simp
        rw [e3] at hk'
        exact h.va j e k hk' hk
    · have e3 : (gs ++ [v])[j] = v := by rw [List.getElem_append_right (by omega)]; simp
      rw [e3] at hk
      by_cases e' : j' < gs.length
      · rw [List.getElem_append_left e'] at hk'
        exact h.va j' e' k hk hk'
      · simp at hj hj'; omega
  · have := hgv k hv; omega
end

set_option maxRecDepth 100000 in
set_option maxHeartbeats 1000000 in
theorem apart_any (A : Option Addr) (vs : List Value) (ns : List Nat) (c : Nat) (w : World) (hA : Rd w A vs) (hN : ∀ k, aB A k → ¬ inV vs k) (hB : Bag w vs ns fun _ _ => False) (h1 : vs.length ≤ 1000) (h2 : ∀ i (h : i < ns.length), ns[i] ≤ 1100000) :
    Calls Try.prog 26 #[.slice A vs.length c] w fun e w' => e = .returned (.bool true) ∧ Frm (inV vs) w w' := by
  have HN := Lib.hid hN
  have H2 := Lib.hid h2
  have HL := Lib.hid hB.len
  have HS := Lib.hid (Stat.mk hB.len hB.lt hB.apart : Stat w vs ns)
  have HA := Lib.hid hA
  clear hN h2 hA
  go_enter Try.func26, Try.ntmps26
  go_wp2
  go_loopw [3, 4] (fun i _ wr => ∃ k : Nat, k ≤ vs.length ∧ i = .int .i64 k ∧ Bag wr vs ns (fun j _ => j < k) ∧ Frm (inV vs) w wr) (fun i _ _ => vs.length - (intOf i).toNat)
  case atStart => exact ⟨0, Nat.zero_le _, rfl, hB.imp fun _ _ _ _ h => by omega, Frm.refl _ _⟩
  case round =>
    obtain ⟨i, hi, rfl, hB, hf⟩ := hrel
    by_cases hlt : i < vs.length
    · have hi' : i < ns.length := by have := HL.out; omega
      go_wp2
      go_loopw [4] (fun q wr => ∃ k : Nat, k ≤ ns[i] ∧ q = .int .i64 k ∧ Bag wr vs ns (fun j q => j < i ∨ (j = i ∧ q < k)) ∧ Frm (inV vs) w wr) (fun q _ => ns[i] - (intOf q).toNat)
      case atStart => exact ⟨0, Nat.zero_le _, rfl, hB.imp fun j q _ _ h => by omega, hf⟩
      case round =>
        obtain ⟨k, hk, rfl, hB, hf⟩ := hrel
        obtain ⟨b, o, rfl, hc⟩ := (HA.out.frm hf HN.out) i hlt
        by_cases hkl : k < ns[i]
        · obtain ⟨g, ci, u, e, hcu, hfz, _⟩ := hB.place hlt hi' hkl
          rw [e] at hc
          have HB := Lib.hid hB
          have HF := Lib.hid hf
          have hle := H2.out i hi'
          clear hB hf
          have hcd : wr.drew.cell? ⟨b, o + i, none⟩ = some (.slice (some ⟨g, 0, none⟩) ns[i] ci) := hc
          have hcs : (wr.setCell ⟨g, k, none⟩ (.int .u8 (mkI i k))).drew.cell? ⟨b, o + i, none⟩ = some (.slice (some ⟨g, 0, none⟩) ns[i] ci) :=
            ((Frm.refl (fun x => x = g) wr).setCell (a := ⟨g, k, none⟩) (.inl rfl) (.int .u8 (mkI i k))).drew.cell_some hc (fun h => HN.out b ⟨_, rfl, rfl⟩ (by have h : b = g := h; subst h; exact inV_at hlt e))
          have hcud : wr.drew.cell? ⟨g, k, none⟩ = some u := hcu
          have hfzd : wr.drew.frozen? ⟨g, k, none⟩ = false := hfz
          go_wp2_with fail
          go_region_held3 (fun w' => w'.cell? ⟨b, o + i, none⟩ = some (.slice (some ⟨g, 0, none⟩) ns[i] ci)) (first | exact hc | exact hcd | exact hcs) ((go_simp; go_at_call 32; refine (mark_q i k _ (by omega) (by omega)).mono ?_; rintro e w1 ⟨rfl, rfl⟩))
          go_wp2
          exact ⟨⟨k + 1, by omega, by go_num, (HB.out.set_ hlt hi' hkl e fun j q h => by omega).drewN 1, (HF.out.setCell (.inl (inV_at hlt e)) _).drew⟩, by simp [intOf]; omega⟩
        · obtain ⟨Ai, ci, e⟩ := hB.at_ hlt hi'
          rw [e] at hc
          have hkn : k = ns[i] := by omega
          subst hkn
          go_wp2
          exact ⟨⟨i + 1, by omega, by go_num, hB.imp fun j q hj hq h => by
            by_cases ej : j = i
            · subst ej; right; exact ⟨rfl, by simpa [hj] using hq⟩
            · left; omega, hf⟩, by simp [intOf]; omega⟩
    · have e : i = vs.length := by omega
      subst e
      have HB := Lib.hid (hB.imp (P' := fun _ _ => True) fun j q hj _ _ => by have := HL.out; omega)
      have HF := Lib.hid hf
      clear hB hf
      go_wp2
      go_loopw [5, 6, 7, 8] (fun gv i _ _ wr => ∃ (k : Nat) (gs : List Value), k ≤ vs.length ∧ i = .int .i64 k ∧ Grw w wr vs ns k k gv gs) (fun _ i _ _ _ => vs.length - (intOf i).toNat)
      case atStart => exact ⟨0, [], Nat.zero_le _, rfl, Grw.start HB.out HF.out⟩
      case round =>
        obtain ⟨i, gs, hi, rfl, hG⟩ := hrel
        obtain ⟨Ag, cg, rfl, _⟩ := own_slice hG.row
        have HG := Lib.hid hG
        clear hG
        by_cases hlt : i < vs.length
        · have hi' : i < ns.length := by have := HL.out; omega
          obtain ⟨b, o, rfl, hc⟩ := (HA.out.frm HG.out.frm HN.out) i hlt
          obtain ⟨Ai, ci, e, _⟩ := HG.out.old i hlt hi'
          have HE := Lib.hid e
          rw [e] at hc
          clear e
          have hC0 := HG.out.cur HS.out hlt hi'
          rw [HE.out] at hC0
          have HC0 := Lib.hid hC0
          clear hC0
          go_wp2
          go_loopw [7, 8] (fun v q wr => ∃ k : Nat, k ≤ 70 ∧ q = .int .i64 k ∧ Cur w wr vs ns i (.slice Ag i cg) gs v (ns[i] + k)) (fun _ q _ => 70 - (intOf q).toNat)
          case atStart => exact ⟨0, by omega, rfl, HC0.out⟩
          case round =>
            obtain ⟨k, hk, rfl, hC⟩ := hrel
            obtain ⟨Av, cv, rfl, _⟩ := own_slice hC.own
            have HC := Lib.hid hC
            clear hC
            obtain ⟨b', o', e', hc'⟩ := (HA.out.frm HC.out.g.frm HN.out) i hlt
            cases e'
            rw [HE.out] at hc'
            have hle := H2.out i hi'
            by_cases hk7 : k < 70
            · go_wp2_with (first | (go_at_call 32; refine (mark_q i _ _ (by omega) (by omega)).mono ?_; rintro e w1 ⟨rfl, rfl⟩) | (at_builtin; refine app1k info35 rfl 0 HC.out.own _ _ rfl rfl rfl rfl (by omega) (by omega) (Nat.zero_le _) ?_; intro A2 c2 w2 ho2 hc2 hf2 hv2 hk2; have HO2 := Lib.hid ho2; have HF2 := Lib.hid hf2; have HV2 := Lib.hid hv2; have HK2 := Lib.hid hk2; clear ho2 hf2 hv2 hk2))
              refine ⟨⟨k + 1, by omega, by go_num, HC.out.grow HS.out hlt hi' (by omega) (by have h := HO2.out; simpa using h) HF2.out HV2.out HK2.out⟩, by simp [intOf]; omega⟩
            · have e70 : k = 70 := by omega
              subst e70
              go_wp2_with (at_builtin; refine app1 info37 rfl w.heap.size HC.out.g.row _ _ rfl rfl rfl rfl (by omega) (by omega) HC.out.g.frm.size ?_; intro A2 c2 w2 ho2 hc2 hf2 hv2; have HO2 := Lib.hid ho2; have HF2 := Lib.hid hf2; clear ho2 hf2 hv2)
              refine ⟨⟨i + 1, gs ++ [.slice Av (ns[i] + 70) cv], by omega, by go_num, ?_⟩, by simp [intOf]; omega⟩
              have hC := HC.out
              have en : ns[i] = ns[i]?.getD 0 := by simp [hi']
              rw [en] at hC
              have h := hC.done HS.out hlt hi' (w' := w2) (A' := A2) (c' := c2) (by rw [← en]; exact HO2.out) HF2.out
              rw [← en] at h
              exact h
        · have e : i = vs.length := by omega
          subst e
          have hgl : gs.length = vs.length := by have := HG.out.row.1; omega
          have HGL := Lib.hid hgl
          have hRg := Rd.of_own HG.out.row
          have HRG := Lib.hid hRg
          clear hgl hRg
          go_wp2
          go_loopw [9, 10] (fun i _ w3 => ∃ (k m : Nat), k ≤ vs.length ∧ i = .int .i64 k ∧ w3 = wr.drewN m) (fun i _ _ => vs.length - (intOf i).toNat)
          case atStart => exact ⟨0, 0, Nat.zero_le _, rfl, rfl⟩
          case round =>
            obtain ⟨i, m, hi, rfl, rfl⟩ := hrel
            by_cases hlt : i < vs.length
            · have hi' : i < ns.length := by have := HL.out; omega
              have hig : i < gs.length := by have := HGL.out; omega
              go_wp2
              go_loopw [10] (fun q w3 => ∃ (k m : Nat), k ≤ ns[i] + 70 ∧ q = .int .i64 k ∧ w3 = wr.drewN m) (fun q _ => ns[i] + 70 - (intOf q).toNat)
              case atStart => exact ⟨0, m, by omega, rfl, rfl⟩
              case round =>
                obtain ⟨k, m, hk, rfl, hw⟩ := hrel
                obtain ⟨b', o', e', hc'⟩ := HRG.out i hig
                cases e'
                obtain ⟨Av, cv, ev, _⟩ := own_slice (HG.out.each i hig hi')
                rw [ev] at hc'
                have hc'' : wr.cell? ⟨b', o' + i, none⟩ = some (.slice Av (ns[i] + 70) cv) := by rw [hw]; exact hc'
                have hle := H2.out i hi'
                have HW := Lib.hid hw
                by_cases hkl : k < ns[i] + 70
                · have hown := HG.out.each i hig hi'
                  rw [ev] at hown
                  obtain ⟨b3, o3, e3, hc3⟩ := (Rd.of_own hown).mark hkl
                  subst e3
                  have hc3' : wr.cell? ⟨b3, o3 + k, none⟩ = some (.int .u8 (mkI i k)) := by rw [hw]; exact hc3
                  have hne : (mkI i k != mkI i k) = false := by simp
                  obtain ⟨b, o, rfl, hc⟩ := (HA.out.frm HG.out.frm HN.out) i hlt
                  obtain ⟨Ai, ci, e, hri, hz⟩ := HG.out.old i hlt hi'
                  clear hz
                  rw [e] at hc
                  have hcd : wr.cell? ⟨b, o + i, none⟩ = some (.slice Ai ns[i] ci) := by rw [hw]; exact hc
                  by_cases hkn : k < ns[i]
                  · obtain ⟨b4, o4, e4, hc4⟩ := hri.mark hkn
                    subst e4
                    have hc4' : wr.cell? ⟨b4, o4 + k, none⟩ = some (.int .u8 (mkI i k)) := by rw [hw]; exact hc4
                    have hd : decide ((k : Int) < (ns[i] : Int)) = true := by simp; omega
                    clear hc hc' hc3 hown e hc4 hw
                    go_wp2_with fail
                    go_quiet ((go_at_call 32; refine Calls.quiet_of (mark_n i k _ (by omega) (by omega))))
                    go_wp2
                    exact ⟨⟨k + 1, m + nq, by omega, by go_num, by rw [HW.out]; simp⟩, by simp [intOf]; omega⟩
                  · have hd : decide ((k : Int) < (ns[i] : Int)) = false := by simp; omega
                    clear hc hc' hc3 hown e hw
                    go_wp2_with fail
                    go_quiet ((go_at_call 32; refine Calls.quiet_of (mark_n i k _ (by omega) (by omega))))
                    go_wp2
                    exact ⟨⟨k + 1, m + nq, by omega, by go_num, by rw [HW.out]; simp⟩, by simp [intOf]; omega⟩
                · have e70 : k = ns[i] + 70 := by omega
                  subst e70
                  clear hw hc'
                  go_wp2
                  exact ⟨⟨i + 1, m, by omega, by go_num, HW.out⟩, by simp [intOf]; omega⟩
            · have e : i = vs.length := by omega
              subst e
              go_wp2
              go_ret
              exact ⟨rfl, HG.out.frm.drewN _⟩
end Go.Proofs.Ytjnoddbhfcpniaa
