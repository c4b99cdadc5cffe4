/-
  EntryFresh: what its walk needs beside the entry's contracts.
-/
import Derived.Test.YtjnoddbhfcpniaaAwake
import Derived.Test.YtjnoddbhfcpniaaApart2
import Derived.Deep.RegionLaw
namespace Go.Proofs.Ytjnoddbhfcpniaa
open Go.RowKit
set_option linter.unusedVariables false
set_option linter.unusedSimpArgs false

/-- the size of requests: a variable that the closure reads -/
theorem size_any (kind n : Int) (p : Nat) (w : World) (hp : w.cell? ⟨p, 0, none⟩ = some (.int .i64 n)) : Calls Try.prog 23 (#[.int .i64 kind] ++ #[.pointer (some ⟨p, 0, none⟩)]) w fun e w' => e = .returned (.int .i64 n) ∧ w' = w := by
  show Calls Try.prog 23 #[.int .i64 kind, .pointer (some ⟨p, 0, none⟩)] w _
  go_enter Try.func23, Try.ntmps23
  go_wp2
  go_ret
  exact ⟨rfl, rfl⟩
theorem size_calls (args : Array Value) (w : World) : (callFunc 23 args).run Try.prog w = .ok (.enter 23 args) w := by
  go_simp
section
variable {w0 w : World} {b : Nat} {fv : Value} {s : ES} {N : Nat → Prop}
theorem openF {p : Nat} {n : Int} (h : Ent0 w0 w b (.func (.func 23) #[] #[.pointer (some ⟨p, 0, none⟩)]) s N) (hc : w0.cell? ⟨p, 0, none⟩ = some (.int .i64 n)) (kind round til : Int) :
    Calls Try.prog 12 #[.pointer (some ⟨b, 0, none⟩), .int .i64 kind, .int .u64 round, .int .i64 til] w fun e w' => e = .returned (.int .i64 (openErr s kind round)) ∧
      Ent0 w0 w' b (.func (.func 23) #[] #[.pointer (some ⟨p, 0, none⟩)]) (if openErr s kind round = 0 then opened s kind round til n else s) N ∧ Frm (nN w0 N) w w' := by
  obtain ⟨F, h1, h2, h3⟩ := h
  refine (open_c h1 kind round til n (G := noB) (R := fun _ _ => True) size_calls (fun w1 hf => (size_any kind n p w1 ((h3.old hf fun k hk => (h2 k hk).1).cell_some hc fun h => h)).mono fun e w' ⟨he, hw⟩ => ⟨he, hw ▸ Frm.refl _ _, trivial⟩) (fun _ h => h.elim)).mono
    fun e w' ⟨he, hE, hx⟩ => ?_
  have hf : Frm F w w' := by
    rcases hx with ⟨_, hf⟩ | ⟨_, w0, w1, f0, f1, _, f2⟩
    · exact hf.any
    · exact (f0.trans' f1.any).trans' f2
  exact ⟨he, ⟨F, hE, h2, h3.old hf fun k hk => (h2 k hk).1⟩, hf.mono fun k _ hk => h2 k hk⟩

/-- what a batch is made of -/
def boxB (v : Value) (xs : List Value) : Nat → Prop := fun k => oB v k ∨ inV xs k
theorem OwnRows.rdRows {w : World} {A : Option Addr} {xs : List Value} {c : Nat} {boxes : List (List UInt8)} (hr : w.ownsRow 0 35 1 (.slice A xs.length c) xs.length xs) (hb : OwnRows w xs boxes) : RdRows w A boxes (boxB (.slice A xs.length c) xs) := by
  refine ⟨xs, Rd.of_own hr, hb.1, fun i hi hi' => ?_, fun _ k hk => ?_⟩
  · have := hb.2.1 i hi' hi
    obtain ⟨A', c', e, _⟩ := own_slice this
    rw [e] at this
    refine ⟨A', c', e, Rd.of_own this, fun _ k hk => .inr ⟨i, hi', ?_⟩⟩
    rw [e]
    obtain ⟨a, rfl, rfl⟩ := hk
    rfl
  · obtain ⟨a, rfl, rfl⟩ := hk
    exact .inl rfl
theorem close1 (h : Ent0 w0 w b fv s N) (hp : s.phase = 1) :
    Calls Try.prog 14 #[.pointer (some ⟨b, 0, none⟩)] w fun e w' => ∃ Aw cw Ax cx xs, e = .returned (.tuple #[.agg #[.int .i64 s.kind, .int .u64 s.round, .slice Aw s.who.length cw, .slice Ax xs.length cx], .int .i64 0]) ∧
      w'.ownsRow 0 35 1 (.slice Ax xs.length cx) xs.length xs ∧ OwnRows w' xs s.boxes ∧ (∀ k, boxB (.slice Ax xs.length cx) xs k → nN w0 N k ∧ k < w.heap.size) ∧ Ent0 w0 w' b fv (closed s) (fun k => N k ∨ boxB (.slice Ax xs.length cx) xs k) ∧ Frm (nN w0 N) w w' := by
  obtain ⟨F, h1, h2, h3⟩ := h
  refine (close_c h1).mono fun e w' hx => ?_
  rcases hx with ⟨h', _⟩ | ⟨_, F', wo, xv, xs, rfl, hE, hB, hf⟩
  · exact absurd hp h'
  · obtain ⟨Ax, cx, rfl, _⟩ := own_slice hB.row
    obtain ⟨Aw, cw, rfl, _⟩ := own_slice hB.wo_
    have hk : ∀ k, boxB (.slice Ax xs.length cx) xs k → F k ∧ ¬ F' k := fun k hk => hB.inF k hk
    exact ⟨Aw, cw, Ax, cx, xs, rfl, hB.row, hB.box, fun k hk' => ⟨h2 k (hk k hk').1, h1.lt k (hk k hk').1⟩, ⟨F', hE, fun k hk' => ⟨(h2 k (hB.sub k hk')).1, fun hn => by
      rcases hn with hn | hn
      · exact (h2 k (hB.sub k hk')).2 hn
      · exact (hk k hn).2 hk'⟩, h3.old hf fun k hk => (h2 k hk).1⟩, hf.mono fun k _ hk => h2 k hk⟩
theorem sub1 (h : Ent0 w0 w b fv s N) (hN : ∀ k, N k → k < w.heap.size) (client : Int) (l : List UInt8) (A : Option Addr) (c : Nat) (hr : Rd w A (l.map bv)) (hA : ∀ k, aB A k → N k ∨ k < w0.heap.size) (hL : Len l.length) :
    Calls Try.prog 13 #[.pointer (some ⟨b, 0, none⟩), .int .i64 client, .slice A l.length c] w fun e w' =>
      e = .returned (.int .i64 (subErr s client l)) ∧ Ent0 w0 w' b fv (subTo s client l) N ∧ Frm (nN w0 N) w w' := by
  obtain ⟨F, h1, h2, h3⟩ := h
  refine (sub_c h1 client _ l c hr (fun k hk hF => ?_) hL).mono fun e w' ⟨he, F', hE, hf, hg⟩ =>
    ⟨he, ⟨F', hE, grow_nN hg h2 h3.size fun k hk => hN k hk, h3.old hf fun k hk => (h2 k hk).1⟩, hf.mono fun k _ hk => h2 k hk⟩
  have h4 := h2 k hF
  rcases hA k hk with h | h
  · exact h4.2 h
  · have := h4.1; omega
theorem col1 (h : Ent0 w0 w b fv s N) (client : Int) (hc : 0 ≤ client ∧ client < s.clients) (l : List UInt8) (hl : s.replies client = some l) :
    Calls Try.prog 21 #[.pointer (some ⟨b, 0, none⟩), .int .i64 client] w fun e w' => ∃ A c, e = .returned (.tuple #[.slice A l.length c, .bool true, .int .i64 0]) ∧
      w'.ownsRow 0 5 1 (.slice A l.length c) l.length (l.map bv) ∧ (∀ k, oB (.slice A l.length c) k → nN w0 N k ∧ k < w.heap.size) ∧ Ent0 w0 w' b fv (collected s client) (fun k => N k ∨ oB (.slice A l.length c) k) ∧ Frm (nN w0 N) w w' :=
  (col0 h client hc).mono fun e w' ⟨A, c, he, hG, hA, hE, hf⟩ => by
    rw [hl] at he hG
    have hoa : ∀ k, oB (.slice A l.length c) k → aB A k := fun k hk => by
      rcases A with _ | a
      · simp [oB, Value.ownBlock] at hk
      · exact ⟨a, rfl, by simpa [oB, Value.ownBlock] using hk⟩
    refine ⟨A, c, he, ?_, fun k hk => hA k (hoa k hk), hE.more fun k hk => ?_, hf⟩
    · rcases hG.own with ⟨h, _⟩ | h
      · cases h
      · exact h
    · rcases hk with hk | hk
      · exact .inl (.inl hk)
      · exact .inl (.inr (hoa k hk))
end
/-- a list of two lists that has just been laid -/
theorem laid2 (w : World) {A : Option Addr} {l : List UInt8} (c : Nat) {N : Nat → Prop} (h : Rd w A (l.map bv)) (hN : ∀ k, aB A k → N k) (g : Nat) (hg : g = w.heap.size) :
    RdRows (w.alloc (.cells #[.slice A l.length c, .slice A l.length c] 35)) (some ⟨g, 0, none⟩) [l, l] (fun k => N k ∨ k = g) := by
  subst hg
  refine ⟨[.slice A l.length c, .slice A l.length c], fun i hi => ?_, rfl, fun i hi hi' => ?_, fun _ k ⟨a, ha, hk⟩ => ?_⟩
  · refine ⟨w.heap.size, 0, rfl, ?_⟩
    rw [Nat.zero_add, cell_of_row _ _ i #[.slice A l.length c, .slice A l.length c] 35 (0, 0) (heap_alloc_new w _)]
    simp at hi
    rcases i with _ | _ | i
    · rfl
    · rfl
    · omega
  · have h2 := h.alloc (.cells #[.slice A l.length c, .slice A l.length c] 35)
    simp at hi
    rcases i with _ | _ | i
    · exact ⟨A, c, rfl, h2, fun _ k hk => .inl (hN k hk)⟩
    · exact ⟨A, c, rfl, h2, fun _ k hk => .inl (hN k hk)⟩
    · omega
  · cases ha
    exact .inr hk.symm
theorem Bag.snoc {w : World} {vs : List Value} {ns : List Nat} (h : Bag w vs ns fun _ _ => False) {v : Value} {n : Nat} {xs : List Value} (ho : w.ownsRow 0 5 1 v n xs) (hv : ∀ k, oB v k → ¬ inV vs k) : Bag w (vs ++ [v]) (ns ++ [n]) fun _ _ => False := by
  have hl := h.len
  have e3 : ∀ i (hi : i < (vs ++ [v]).length), ¬ i < vs.length → (vs ++ [v])[i] = v := fun i hi hn => by rw [List.getElem_append_right (by omega)]; simp
  refine ⟨by simp [hl], fun i hi hi' => ?_, fun i j hi hj k hij hik hjk => ?_⟩
  · by_cases e : i < vs.length
    · rw [List.getElem_append_left e, List.getElem_append_left (by omega)]
      exact h.each i e (by omega)
    · have en : (ns ++ [n])[i] = n := by
        rw [List.getElem_append_right (by omega)]; simp
      rw [e3 i hi e, en]
      exact ⟨xs, ho, fun _ _ h => h.elim⟩
  · by_cases e : i < vs.length
    · rw [List.getElem_append_left e] at hik
      by_cases e' : j < vs.length
      · rw [List.getElem_append_left e'] at hjk
        exact h.apart i j e e' k hij hik hjk
      · rw [e3 j hj e'] at hjk
        exact hv k hjk ⟨i, e, hik⟩
    · rw [e3 i hi e] at hik
      by_cases e' : j < vs.length
      · rw [List.getElem_append_left e'] at hjk
        exact hv k hik ⟨j, e', hjk⟩
      · simp at hi hj; omega
theorem inV_snoc {vs : List Value} {v : Value} {k : Nat} (h : inV (vs ++ [v]) k) : inV vs k ∨ oB v k := by
  obtain ⟨i, hi, hk⟩ := h
  by_cases e : i < vs.length
  · rw [List.getElem_append_left e] at hk
    exact .inl ⟨i, e, hk⟩
  · have : (vs ++ [v])[i] = v := by rw [List.getElem_append_right (by omega)]; simp
    rw [this] at hk
    exact .inr hk
theorem Bag.none (w : World) : Bag w [] [] fun _ _ => False := ⟨rfl, fun i h => absurd h (by simp), fun i j h => absurd h (by simp)⟩
theorem inV_nil {k : Nat} : ¬ inV [] k := fun ⟨i, h, _⟩ => absurd h (by simp)
end Go.Proofs.Ytjnoddbhfcpniaa
