/-
  EntryOnce: the plain law of the first right requests.
-/
import Derived.Test.YtjnoddbhfcpniaaFirst
namespace Go.Proofs.Ytjnoddbhfcpniaa
open Go.RowKit
set_option linter.unusedVariables false
set_option linter.unusedSimpArgs false

/-- what the entry knows when k have come -/
structure OnS (l : Coms) (most kind round : Int) (k : Nat) (s : ES) : Prop where
  ph : s.phase = 1
  cl : s.clients = 64
  mo : s.most = most
  le : s.length = 2
  kd : s.kind = kind
  rd : s.round = round
  ask : ∀ c, (mget s.asked c).isSome = true ↔ c ∈ s.who
  all : (s.who.length : Int) < most → ∀ j (h : j < l.length), j < k → l[j].2.length = 2 → 0 ≤ l[j].1 → l[j].1 < 64 → l[j].1 ∈ s.who
  frm : ∀ c ∈ s.who, 0 ≤ c ∧ c < 64 ∧ ∃ j, ∃ h : j < l.length, j < k ∧ l[j].1 = c ∧ l[j].2.length = 2
  bx : s.boxes.length = s.who.length
  b2 : ∀ x ∈ s.boxes, x.length = 2
theorem OnS.start {l : Coms} {most kind round : Int} {s : ES} (h1 : s.phase = 1) (h2 : s.clients = 64) (h3 : s.most = most) (h4 : s.length = 2) (h5 : s.kind = kind) (h6 : s.round = round) (h7 : s.asked = []) (h8 : s.who = []) (h9 : s.boxes = []) : OnS l most kind round 0 s :=
  ⟨h1, h2, h3, h4, h5, h6, fun c => by rw [h7, h8]; simp [mget, mfind], fun _ j _ h => absurd h (by omega), fun c hc => by rw [h8] at hc; simp at hc, by rw [h8, h9]; rfl, fun x hx => by rw [h9] at hx; simp at hx⟩
theorem OnS.err {l : Coms} {most kind round : Int} {k : Nat} {s : ES} (h : OnS l most kind round k s) (hk : k < l.length) :
    subErr s l[k].1 l[k].2 = 0 ↔ (fst1 l k l[k].1 l[k].2.length = true ∧ (s.who.length : Int) < most) := by
  have e1 : subErr s l[k].1 l[k].2 = 0 ↔ ((0 ≤ l[k].1 ∧ l[k].1 < 64) ∧ ¬ (l[k].1 ∈ s.who) ∧ l[k].2.length = 2 ∧ (s.who.length : Int) < most) := by
    unfold subErr
    rw [h.cl, h.ph, h.le, h.mo]
    by_cases q1 : 0 ≤ l[k].1 ∧ l[k].1 < 64
    · rw [if_neg (by simpa using q1), if_neg (by decide)]
      by_cases q2 : (mget s.asked l[k].1).isSome = true
      · rw [if_pos q2]
        have := (h.ask _).1 q2
        simp [this]
      · rw [if_neg q2]
        have := fun x => q2 ((h.ask _).2 x)
        by_cases q3 : (l[k].2.length : Int) = 2
        · rw [if_neg (by simpa using q3)]
          by_cases q4 : most ≤ (s.who.length : Int)
          · rw [if_pos q4]; simp; omega
          · rw [if_neg q4]; simp only [true_iff]; exact ⟨q1, this, by omega, by omega⟩
        · rw [if_pos q3]; simp; omega
    · rw [if_pos q1]; simp; omega
  rw [e1]
  unfold fst1
  simp only [Bool.and_eq_true, decide_eq_true_eq, List.all_eq_true]
  constructor
  · rintro ⟨⟨q1, q2⟩, q3, q4, q5⟩
    refine ⟨⟨⟨⟨q1, q2⟩, q4⟩, fun x hx => ?_⟩, q5⟩
    obtain ⟨j, hj, rfl⟩ := List.getElem_of_mem hx
    have hj' : j < k := by simp at hj; omega
    simp only [List.getElem_take]
    by_cases z1 : l[j].1 = l[k].1
    · by_cases z2 : l[j].2.length = 2
      · exact absurd (z1 ▸ h.all q5 j (by omega) hj' z2 (by omega) (by omega)) q3
      · simp [z2]
    · simp [z1]
  · rintro ⟨⟨⟨⟨q1, q2⟩, q4⟩, q⟩, q5⟩
    refine ⟨⟨q1, q2⟩, fun hm => ?_, q4, q5⟩
    obtain ⟨_, _, j, hj, hjk, z1, z2⟩ := h.frm _ hm
    have := q l[j] (List.mem_take_iff_getElem.2 ⟨j, by omega, rfl⟩)
    simp [z1, z2] at this
theorem OnS.next {l : Coms} {most kind round : Int} {k : Nat} {s : ES} (h : OnS l most kind round k s) (hk : k < l.length) : OnS l most kind round (k + 1) (subTo s l[k].1 l[k].2) := by
  unfold subTo
  by_cases e : subErr s l[k].1 l[k].2 = 0
  · rw [if_pos e]
    obtain ⟨e1, e2⟩ := (h.err hk).1 e
    unfold fst1 at e1
    simp only [Bool.and_eq_true, decide_eq_true_eq] at e1
    refine ⟨h.ph, h.cl, h.mo, h.le, h.kd, h.rd, fun c => ?_, fun hlt j hj hjk z1 z2 z3 => ?_, fun c hc => ?_, by simp [taken, h.bx], fun x hx => ?_⟩
    · show (mget (mput s.asked l[k].1 _) c).isSome = true ↔ c ∈ s.who ++ [l[k].1]
      rw [mget_mput]
      by_cases q : l[k].1 = c
      · rw [if_pos q]; simp [q]
      · rw [if_neg q, h.ask]; simp [Ne.symm q]
    · show l[j].1 ∈ s.who ++ [l[k].1]
      by_cases q : j = k
      · subst q; simp
      · exact List.mem_append_left _ (h.all e2 j hj (by omega) z1 z2 z3)
    · have hc : c ∈ s.who ++ [l[k].1] := hc
      rcases List.mem_append.1 hc with hc | hc
      · obtain ⟨q1, q2, j, hj, hjk, z⟩ := h.frm c hc
        exact ⟨q1, q2, j, hj, by omega, z⟩
      · have : c = l[k].1 := by simpa using hc
        subst this
        exact ⟨e1.1.1.1, e1.1.1.2, k, hk, by omega, rfl, e1.1.2⟩
    · have hx : x ∈ s.boxes ++ [l[k].2] := hx
      rcases List.mem_append.1 hx with hx | hx
      · exact h.b2 x hx
      · have : x = l[k].2 := by simpa using hx
        subst this
        exact e1.1.2
  · rw [if_neg e]
    refine ⟨h.ph, h.cl, h.mo, h.le, h.kd, h.rd, h.ask, fun hlt j hj hjk z1 z2 z3 => ?_, fun c hc => ?_, h.bx, h.b2⟩
    · by_cases q : j = k
      · subst q
        refine Classical.byContradiction fun hn => e ((h.err hk).2 ⟨?_, hlt⟩)
        unfold fst1
        simp only [Bool.and_eq_true, decide_eq_true_eq, List.all_eq_true]
        refine ⟨⟨⟨z2, z3⟩, z1⟩, fun x hx => ?_⟩
        obtain ⟨i, hi, rfl⟩ := List.getElem_of_mem hx
        have hi' : i < j := by simp at hi; omega
        simp only [List.getElem_take]
        by_cases y1 : l[i].1 = l[j].1
        · by_cases y2 : l[i].2.length = 2
          · exact absurd (y1 ▸ h.all hlt i (by omega) hi' y2 (by omega) (by omega)) hn
          · simp [y2]
        · simp [y1]
      · exact h.all hlt j hj (by omega) z1 z2 z3
    · obtain ⟨q1, q2, j, hj, hjk, z⟩ := h.frm c hc
      exact ⟨q1, q2, j, hj, by omega, z⟩
end Go.Proofs.Ytjnoddbhfcpniaa
