/-
  The lists of Rows in one memory: each list read where Cut begins it; a byte of one list written.
-/
import Derived.Test.YtkhakddecmgejaaDoorRows01
namespace Go.Proofs.YtkhakddecmgejaaDoor
open Go.RowKit
set_option linter.unusedVariables false
set_option linter.unusedSimpArgs false

theorem rowsL_append (a b : List (List UInt8)) : rowsL (a ++ b) = rowsL a ++ rowsL b := by
  unfold rowsL; simp
theorem rowsL_cons (x : List UInt8) (b : List (List UInt8)) : rowsL (x :: b) = lentL x ++ rowsL b := by
  unfold rowsL; simp
theorem rowsL_split (yss : List (List UInt8)) {k : Nat} (h : k < yss.length) : rowsL yss = rowsL (yss.take k) ++ (yss[k] ++ (lentM ++ rowsL (yss.drop (k + 1)))) := by
  conv => lhs; rw [← List.take_append_drop k yss, List.drop_eq_getElem_cons h, rowsL_append, rowsL_cons]
  simp [lentL]
theorem rowsL_drop (yss : List (List UInt8)) {k : Nat} (h : k < yss.length) : ((rowsL yss).drop (atL yss k)).take yss[k].length = yss[k] := by
  conv => lhs; rw [rowsL_split yss h]
  unfold atL
  rw [List.drop_left, List.take_left]
theorem rowsL_set (yss : List (List UInt8)) {k : Nat} (h : k < yss.length) {j : Nat} (hj : j < yss[k].length) (x : UInt8) : (rowsL yss).set (atL yss k + j) x = rowsL (yss.set k (yss[k].set j x)) := by
  have h' : k < (yss.set k (yss[k].set j x)).length := by simpa using h
  rw [rowsL_split yss h, rowsL_split _ h']
  unfold atL
  simp only [List.getElem_set_self, List.take_set, List.drop_set]
  have e1 : (yss.take k).set k (yss[k].set j x) = yss.take k := List.set_eq_of_length_le (by rw [List.length_take]; omega)

  rw [e1, List.set_append_right _ _ (by omega), Nat.add_sub_cancel_left, List.set_append_left _ _ hj, if_pos (by omega)]
theorem rowsL_get (yss : List (List UInt8)) {k : Nat} (h : k < yss.length) {j : Nat} (hj : j < yss[k].length) : (rowsL yss)[atL yss k + j]? = some (yss[k][j]) := by
  rw [rowsL_split yss h]
  unfold atL
  rw [List.getElem?_append_right (by omega), Nat.add_sub_cancel_left, List.getElem?_append_left hj, List.getElem?_eq_getElem hj]

/-- as long, list by list -/
def Alike (yss xss : List (List UInt8)) : Prop := yss.length = xss.length ∧ ∀ i (h : i < yss.length) (h' : i < xss.length), yss[i].length = xss[i].length
theorem Alike.refl (xss : List (List UInt8)) : Alike xss xss := ⟨rfl, fun _ _ _ => rfl⟩
theorem Alike.rows {yss xss : List (List UInt8)} (h : Alike yss xss) : (rowsL yss).length = (rowsL xss).length := by
  obtain ⟨h0, h1⟩ := h
  induction yss generalizing xss with
  | nil => cases xss with
    | nil => rfl
    | cons x xs => simp at h0
  | cons y ys ih => cases xss with
    | nil => simp at h0
    | cons x xs =>
      have e := ih (xss := xs) (by simpa using h0) fun i hi hi' => by
        have := h1 (i + 1) (by simpa using hi) (by simpa using hi')
        simpa using this
      have e0 := h1 0 (by simp) (by simp)
      simp only [List.getElem_cons_zero] at e0
      rw [rowsL_cons, rowsL_cons, List.length_append, List.length_append, lentL_length, lentL_length, e, e0]
theorem Alike.take {yss xss : List (List UInt8)} (h : Alike yss xss) (k : Nat) : Alike (yss.take k) (xss.take k) :=
  ⟨by rw [List.length_take, List.length_take, h.1], fun i hi hi' => by
    simp only [List.getElem_take]
    exact h.2 i (by simp at hi; omega) (by simp at hi'; omega)⟩
theorem Alike.at_ {yss xss : List (List UInt8)} (h : Alike yss xss) (k : Nat) : atL yss k = atL xss k := (h.take k).rows
theorem Alike.set {yss xss : List (List UInt8)} (h : Alike yss xss) {k : Nat} (hk : k < yss.length) (j : Nat) (x : UInt8) : Alike (yss.set k (yss[k].set j x)) xss :=
  ⟨by simpa using h.1, fun i hi hi' => by
    have hi2 : i < yss.length := by simpa using hi
    rw [List.getElem_set]
    split
    · rename_i e; subst e; rw [List.length_set]; exact h.2 _ hk hi'
    · exact h.2 i hi2 hi'⟩
theorem Alike.flat {yss xss : List (List UInt8)} (h : Alike yss xss) : yss.flatten.length = xss.flatten.length := by
  have h1 := rowsL_length yss
  have h2 := rowsL_length xss
  have := h.rows
  have := h.1
  omega

/-- the lists that Cut gave, read -/
theorem cut_rows {w : World} {base n c' c : Nat} {A F : Option Addr} {xss yss : List (List UInt8)} (hl : w.ownsRow base 29 1 (.slice A n c') n ((List.range xss.length).map (cutV F c xss))) (hF : Rd w F ((rowsL yss).map bv)) (hA : Alike yss xss) (hc : (rowsL xss).length ≤ c) : RdRows w A yss (fun _ => True) := by
  refine ⟨_, Rd.of_own hl, by simp [hA.1], fun i hi hi' => ?_, fun _ _ _ => trivial⟩
  have hx : i < xss.length := by have := hA.1; omega
  refine ⟨_, _, by
    rw [List.getElem_map, List.getElem_range]
    unfold cutV
    rw [show (xss.getD i []).length = yss[i].length by simp [List.getD, hx, hA.2 i hi hx]], ?_, ?_, fun _ _ _ => trivial⟩
  · have h := atL_succ xss hx
    have h' := atL_le xss (i + 1)
    have := hA.2 i hi hx
    omega
  · have h := (hF.dropO (atL yss i)).takeB yss[i].length
    rw [rowsL_drop yss hi, hA.at_] at h
    exact h

/-- a memory of bytes known from its beginning -/
def Full (w : World) (g : Nat) (xs : List UInt8) : Prop := ∃ cs : Array Value, Blk w g 5 cs ∧ ∀ j (h : j < xs.length), cs[j]? = some (bv xs[j])
theorem Full.of_own {w : World} {base n c : Nat} {F : Option Addr} {xs : List UInt8} (h : w.ownsRow base 5 1 (.slice F n c) n (xs.map bv)) (h0 : 0 < n) : ∃ g, F = some ⟨g, 0, none⟩ ∧ base ≤ g ∧ Full w g xs := by
  have hl := h.1
  rcases h.2 with ⟨_, e⟩ | ⟨g, cap, cur, e, hg, hb, hn, hm, hs, ht⟩
  · omega
  · injection e with e1 e2 e3
    refine ⟨g, e1, hg, cur, hb, fun j hj => ?_⟩
    have hj' : j < (xs.map bv).length := by simpa using hj
    have h2 : (cur.toList.take (n * 1))[j]? = some (bv xs[j]) := by
      rw [ht, List.getElem?_map, List.getElem?_eq_getElem hj]; rfl
    rw [List.getElem?_take] at h2
    split at h2
    · rwa [Array.getElem?_toList] at h2
    · cases h2
theorem Full.frm {S : Nat → Prop} {w w' : World} {g : Nat} {xs : List UInt8} (h : Full w g xs) (hf : Frm S w w') (hS : ¬ S g) : Full w' g xs := by
  obtain ⟨cs, h1, h2⟩ := h
  exact ⟨cs, h1.frm hf hS, h2⟩
theorem Full.frm' {w w' : World} {g : Nat} {xs : List UInt8} (h : Full w g xs) (hf : Frm noB w w') : Full w' g xs := h.frm hf fun h => h
theorem Full.rd {w : World} {g : Nat} {xs : List UInt8} (h : Full w g xs) : Rd w (some ⟨g, 0, none⟩) (xs.map bv) := by
  obtain ⟨cs, h1, h2⟩ := h
  intro i hi
  refine ⟨g, 0, rfl, ?_⟩
  rw [Nat.zero_add, h1.cell i, h2 i (by simpa using hi)]
  simp
theorem Full.set_ {w : World} {g j : Nat} {xs : List UInt8} (h : Full w g xs) (hj : j < xs.length) {n : Int} {x : UInt8} (hx : bv x = .int .u8 n) : Full (w.setCell ⟨g, j, none⟩ (.int .u8 n)) g (xs.set j x) := by
  obtain ⟨cs, h1, h2⟩ := h
  have hcs : j < cs.size := by
    have := h2 j hj
    exact (Array.getElem?_eq_some_iff.1 this).1
  refine ⟨_, h1.set_ j (.int .u8 n), fun r hr => ?_⟩
  rw [Array.getElem?_setIfInBounds]
  by_cases e : j = r
  · subst e
    rw [if_pos rfl, if_pos hcs]
    simp [hx]
  · rw [if_neg e, h2 r (by simpa using hr)]
    simp [e]
theorem Full.at_ {w : World} {g j : Nat} {xs : List UInt8} (h : Full w g xs) (hj : j < xs.length) : w.cell? ⟨g, j, none⟩ = some (bv xs[j]) ∧ w.frozen? ⟨g, j, none⟩ = false := by
  obtain ⟨cs, h1, h2⟩ := h
  exact ⟨by rw [h1.cell j, h2 j hj], h1.frozen j⟩
end Go.Proofs.YtkhakddecmgejaaDoor
