/-
  What Cut gave, while its lists are written over in their one memory.
-/
import Derived.Test.YtkhakddecmgejaaDoorFull
namespace Go.Proofs.YtkhakddecmgejaaDoor
open Go.RowKit
set_option linter.unusedVariables false
set_option linter.unusedSimpArgs false

theorem byte_u8' {n : Int} (h0 : 0 ≤ n) (h1 : n ≤ 255) : bv (UInt8.ofNat n.toNat) = .int .u8 n := by
  unfold bv
  congr 1
  rw [UInt8.toNat_ofNat']
  omega
def FO (w : World) (base : Nat) (F : Option Addr) (xs : List UInt8) : Prop := xs = [] ∨ ∃ g, F = some ⟨g, 0, none⟩ ∧ base ≤ g ∧ Full w g xs
theorem FO.of_own {w : World} {base n c : Nat} {F : Option Addr} {xs : List UInt8} (h : w.ownsRow base 5 1 (.slice F n c) n (xs.map bv)) : FO w base F xs := by
  by_cases e : xs = []
  · exact .inl e
  · refine .inr (Full.of_own h ?_)
    have hl := h.1
    have := List.length_pos_iff.2 e
    rw [List.length_map] at hl
    omega
theorem FO.frm' {w w' : World} {base : Nat} {F : Option Addr} {xs : List UInt8} (h : FO w base F xs) (hf : Frm noB w w') : FO w' base F xs := by
  rcases h with h | ⟨g, e, hb, h⟩
  · exact .inl h
  · exact .inr ⟨g, e, hb, h.frm' hf⟩
theorem FO.rd {w : World} {base : Nat} {F : Option Addr} {xs : List UInt8} (h : FO w base F xs) : Rd w F (xs.map bv) := by
  rcases h with rfl | ⟨g, rfl, hb, h⟩
  · exact Rd.nil _ _
  · exact h.rd

structure CutS (w1 w : World) (base : Nat) (F L : Option Addr) (cF cL : Nat) (xss yss : List (List UInt8)) : Prop where
  alike : Alike yss xss
  own : w.ownsRow base 29 1 (.slice L xss.length cL) xss.length ((List.range xss.length).map (cutV F cF xss))
  mem : FO w w1.heap.size F (rowsL yss)
  frm : Frm noB w1 w
  cap : (rowsL xss).length ≤ cF
theorem CutS.rows {w1 w : World} {base : Nat} {F L : Option Addr} {cF cL : Nat} {xss yss : List (List UInt8)} (h : CutS w1 w base F L cF cL xss yss) : RdRows w L yss (fun _ => True) :=
  cut_rows h.own h.mem.rd h.alike h.cap
theorem CutS.frm' {w1 w w' : World} {base : Nat} {F L : Option Addr} {cF cL : Nat} {xss yss : List (List UInt8)} (h : CutS w1 w base F L cF cL xss yss) (hf : Frm noB w w') : CutS w1 w' base F L cF cL xss yss :=
  ⟨h.alike, own_frm' h.own hf, h.mem.frm' hf, h.frm.trans' hf, h.cap⟩
theorem rowsL_ne {xss : List (List UInt8)} (h : 0 < xss.length) : rowsL xss ≠ [] := fun e => by
  have := rowsL_length xss
  rw [e] at this
  simp at this
  omega
/-- the places of one list and of one byte -/
theorem CutS.places {w1 w : World} {base : Nat} {F L : Option Addr} {cF cL : Nat} {xss yss : List (List UInt8)} (h : CutS w1 w base F L cF cL xss yss) {k : Nat} (hk : k < xss.length) :
    ∃ g l, F = some ⟨g, 0, none⟩ ∧ L = some ⟨l, 0, none⟩ ∧ w1.heap.size ≤ g ∧ l ≠ g ∧ w.cell? ⟨l, k, none⟩ = some (.slice (some ⟨g, atL xss k, none⟩) xss[k].length (cF - atL xss k)) ∧
      ∀ j (hj : j < xss[k].length), ∃ n : Int, w.cell? ⟨g, atL xss k + j, none⟩ = some (.int .u8 n) ∧ w.frozen? ⟨g, atL xss k + j, none⟩ = false := by
  have hyk : k < yss.length := by have := h.alike.1; omega
  have hl := h.alike.2 k hyk hk
  rcases h.mem with e | ⟨g, rfl, hg, hF⟩
  · exact absurd e (rowsL_ne (by omega))
  · have hr := Rd.of_own h.own
    obtain ⟨l, o, rfl, hc⟩ := hr k (by simpa using hk)
    have hL : o = 0 := by
      rcases h.own.2 with ⟨_, e⟩ | ⟨g', cap, cur, e, _⟩
      · omega
      · injection e with e1 _ _
        injection e1 with e1
        injection e1
    subst hL
    refine ⟨g, l, rfl, rfl, hg, ?_, ?_, fun j hj => ?_⟩
    · obtain ⟨cs, hb, _⟩ := hF
      intro e
      exact (hb.own_ne h.own (by decide)) (by subst e; rfl)
    · rw [Nat.zero_add] at hc
      rw [hc]
      simp only [List.getElem_map, List.getElem_range]
      unfold cutV
      simp [List.getD, hk, Addr.add]
      exact fun h => h.symm
    · have hlt : atL xss k + j < (rowsL yss).length := by
        have h1 := atL_succ xss hk
        have h2 := atL_le xss (k + 1)
        have := h.alike.rows
        omega
      obtain ⟨h1, h2⟩ := hF.at_ hlt
      exact ⟨_, h1, h2⟩
theorem CutS.put {w1 w : World} {base g : Nat} {F L : Option Addr} {cF cL : Nat} {xss yss : List (List UInt8)} (h : CutS w1 w base F L cF cL xss yss) {k : Nat} (hk : k < xss.length) {j : Nat} (hj : j < xss[k].length) (hF : F = some ⟨g, 0, none⟩) {n : Int} (h0 : 0 ≤ n) (h1 : n ≤ 255) :
    ∃ zss, CutS w1 (w.setCell ⟨g, atL xss k + j, none⟩ (.int .u8 n)) base F L cF cL xss zss := by
  have hyk : k < yss.length := by have := h.alike.1; omega
  have hl := h.alike.2 k hyk hk
  have hjy : j < yss[k].length := by omega
  rcases h.mem with e | ⟨g', e, hg, hM⟩
  · exact absurd e (rowsL_ne (by omega))
  · have : g' = g := by rw [hF] at e; injection e with e; injection e with e; exact e.symm
    subst this
    have hlt : atL xss k + j < (rowsL yss).length := by
      have h1 := atL_succ xss hk
      have h2 := atL_le xss (k + 1)
      have := h.alike.rows
      omega
    refine ⟨yss.set k (yss[k].set j (UInt8.ofNat n.toNat)), h.alike.set hyk _ _, ?_, .inr ⟨g', e, hg, ?_⟩, h.frm.setCell (.inr hg) _, h.cap⟩
    · have hf : Frm (isB g') w (w.setCell ⟨g', atL xss k + j, none⟩ (.int .u8 n)) := (Frm.refl _ _).setCell (.inl (show isB g' g' from rfl)) _
      obtain ⟨cs, hb, _⟩ := hM
      exact own_frm h.own hf fun q hq hs => by
        have hs : q = g' := hs
        subst hs
        exact hb.own_ne h.own (by decide) hq
    · have hs := hM.set_ hlt (byte_u8' h0 h1)
      rw [← h.alike.at_ k] at hs ⊢
      rwa [rowsL_set yss hyk hjy] at hs
end Go.Proofs.YtkhakddecmgejaaDoor
