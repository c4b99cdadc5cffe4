/-
  EntryPlays: the document's entry as plain data, and how the entry's state stands to it.
-/
import Derived.Test.YtjnoddbhfcpniaaEntC
namespace Go.Proofs.Ytjnoddbhfcpniaa
open Go.RowKit
set_option linter.unusedVariables false
set_option linter.unusedSimpArgs false

abbrev Tk := List (Int × List UInt8)
/-- the document's entry -/
structure RS where
  z1 : Int
  z2 : Int
  clients : Int
  most : Int
  op : Bool
  wt : Bool
  kind : Int
  round : Int
  til : Int
  tk : Tk
  rp : Tk
def RS.size (t : RS) (kind : Int) : Int := if kind = 1 then t.z1 else t.z2
def rs0 (z1 z2 c m : Int) : RS := { z1 := z1, z2 := z2, clients := c, most := m, op := false, wt := false, kind := 0, round := 0, til := 0, tk := [], rp := [] }
/-- the last reply of a client, of the first k -/
def lastOf (l : Tk) : Nat → Int → Option (List UInt8)
  | 0, _ => none
  | k + 1, c => if (l[k]?.getD (0, [])).1 = c then some (l[k]?.getD (0, [])).2 else lastOf l k c
def leftOf (l : Tk) (c : Int) : Tk := l.filter fun x => decide (x.1 ≠ c)
def begErr (t : RS) (kind round : Int) : Int := if ¬ (kind = 1 ∨ kind = 2) then 253 else if round = 0 then 2 else if t.op = true then 251 else 0
def begun (t : RS) (kind round til : Int) : RS := { t with op := true, wt := false, kind := kind, round := round, til := til, tk := [] }
def rsubErr (t : RS) (c : Int) (l : List UInt8) : Int := if ¬ (0 ≤ c ∧ c < t.clients) then 292 else if ¬ t.op = true then 290 else if c ∈ t.tk.map (·.1) then 291 else if (l.length : Int) ≠ t.size t.kind then 4 else if t.most ≤ t.tk.length then 252 else 0
def rtaken (t : RS) (c : Int) (l : List UInt8) : RS := { t with tk := t.tk ++ [(c, l)] }
def rclosed (t : RS) : RS := { t with op := false, wt := true }
def ransErr (t : RS) (n : Nat) : Int := if ¬ t.wt = true then 251 else if n ≠ t.tk.length then 4 else 0
def ranswered (t : RS) (reps : List (List UInt8)) : RS := { t with wt := false, rp := (t.tk.map (·.1)).zip reps }
def rcollected (t : RS) (c : Int) : RS := { t with rp := leftOf t.rp c }

/-- how the entry's state stands to the document's -/
structure Rel (s : ES) (t : RS) : Prop where
  cl : s.clients = t.clients
  mo : s.most = t.most
  op : t.op = decide (s.phase = 1)
  wt : t.wt = decide (s.phase = 2)
  kd : s.phase = 1 → s.kind = t.kind ∧ s.round = t.round ∧ s.til = t.til ∧ s.length = t.size t.kind ∧ s.boxes = t.tk.map (·.2) ∧ ∀ c, (mget s.asked c).isSome = true ↔ c ∈ t.tk.map (·.1)
  wh : s.phase = 1 ∨ s.phase = 2 → s.who = t.tk.map (·.1)
  rl : ∀ c, s.replies c = lastOf t.rp t.rp.length c
/-- bounds -/
structure RB (t : RS) (B : Nat) : Prop where
  cl : 1 ≤ t.clients ∧ t.clients ≤ 64
  mo : 1 ≤ t.most ∧ t.most ≤ 256
  kd : t.op = true → t.kind = 1 ∨ t.kind = 2
  lt : (t.tk.length : Int) ≤ t.most
  lr : t.rp.length ≤ 256
  bt : ∀ x ∈ t.tk, x.2.length ≤ B
  br : ∀ x ∈ t.rp, x.2.length ≤ B
  ex : ¬ (t.op = true ∧ t.wt = true)

theorem lastOf_eq (l : Tk) (c : Int) : ∀ k, k ≤ l.length → lastOf l k c = ((l.take k).reverse.find? fun x => decide (x.1 = c)).map (·.2)
  | 0, _ => by simp [lastOf]
  | k + 1, hk => by
    have hk' : k < l.length := by omega
    rw [List.take_succ_eq_append_getElem hk', List.reverse_append]
    simp only [List.reverse_cons, List.reverse_nil, List.nil_append, List.singleton_append, List.find?_cons]
    simp only [lastOf, List.getElem?_eq_getElem hk', Option.getD_some]
    by_cases h : l[k].1 = c
    · simp [h]
    · simp only [if_neg h, decide_eq_false h]
      exact lastOf_eq l c k (by omega)
theorem lastOf_all (l : Tk) (c : Int) : lastOf l l.length c = (l.reverse.find? fun x => decide (x.1 = c)).map (·.2) := by
  rw [lastOf_eq l c l.length (Nat.le_refl _), List.take_length]
theorem lastOf_left (l : Tk) (c x : Int) : lastOf (leftOf l c) (leftOf l c).length x = if c = x then none else lastOf l l.length x := by
  rw [lastOf_all, lastOf_all]
  unfold leftOf
  rw [← List.filter_reverse, List.find?_filter]
  by_cases h : c = x
  · subst h
    rw [if_pos rfl]
    have : (l.reverse.find? fun a => decide (decide (a.1 ≠ c) = true ∧ decide (a.1 = c) = true)) = none := by
      rw [List.find?_eq_none]
      intro a ha
      simp
    rw [this]; rfl
  · rw [if_neg h]
    congr 2
    funext a
    by_cases e : a.1 = x
    · have e2 : a.1 ≠ c := by omega
      simp [e, e2]
      omega
    · simp [e]
theorem lastOf_zip (who : List Int) (reps : List (List UInt8)) (h : reps.length = who.length) (c : Int) : ∀ k, k ≤ who.length → repl who reps k c = lastOf (who.zip reps) k c
  | 0, _ => rfl
  | k + 1, hk => by
    have h1 : k < who.length := by omega
    have h2 : k < reps.length := by omega
    have h3 : k < (who.zip reps).length := by simp; omega
    simp only [repl, lastOf, List.getElem?_eq_getElem h1, List.getElem?_eq_getElem h2, List.getElem?_eq_getElem h3, Option.getD_some, List.getElem_zip]
    rw [lastOf_zip who reps h c k (by omega)]
theorem ite_c {p q : Prop} [Decidable p] [Decidable q] {a b c d : Int} (h : p ↔ q) (h1 : a = b) (h2 : c = d) : ite p a c = ite q b d := by
  subst h1; subst h2
  by_cases e : p
  · rw [if_pos e, if_pos (h.1 e)]
  · rw [if_neg e, if_neg (fun x => e (h.2 x))]
theorem Rel.start (z1 z2 c m : Int) : Rel (es0 c m) (rs0 z1 z2 c m) :=
  ⟨rfl, rfl, rfl, rfl, fun h => absurd h (by simp [es0]), fun h => by simp [es0] at h, fun c => rfl⟩
theorem Rel.opn {s : ES} {t : RS} (h : Rel s t) (kind round : Int) : openErr s kind round = begErr t kind round := by
  unfold openErr begErr
  rw [h.op]
  simp only [decide_eq_true_eq]
theorem Rel.opened {s : ES} {t : RS} (h : Rel s t) (kind round til : Int) : Rel (opened s kind round til (t.size kind)) (begun t kind round til) :=
  ⟨h.cl, h.mo, rfl, rfl, fun _ => ⟨rfl, rfl, rfl, rfl, rfl, fun c => by simp [Go.Proofs.Ytjnoddbhfcpniaa.opened, begun, mget, mfind]⟩, fun _ => rfl, h.rl⟩
theorem Rel.who_len {s : ES} {t : RS} (h : Rel s t) (hp : s.phase = 1 ∨ s.phase = 2) : s.who.length = t.tk.length := by
  rw [h.wh hp]; simp
theorem Rel.ph1 {s : ES} {t : RS} (h : Rel s t) : t.op = true ↔ s.phase = 1 := by rw [h.op]; simp
theorem Rel.ph2 {s : ES} {t : RS} (h : Rel s t) : t.wt = true ↔ s.phase = 2 := by rw [h.wt]; simp
theorem Rel.sub {s : ES} {t : RS} (h : Rel s t) (c : Int) (l : List UInt8) : subErr s c l = rsubErr t c l := by
  unfold subErr rsubErr
  refine ite_c (by rw [h.cl]) rfl ?_
  by_cases h2 : s.phase = 1
  · obtain ⟨_, _, _, e4, _, e6⟩ := h.kd h2
    rw [if_neg (show ¬ (s.phase ≠ 1) from fun q => q h2), if_neg (show ¬ ¬ t.op = true from fun q => q (h.ph1.2 h2))]
    refine ite_c (e6 c) rfl ?_
    refine ite_c (by rw [e4]) rfl ?_
    exact ite_c (by rw [h.mo, h.who_len (.inl h2)]) rfl rfl
  · rw [if_pos (show s.phase ≠ 1 from h2), if_pos (show ¬ t.op = true from fun q => h2 (h.ph1.1 q))]
theorem rsub_open {t : RS} {c : Int} {l : List UInt8} (h : rsubErr t c l = 0) : t.op = true ∧ (t.tk.length : Int) < t.most ∧ (0 ≤ c ∧ c < t.clients) := by
  unfold rsubErr at h
  by_cases h1 : 0 ≤ c ∧ c < t.clients
  · rw [if_neg (by simpa using h1)] at h
    by_cases h2 : t.op = true
    · rw [if_neg (by simpa using h2)] at h
      by_cases h3 : c ∈ t.tk.map (·.1)
      · rw [if_pos h3] at h; cases h
      · rw [if_neg h3] at h
        by_cases h4 : (l.length : Int) ≠ t.size t.kind
        · rw [if_pos h4] at h; cases h
        · rw [if_neg h4] at h
          by_cases h5 : t.most ≤ t.tk.length
          · rw [if_pos h5] at h; cases h
          · exact ⟨h2, by omega, h1⟩
    · rw [if_pos h2] at h; cases h
  · rw [if_pos h1] at h; cases h
theorem Rel.taken {s : ES} {t : RS} (h : Rel s t) {c : Int} {l : List UInt8} (e : rsubErr t c l = 0) : Rel (taken s c l) (rtaken t c l) := by
  have hp := h.ph1.1 (rsub_open e).1
  obtain ⟨e1, e2, e3, e4, e5, e6⟩ := h.kd hp
  refine ⟨h.cl, h.mo, h.op, h.wt, fun _ => ⟨e1, e2, e3, e4, ?_, fun x => ?_⟩, fun _ => ?_, h.rl⟩
  · show s.boxes ++ [l] = (t.tk ++ [(c, l)]).map (·.2)
    rw [e5]; simp
  · show (mget (mput s.asked c _) x).isSome = true ↔ x ∈ (t.tk ++ [(c, l)]).map (·.1)
    rw [mget_mput]
    by_cases q : c = x
    · rw [if_pos q]; simp [q]
    · rw [if_neg q, e6]; simp [Ne.symm q]
  · show s.who ++ [c] = (t.tk ++ [(c, l)]).map (·.1)
    rw [h.wh (.inl hp)]; simp
theorem Rel.closed {s : ES} {t : RS} (h : Rel s t) (hp : s.phase = 1) : Rel (closed s) (rclosed t) :=
  ⟨h.cl, h.mo, rfl, rfl, fun h => absurd h (by simp [Go.Proofs.Ytjnoddbhfcpniaa.closed]), fun _ => h.wh (.inl hp), h.rl⟩
theorem Rel.ans {s : ES} {t : RS} (h : Rel s t) (n : Nat) : ansErr s n = ransErr t n := by
  unfold ansErr ransErr
  by_cases h1 : s.phase = 2
  · rw [if_neg (show ¬ (s.phase ≠ 2) from fun q => q h1), if_neg (show ¬ ¬ t.wt = true from fun q => q (h.ph2.2 h1)), h.who_len (.inr h1)]
  · rw [if_pos (show s.phase ≠ 2 from h1), if_pos (show ¬ t.wt = true from fun q => h1 (h.ph2.1 q))]
theorem rans_ok {t : RS} {n : Nat} (h : ransErr t n = 0) : t.wt = true ∧ n = t.tk.length := by
  unfold ransErr at h
  by_cases h1 : t.wt = true
  · rw [if_neg (by simpa using h1)] at h
    by_cases h2 : n = t.tk.length
    · exact ⟨h1, h2⟩
    · rw [if_pos h2] at h; cases h
  · rw [if_pos h1] at h; cases h
theorem Rel.answered {s : ES} {t : RS} (h : Rel s t) {reps : List (List UInt8)} (e : ransErr t reps.length = 0) : Rel (answered s reps) (ranswered t reps) := by
  obtain ⟨h1, h2⟩ := rans_ok e
  have hp := h.ph2.1 h1
  have hw := h.wh (.inr hp)
  refine ⟨h.cl, h.mo, ?_, rfl, fun h => absurd h (by simp [Go.Proofs.Ytjnoddbhfcpniaa.answered]), fun h => by simp [Go.Proofs.Ytjnoddbhfcpniaa.answered] at h, fun c => ?_⟩
  · show t.op = decide ((0 : Int) = 1)
    rw [h.op, hp]; rfl
  · show repl s.who reps s.who.length c = lastOf ((t.tk.map (·.1)).zip reps) ((t.tk.map (·.1)).zip reps).length c
    rw [← hw]
    have hl : reps.length = s.who.length := by rw [hw, h2]; simp
    rw [show (s.who.zip reps).length = s.who.length by simp; omega]
    exact lastOf_zip s.who reps hl c _ (Nat.le_refl _)
theorem Rel.collected {s : ES} {t : RS} (h : Rel s t) (c : Int) : Rel (collected s c) (rcollected t c) :=
  ⟨h.cl, h.mo, h.op, h.wt, h.kd, h.wh, fun x => by
    show (if c = x then none else s.replies x) = lastOf (leftOf t.rp c) (leftOf t.rp c).length x
    rw [lastOf_left, h.rl]⟩
theorem RB.start (z1 z2 c m : Int) (B : Nat) (h : 1 ≤ c ∧ c ≤ 64 ∧ 1 ≤ m ∧ m ≤ 256) : RB (rs0 z1 z2 c m) B :=
  ⟨⟨h.1, h.2.1⟩, h.2.2, fun h => (by cases h), by simp [rs0]; omega, by simp [rs0], fun x hx => by simp [rs0] at hx, fun x hx => by simp [rs0] at hx, fun h => (by cases h.1)⟩
theorem RB.begun {t : RS} {B : Nat} (h : RB t B) {kind round til : Int} (e : begErr t kind round = 0) : RB (begun t kind round til) B := by
  have h0 : (0 : Int) ≤ t.most := by have := h.mo; omega
  refine ⟨h.cl, h.mo, fun _ => ?_, h0, h.lr, fun x hx => absurd (show x ∈ ([] : Tk) from hx) (by simp), h.br, fun h => (by cases h.2)⟩
  show kind = 1 ∨ kind = 2
  unfold begErr at e
  by_cases h1 : kind = 1 ∨ kind = 2
  · exact h1
  · rw [if_pos h1] at e; cases e
theorem RB.taken {t : RS} {B : Nat} (h : RB t B) {c : Int} {l : List UInt8} (e : rsubErr t c l = 0) (hl : l.length ≤ B) : RB (rtaken t c l) B := by
  have he := rsub_open e
  refine ⟨h.cl, h.mo, h.kd, ?_, h.lr, fun x hx => ?_, h.br, h.ex⟩
  · show ((t.tk ++ [(c, l)]).length : Int) ≤ t.most
    simp; omega
  · have hx : x ∈ t.tk ++ [(c, l)] := hx
    rcases List.mem_append.1 hx with hx | hx
    · exact h.bt x hx
    · have : x = (c, l) := by simpa using hx
      subst this; exact hl
theorem RB.closed {t : RS} {B : Nat} (h : RB t B) : RB (rclosed t) B := ⟨h.cl, h.mo, fun h => (by cases h), h.lt, h.lr, h.bt, h.br, fun h => (by cases h.1)⟩
theorem RB.answered {t : RS} {B : Nat} (h : RB t B) {reps : List (List UInt8)} (e : ransErr t reps.length = 0) (hr : ∀ l ∈ reps, l.length ≤ B) : RB (ranswered t reps) B := by
  obtain ⟨h1, h2⟩ := rans_ok e
  have h3 := h.lt
  have h4 := h.mo
  refine ⟨h.cl, h.mo, h.kd, h.lt, ?_, h.bt, fun x hx => ?_, fun h => (by cases h.2)⟩
  · show ((t.tk.map (·.1)).zip reps).length ≤ 256
    simp; omega
  · have hx : x ∈ (t.tk.map (·.1)).zip reps := hx
    exact hr _ (List.of_mem_zip (a := x.1) (b := x.2) hx).2
theorem RB.collected {t : RS} {B : Nat} (h : RB t B) (c : Int) : RB (rcollected t c) B :=
  ⟨h.cl, h.mo, h.kd, h.lt, Nat.le_trans (List.length_filter_le _ _) h.lr, h.bt, fun x hx => h.br x (List.mem_filter.1 hx).1, h.ex⟩
end Go.Proofs.Ytjnoddbhfcpniaa
