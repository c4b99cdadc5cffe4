/-
  The entry's state, how it lies in memory; 'there', 'twin', 'New'.
-/
import Derived.Test.YtjnoddbhfcpniaaRef
import Derived.Test.YtjnoddbhfcpniaaBlk
namespace Go.Proofs.Ytjnoddbhfcpniaa
open Go.RowKit
set_option linter.unusedVariables false
set_option linter.unusedSimpArgs false

/-- a list of lists of bytes, each in a row of its own, all apart -/
def OwnRows (w : World) (vs : List Value) (xss : List (List UInt8)) : Prop :=
  vs.length = xss.length ∧ (∀ i (h : i < vs.length) (h' : i < xss.length), w.ownsRow 0 5 1 vs[i] xss[i].length (xss[i].map bv)) ∧
  ∀ i j (h : i < vs.length) (h' : j < vs.length) k, i ≠ j → oB vs[i] k → ¬ oB vs[j] k
/-- the map of replies -/
structure OwnMap (w : World) (rv : List (Int × Value)) (rs : Int → Option (List UInt8)) : Prop where
  nd : (rv.map (·.1)).Nodup
  at_ : ∀ x, (mget rv x = none ∧ rs x = none) ∨ ∃ v l, mget rv x = some v ∧ rs x = some l ∧ w.ownsRow 0 5 1 v l.length (l.map bv)
  ap : ∀ x y v u k, x ≠ y → mget rv x = some v → mget rv y = some u → oB v k → ¬ oB u k

/-- what an entry knows -/
structure ES where
  clients : Int
  most : Int
  phase : Int
  kind : Int
  length : Int
  round : Int
  til : Int
  asked : List (Int × Value)
  who : List Int
  boxes : List (List UInt8)
  replies : Int → Option (List UInt8)

/-- block b is an entry in that state; F: all blocks that it writes to -/
structure IsE (w : World) (b : Nat) (F : Nat → Prop) (fv : Value) (s : ES) (ma mr : Nat) (wv xv : Value) (xs : List Value) (rv : List (Int × Value)) : Prop where
  blk : Blk w b 78 #[fv, .int .i64 s.clients, .int .i64 s.most, .int .i64 s.phase, .int .i64 s.kind, .int .i64 s.length, .int .u64 s.round, .int .i64 s.til, .map (some ma), wv, xv, .map (some mr)]
  ask : IMap w ma s.asked
  rep : IMap w mr rv
  own : w.ownsRow 0 3 1 wv s.who.length (s.who.map iv)
  row : w.ownsRow 0 35 1 xv xs.length xs
  box : OwnRows w xs s.boxes
  rpl : OwnMap w rv s.replies
  fb : F b
  fa : F ma
  fr : F mr
  fw : ∀ k, oB wv k → F k
  fx : ∀ k, oB xv k → F k
  fi : ∀ i (h : i < xs.length) k, oB xs[i] k → F k
  fp : ∀ x v k, mget rv x = some v → oB v k → F k
  rb : ∀ x v j (h' : j < xs.length) k, mget rv x = some v → oB v k → ¬ oB xs[j] k
  ne : ma ≠ mr
  lt : ∀ k, F k → k < w.heap.size
  cl : 1 ≤ s.clients ∧ s.clients ≤ 64
  mo : 1 ≤ s.most ∧ s.most ≤ 256
  ph : s.phase = 0 ∨ s.phase = 1 ∨ s.phase = 2
  ln : (s.who.length : Int) ≤ s.most
  lx : s.boxes.length ≤ s.who.length

theorem OwnRows.frm {S : Nat → Prop} {w w' : World} {vs : List Value} {xss : List (List UInt8)} (h : OwnRows w vs xss) (hf : Frm S w w') (hS : ∀ i (h : i < vs.length) k, oB vs[i] k → ¬ S k) : OwnRows w' vs xss :=
  ⟨h.1, fun i hi hi' => own_frm (h.2.1 i hi hi') hf (hS i hi), h.2.2⟩
theorem OwnMap.frm {S : Nat → Prop} {w w' : World} {rv : List (Int × Value)} {rs : Int → Option (List UInt8)} (h : OwnMap w rv rs) (hf : Frm S w w') (hS : ∀ x v k, mget rv x = some v → oB v k → ¬ S k) : OwnMap w' rv rs :=
  ⟨h.nd, fun x => (h.at_ x).imp id fun ⟨v, l, h1, h2, h3⟩ => ⟨v, l, h1, h2, own_frm h3 hf fun k hk => hS x v k h1 hk⟩, h.ap⟩
theorem IsE.frm {S : Nat → Prop} {w w' : World} {b : Nat} {F : Nat → Prop} {fv : Value} {s : ES} {ma mr : Nat} {wv xv : Value} {xs : List Value} {rv : List (Int × Value)} (h : IsE w b F fv s ma mr wv xv xs rv) (hf : Frm S w w') (hS : ∀ k, F k → ¬ S k) :
    IsE w' b F fv s ma mr wv xv xs rv :=
  ⟨h.blk.frm hf (hS _ h.fb), h.ask.frm hf (hS _ h.fa), h.rep.frm hf (hS _ h.fr), own_frm h.own hf fun k hk => hS _ (h.fw k hk), own_frm h.row hf fun k hk => hS _ (h.fx k hk), h.box.frm hf fun i hi k hk => hS _ (h.fi i hi k hk), h.rpl.frm hf fun x v k hx hk => hS _ (h.fp x v k hx hk),
    h.fb, h.fa, h.fr, h.fw, h.fx, h.fi, h.fp, h.rb, h.ne, fun k hk => Nat.lt_of_lt_of_le (h.lt k hk) hf.size, h.cl, h.mo, h.ph, h.ln, h.lx⟩
theorem IsE.frm' {w w' : World} {b : Nat} {F : Nat → Prop} {fv : Value} {s : ES} {ma mr : Nat} {wv xv : Value} {xs : List Value} {rv : List (Int × Value)} (h : IsE w b F fv s ma mr wv xv xs rv) (hf : Frm noB w w') :
    IsE w' b F fv s ma mr wv xv xs rv := h.frm hf fun _ _ h => h

/-- the footprint has grown by new blocks alone -/
def Grow (F F' : Nat → Prop) (w w' : World) : Prop := ∀ k, F' k → F k ∨ w.heap.size ≤ k ∧ k < w'.heap.size

theorem there_any (b : Nat) (cs : Array Value) (c client : Int) (w : World) (hb : Blk w b 78 cs) (hc : cs[1]? = some (.int .i64 c)) (h : 0 ≤ client ∧ client < c) :
    Calls Try.prog 30 #[.pointer (some ⟨b, 0, none⟩), .int .i64 client] w fun e w' => e = .returned (.bool true) ∧ w = w' := by
  have c1 := (hb.cell 1).trans hc
  obtain ⟨h1, h2⟩ := h
  go_enter Try.func30, Try.ntmps30
  go_wp2
  go_ret
  simp
theorem there_no (b : Nat) (cs : Array Value) (c client : Int) (w : World) (hb : Blk w b 78 cs) (hc : cs[1]? = some (.int .i64 c)) (h : client < 0 ∨ c ≤ client) :
    Calls Try.prog 30 #[.pointer (some ⟨b, 0, none⟩), .int .i64 client] w fun e w' => e = .returned (.bool false) ∧ w = w' := by
  have c1 := (hb.cell 1).trans hc
  by_cases h1 : client < 0
  · go_enter Try.func30, Try.ntmps30
    go_wp2
    go_ret
    simp
  · have h2 : c ≤ client := by omega
    go_enter Try.func30, Try.ntmps30
    go_wp2
    go_ret
    exact ⟨ret_bool (by simp; omega), rfl⟩

theorem twin_any (A : Option Addr) (xs : List UInt8) (c : Nat) (w : World) (hx : Rd w A (xs.map bv)) (h1 : Len xs.length) :
    Calls Try.prog 31 #[.slice A xs.length c] w fun e w' => ∃ v, e = .returned v ∧ w'.ownsRow w.heap.size 5 1 v xs.length (xs.map bv) ∧ Frm noB w w' := by
  have h1 := h1.le
  go_enter Try.func31, Try.ntmps31
  go_wp2_with (at_builtin; refine app info35 rfl w.heap.size (World.ownsRow_nil w w.heap.size 5 1) _ _ rfl rfl (news := xs.map bv) rfl (by simp) hx (bv_one xs) (by omega) (by omega) (Nat.le_refl _) ?_; intro A' c' w' hown' hcc hf' hv')
  go_ret
  refine ⟨_, rfl, by simpa using hown', hf'.mono fun k _ hk => by simp [oB, Value.ownBlock] at hk⟩

/-- New, where it is refused -/
theorem new_no (fv : Value) (c m : Int) (w : World) (h : c < 1 ∨ 64 < c ∨ m < 1 ∨ 256 < m) :
    Calls Try.prog 10 #[fv, .int .i64 c, .int .i64 m] w fun e w' => e = .returned (.tuple #[.pointer none, .int .i64 2]) ∧ w' = w := by
  have key : ∀ (b1 b2 b3 b4 : Bool), decide (c < 1) = b1 → decide (64 < c) = b2 → decide (m < 1) = b3 → decide (256 < m) = b4 → (b1 || b2 || b3 || b4) = true →
    Calls Try.prog 10 #[fv, .int .i64 c, .int .i64 m] w fun e w' => e = .returned (.tuple #[.pointer none, .int .i64 2]) ∧ w' = w := by
    intro b1 b2 b3 b4 h1 h2 h3 h4 hh
    cases b1
    · cases b2
      · cases b3
        · cases b4
          · cases hh
          · go_enter Try.func10, Try.ntmps10
            go_wp2
            go_ret2
            simp
        · go_enter Try.func10, Try.ntmps10
          go_wp2
          go_ret2
          simp
      · go_enter Try.func10, Try.ntmps10
        go_wp2
        go_ret2
        simp
    · go_enter Try.func10, Try.ntmps10
      go_wp2
      go_ret2
      simp
  exact key _ _ _ _ rfl rfl rfl rfl (by simp; omega)

def es0 (c m : Int) : ES := { clients := c, most := m, phase := 0, kind := 0, length := 0, round := 0, til := 0, asked := [], who := [], boxes := [], replies := fun _ => none }
theorem new_state (w : World) (fv : Value) (c m : Int) (h : 1 ≤ c ∧ c ≤ 64 ∧ 1 ≤ m ∧ m ≤ 256) (w' : World)
    (hw : w' = ((w.alloc (.map #[] 0)).alloc (.map #[] 0)).alloc (.cells #[fv, .int .i64 c, .int .i64 m, .int .i64 0, .int .i64 0, .int .i64 0, .int .u64 0, .int .i64 0, .map (some w.heap.size), .slice none 0 0, .slice none 0 0, .map (some (w.heap.size + 1))] 78)) :
    IsE w' (w.heap.size + 1 + 1) (fun k => w.heap.size ≤ k ∧ k < w'.heap.size) fv (es0 c m) w.heap.size (w.heap.size + 1) (.slice none 0 0) (.slice none 0 0) [] [] ∧ Frm noB w w' := by
  have s1 : (w.alloc (.map #[] 0)).heap.size = w.heap.size + 1 := by simp
  have s2 : ((w.alloc (.map #[] 0)).alloc (.map #[] 0)).heap.size = w.heap.size + 1 + 1 := by simp
  have s3 : w'.heap.size = w.heap.size + 1 + 1 + 1 := by rw [hw]; simp
  have f3 : Frm noB ((w.alloc (.map #[] 0)).alloc (.map #[] 0)) w' := by rw [hw]; exact (Frm.refl _ _).alloc _
  have f2 : Frm noB (w.alloc (.map #[] 0)) w' := ((Frm.refl _ _).alloc _).trans' f3
  have f1 : Frm noB w w' := ((Frm.refl _ _).alloc _).trans' f2
  refine ⟨⟨?_, ?_, ?_, World.ownsRow_nil _ _ _ _, World.ownsRow_nil _ _ _ _, ⟨rfl, fun i h => absurd h (by simp), fun i j h => absurd h (by simp)⟩, ⟨by simp, fun x => .inl ⟨rfl, rfl⟩, fun x y v u k _ h => by simp [mget_nil] at h⟩,
    ⟨by omega, by omega⟩, ⟨by omega, by omega⟩, ⟨by omega, by omega⟩, fun k hk => by simp [oB, Value.ownBlock] at hk, fun k hk => by simp [oB, Value.ownBlock] at hk, fun i h => absurd h (by simp), fun x v k h => by simp [mget_nil] at h, fun x v j h => absurd h (by simp), by omega, fun k hk => hk.2, ⟨h.1, h.2.1⟩, h.2.2, .inl rfl, by simp [es0]; omega, by simp [es0]⟩, f1⟩
  · have := Blk.new ((w.alloc (.map #[] 0)).alloc (.map #[] 0)) 78 #[fv, .int .i64 c, .int .i64 m, .int .i64 0, .int .i64 0, .int .i64 0, .int .u64 0, .int .i64 0, .map (some w.heap.size), .slice none 0 0, .slice none 0 0, .map (some (w.heap.size + 1))]
    rw [s2, ← hw] at this
    exact this
  · exact (IMap.new w).frm f2 fun h => h
  · have := IMap.new (w.alloc (.map #[] 0))
    rw [s1] at this
    exact this.frm f3 fun h => h
theorem new_yes (fn : Fn) (fc : Array Value) (c m : Int) (w : World) (h : 1 ≤ c ∧ c ≤ 64 ∧ 1 ≤ m ∧ m ≤ 256) :
    Calls Try.prog 10 #[.func fn #[] fc, .int .i64 c, .int .i64 m] w fun e w' => ∃ b ma mr, e = .returned (.tuple #[.pointer (some ⟨b, 0, none⟩), .int .i64 0]) ∧
      IsE w' b (fun k => w.heap.size ≤ k ∧ k < w'.heap.size) (.func fn #[] fc) (es0 c m) ma mr (.slice none 0 0) (.slice none 0 0) [] [] ∧ Frm noB w w' := by
  obtain ⟨h1, h2, h3, h4⟩ := h
  have hmm := @run_makeMap Try.prog
  go_enter Try.func10, Try.ntmps10
  go_wp2
  go_ret2
  have h := new_state w (.func fn #[] fc) c m ⟨h1, h2, h3, h4⟩ _ rfl
  exact ⟨_, _, _, rfl, h.1, h.2⟩
end Go.Proofs.Ytjnoddbhfcpniaa
