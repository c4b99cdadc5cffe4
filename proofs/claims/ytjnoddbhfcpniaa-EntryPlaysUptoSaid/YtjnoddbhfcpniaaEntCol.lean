/-
  Collect.
-/
import Derived.Test.YtjnoddbhfcpniaaEntTick
namespace Go.Proofs.Ytjnoddbhfcpniaa
open Go.RowKit
set_option linter.unusedVariables false
set_option linter.unusedSimpArgs false

def collected (s : ES) (c : Int) : ES := { s with replies := fun x => if c = x then none else s.replies x }
theorem zero_bytes : ∀ w, (zeroValue 35).run Try.prog w = .ok (.slice none 0 0) w := fun w => by kernel_rfl
section
variable {w : World} {b : Nat} {F : Nat → Prop} {fv : Value} {s : ES} {ma mr : Nat} {wv xv : Value} {xs : List Value} {rv : List (Int × Value)}

theorem col_no (h : IsE w b F fv s ma mr wv xv xs rv) (client : Int) (hc : client < 0 ∨ s.clients ≤ client) :
    Calls Try.prog 21 #[.pointer (some ⟨b, 0, none⟩), .int .i64 client] w fun e w' => e = .returned (.tuple #[.slice none 0 0, .bool false, .int .i64 292]) ∧ Frm noB w w' := by
  have H := Lib.hid h
  clear h
  go_enter Try.func21, Try.ntmps21
  go_wp2_with (go_at_call 30; refine (there_no b _ s.clients client w H.out.blk rfl hc).mono ?_; rintro e w' ⟨rfl, rfl⟩)
  go_ret3
  exact ⟨rfl, Frm.refl _ _⟩

/-- what Collect leaves -/
theorem col_end (H : IsE w b F fv s ma mr wv xv xs rv) {w1 : World} {client : Int} (f : Frm (isB mr) w w1) (m : IMap w1 mr (mdel rv client)) :
    IsE w1 b (fun k => F k ∧ ∀ v, mget rv client = some v → ¬ oB v k) fv (collected s client) ma mr wv xv xs (mdel rv client) ∧ Frm F w w1 := by
  have P := H.sep
  have hd := mget_mdel H.rpl.nd client
  have hsome : ∀ x v, mget (mdel rv client) x = some v → client ≠ x ∧ mget rv x = some v := fun x v h => by
    rw [hd] at h
    split at h
    · cases h
    · rename_i e; exact ⟨e, h⟩
  refine ⟨⟨H.blk.frm f P.b2, H.ask.frm f P.m1, m, own_frm H.own f fun k hk => (P.w1 k hk).2.2.1, own_frm H.row f fun k hk => (P.x1 k hk).2.2.1, H.box.frm f fun i hi k hk => (P.i1 i hi k hk).2.2.1,
    ⟨mdel_nodup H.rpl.nd client, fun x => ?_, fun x y v u k hxy hx hy => H.rpl.ap x y v u k hxy (hsome x v hx).2 (hsome y u hy).2⟩, ⟨H.fb, fun v hv h => (P.r1 client v b hv h).1 rfl⟩, ⟨H.fa, fun v hv h => (P.r1 client v ma hv h).2.1 rfl⟩, ⟨H.fr, fun v hv h => (P.r1 client v mr hv h).2.2.1 rfl⟩,
    fun k hk => ⟨H.fw k hk, fun v hv h => (P.r1 client v k hv h).2.2.2.1 hk⟩, fun k hk => ⟨H.fx k hk, fun v hv h => (P.r1 client v k hv h).2.2.2.2 hk⟩, fun i hi k hk => ⟨H.fi i hi k hk, fun v hv h => H.rb client v i hi k hv h hk⟩,
    fun x v k hx hk => ⟨H.fp x v k (hsome x v hx).2 hk, fun v' hv' h => H.rpl.ap x client v v' k (fun e => (hsome x v hx).1 e.symm) (hsome x v hx).2 hv' hk h⟩, fun x v j hj k hx hk => H.rb x v j hj k (hsome x v hx).2 hk,
    H.ne, fun k hk => by have := H.lt k hk.1; have := f.size; omega, H.cl, H.mo, H.ph, H.ln, H.lx⟩, f.mono fun k _ h => (show k = mr from h) ▸ H.fr⟩
  simp only [collected, hd]
  by_cases e : client = x
  · exact .inl ⟨by rw [if_pos e], by rw [if_pos e]⟩
  · rw [if_neg e, if_neg e]
    exact (H.rpl.at_ x).imp id fun ⟨v, l, h1, h2, h3⟩ => ⟨v, l, h1, h2, own_frm h3 f fun k hk => (P.r1 x v k h1 hk).2.2.1⟩

set_option maxHeartbeats 400000 in
theorem col_ok (h : IsE w b F fv s ma mr wv xv xs rv) (client : Int) (hc : 0 ≤ client ∧ client < s.clients) :
    Calls Try.prog 21 #[.pointer (some ⟨b, 0, none⟩), .int .i64 client] w fun e w' => e = .returned (.tuple #[(mget rv client).getD (.slice none 0 0), .bool (mget rv client).isSome, .int .i64 0]) ∧
      IsE w' b (fun k => F k ∧ ∀ v, mget rv client = some v → ¬ oB v k) fv (collected s client) ma mr wv xv xs (mdel rv client) ∧ Frm F w w' ∧ Frm (isB mr) w w' := by
  have cx := h.blk.cell 11
  have hlk := run_lookup_int Try.underlying76 Try.underlying3 zero_bytes h.rep client
  simp at cx
  have H := Lib.hid h
  clear h
  generalize (mget rv client).getD (Value.slice none 0 0) = v0 at hlk ⊢
  generalize (mget rv client).isSome = b0 at hlk ⊢
  go_enter Try.func21, Try.ntmps21
  go_wp2_with (first | (go_at_call 30; refine (there_any b _ s.clients client w H.out.blk rfl hc).mono ?_; rintro e w' ⟨rfl, rfl⟩) | ((with_reducible refine mapDel Try.underlying76 Try.underlying3 rfl H.out.rep _ _ rfl rfl rfl ?_); intro w3 m3 f3; have HM3 := Lib.hid m3; have HF3 := Lib.hid f3; clear m3 f3 hlk cx))
  go_ret3
  have := col_end H.out HF3.out HM3.out
  exact ⟨rfl, this.1, this.2, HF3.out⟩
end
end Go.Proofs.Ytjnoddbhfcpniaa
