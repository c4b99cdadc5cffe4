/-
  Submit, call by call.
-/
import Derived.Test.YtjnoddbhfcpniaaEnt
namespace Go.Proofs.Ytjnoddbhfcpniaa
open Go.RowKit
set_option linter.unusedVariables false
set_option linter.unusedSimpArgs false

theorem zero_int : ∀ w, (zeroValue 3).run Try.prog w = .ok (.int .i64 0) w := fun w => by kernel_rfl
def SubNo (w : World) (n : Int) : Ending → World → Prop := fun e w' => e = .returned (.int .i64 n) ∧ Frm noB w w'

section
variable {w : World} {b : Nat} {F : Nat → Prop} {fv : Value} {s : ES} {ma mr : Nat} {wv xv : Value} {xs : List Value} {rv : List (Int × Value)}

set_option maxHeartbeats 400000 in
theorem sub_client (h : IsE w b F fv s ma mr wv xv xs rv) (client : Int) (A : Option Addr) (n c : Nat) (hc : client < 0 ∨ s.clients ≤ client) :
    Calls Try.prog 13 #[.pointer (some ⟨b, 0, none⟩), .int .i64 client, .slice A n c] w (SubNo w 292) := by
  have c8 := h.blk.cell 8
  have hlk := run_lookup_int Try.underlying75 Try.underlying3 zero_int h.ask client
  simp at c8
  have H := Lib.hid h
  clear h
  generalize (mget s.asked client).getD (Value.int .i64 0) = v0 at hlk
  generalize (mget s.asked client).isSome = b0 at hlk
  go_enter Try.func13, Try.ntmps13
  go_wp2_with (go_at_call 30; refine (there_no b _ s.clients client w H.out.blk rfl hc).mono ?_; rintro e w' ⟨rfl, rfl⟩)
  go_ret
  exact ⟨rfl, Frm.refl _ _⟩

set_option maxHeartbeats 400000 in
theorem sub_late (h : IsE w b F fv s ma mr wv xv xs rv) (client : Int) (A : Option Addr) (n c : Nat) (hc : 0 ≤ client ∧ client < s.clients) (hp : s.phase ≠ 1) :
    Calls Try.prog 13 #[.pointer (some ⟨b, 0, none⟩), .int .i64 client, .slice A n c] w (SubNo w 290) := by
  have c8 := h.blk.cell 8
  have c3 := h.blk.cell 3
  have hlk := run_lookup_int Try.underlying75 Try.underlying3 zero_int h.ask client
  simp at c8 c3
  have H := Lib.hid h
  clear h
  generalize (mget s.asked client).getD (Value.int .i64 0) = v0 at hlk
  generalize (mget s.asked client).isSome = b0 at hlk
  have hp' : (s.phase != 1) = true := by simpa using hp
  go_enter Try.func13, Try.ntmps13
  go_wp2_with (go_at_call 30; refine (there_any b _ s.clients client w H.out.blk rfl hc).mono ?_; rintro e w' ⟨rfl, rfl⟩)
  go_ret
  exact ⟨rfl, Frm.refl _ _⟩

set_option maxHeartbeats 400000 in
theorem sub_twice (h : IsE w b F fv s ma mr wv xv xs rv) (client : Int) (A : Option Addr) (n c : Nat) (hc : 0 ≤ client ∧ client < s.clients) (hp : s.phase = 1) (ht : (mget s.asked client).isSome = true) :
    Calls Try.prog 13 #[.pointer (some ⟨b, 0, none⟩), .int .i64 client, .slice A n c] w (SubNo w 291) := by
  have c8 := h.blk.cell 8
  have c3 := h.blk.cell 3
  have hlk := run_lookup_int Try.underlying75 Try.underlying3 zero_int h.ask client
  simp [hp] at c8 c3
  rw [ht] at hlk
  have H := Lib.hid h
  clear h hp ht
  generalize (mget s.asked client).getD (Value.int .i64 0) = v0 at hlk
  go_enter Try.func13, Try.ntmps13
  go_wp2_with (go_at_call 30; refine (there_any b _ s.clients client w H.out.blk rfl hc).mono ?_; rintro e w' ⟨rfl, rfl⟩)
  go_ret
  exact ⟨rfl, Frm.refl _ _⟩

set_option maxHeartbeats 400000 in
theorem sub_length (h : IsE w b F fv s ma mr wv xv xs rv) (client : Int) (A : Option Addr) (n c : Nat) (hc : 0 ≤ client ∧ client < s.clients) (hp : s.phase = 1) (ht : (mget s.asked client).isSome = false) (hn : (n : Int) ≠ s.length) :
    Calls Try.prog 13 #[.pointer (some ⟨b, 0, none⟩), .int .i64 client, .slice A n c] w (SubNo w 4) := by
  have c8 := h.blk.cell 8
  have c3 := h.blk.cell 3
  have c5 := h.blk.cell 5
  have hlk := run_lookup_int Try.underlying75 Try.underlying3 zero_int h.ask client
  simp [hp] at c8 c3 c5
  rw [ht] at hlk
  have hn' : ((n : Int) != s.length) = true := by simpa using hn
  have H := Lib.hid h
  clear h hp ht hn
  generalize (mget s.asked client).getD (Value.int .i64 0) = v0 at hlk
  go_enter Try.func13, Try.ntmps13
  go_wp2_with (go_at_call 30; refine (there_any b _ s.clients client w H.out.blk rfl hc).mono ?_; rintro e w' ⟨rfl, rfl⟩)
  go_ret
  exact ⟨rfl, Frm.refl _ _⟩

set_option maxHeartbeats 400000 in
theorem sub_batch (h : IsE w b F fv s ma mr wv xv xs rv) (client : Int) (A : Option Addr) (n c : Nat) (hc : 0 ≤ client ∧ client < s.clients) (hp : s.phase = 1) (ht : (mget s.asked client).isSome = false) (hn : (n : Int) = s.length) (hm : s.most ≤ s.who.length) :
    Calls Try.prog 13 #[.pointer (some ⟨b, 0, none⟩), .int .i64 client, .slice A n c] w (SubNo w 252) := by
  obtain ⟨Aw, cw, rfl, hcw⟩ := own_slice h.own
  have c8 := h.blk.cell 8
  have c3 := h.blk.cell 3
  have c5 := h.blk.cell 5
  have c9 := h.blk.cell 9
  have c2 := h.blk.cell 2
  have hlk := run_lookup_int Try.underlying75 Try.underlying3 zero_int h.ask client
  simp [hp] at c8 c3 c5 c9 c2
  rw [ht] at hlk
  have hn' : ((n : Int) != s.length) = false := by simpa using hn
  have H := Lib.hid h
  clear h hp ht hn
  generalize (mget s.asked client).getD (Value.int .i64 0) = v0 at hlk
  go_enter Try.func13, Try.ntmps13
  go_wp2_with (go_at_call 30; refine (there_any b _ s.clients client w H.out.blk rfl hc).mono ?_; rintro e w' ⟨rfl, rfl⟩)
  go_quiet (fail)
  go_wp2
  go_ret
  exact ⟨rfl, Frm.of_drewN _ _ _⟩
end
end Go.Proofs.Ytjnoddbhfcpniaa
