/-
  EntryPlays: Tick, where the round is closed: what it leaves.
-/
import Derived.Test.YtjnoddbhfcpniaaStepC
namespace Go.Proofs.Ytjnoddbhfcpniaa
open Go.RowKit
open Go.BigFrame
set_option linter.unusedVariables false
set_option linter.unusedSimpArgs false

/-- the entry's Tick has closed the round: from w1 to wx -/
structure TickY (wx w1 : World) (I : Ids) (F F' G P : Nat → Prop) (s : ES) (t : RS) (m : Int) (Aw Ax : Option Addr) (cw cx : Nat) (xs : List Value) : Prop where
  M : PrM wx I F' G (More P w1 wx) (closed s) t m m
  fr : Frm P w1 wx
  who : wx.ownsRow w1.heap.size 3 1 (.slice Aw t.tk.length cw) t.tk.length ((t.tk.map (·.1)).map iv)
  row : wx.ownsRow 0 35 1 (.slice Ax t.tk.length cx) t.tk.length xs
  box : OwnRows wx xs (t.tk.map (·.2))
  inF : ∀ k, (oB (.slice Ax t.tk.length cx) k ∨ ∃ i, ∃ h : i < xs.length, oB xs[i] k) → F k ∧ ¬ F' k
  sub : ∀ k, F' k → F k
  old : ∀ k, (F' k ∨ G k ∨ k = I.bb ∨ k = I.ab ∨ k = I.lb ∨ k = I.xb) → P k
section
variable {w wx wy w1 : World} {I : Ids} {F F' G P : Nat → Prop} {s : ES} {t : RS} {m : Int} {Aw Ax : Option Addr} {cw cx : Nat} {xs : List Value} {g : Nat}
theorem TickY.start (h : PrM w I F G P s t m m) (hr : Rel s t) (hp : s.phase = 1) (hE : EntF wx I.eb I.fv (closed s) F') (hBO : BatchOut w wx F F' s.who s.boxes (.slice Aw s.who.length cw) (.slice Ax xs.length cx) xs) (f2 : Frm F w wx) :
    TickY wx w I F F' G P s t m Aw Ax cw cx xs := by
  obtain ⟨_, _, _, _, e5, _⟩ := hr.kd hp
  have ew := hr.wh (.inl hp)
  have lx : xs.length = t.tk.length := by rw [hBO.box.1, e5]; simp
  have lw : s.who.length = t.tk.length := by rw [ew]; simp
  have hw := hBO.wo_
  rw [lw, ew] at hw
  have hrw := hBO.row
  rw [lx] at hrw
  have hbx := hBO.box
  rw [e5] at hbx
  exact ⟨h.entry hE f2 fun k hk => .inl (hBO.sub k hk), f2.mono fun k _ hk => h.p k (.inl hk), hw, hrw, hbx, fun k hk => hBO.inF k (hk.imp (fun h => by rw [lx]; exact h) id), hBO.sub, fun k hk => h.p k (hk.imp (hBO.sub k) id)⟩
theorem TickY.more_ (h : TickY wx w1 I F F' G P s t m Aw Ax cw cx xs) (fa : Frm noB wx wy) (hP : ∀ k, P k → k < w1.heap.size) : TickY wy w1 I F F' G P s t m Aw Ax cw cx xs := by
  have s1 := h.fr.size
  have s2 := fa.size
  refine ⟨(h.M.frm' fa).more (fun k hk => More.up s2 k hk) (fun k hk => ?_), h.fr.trans' fa.any, own_frm' h.who fa, own_frm' h.row fa, h.box.frm fa (fun _ _ _ _ h => h), h.inF, h.sub, h.old⟩
  rcases hk with hk | hk
  · have := hP k hk; omega
  · exact hk.2
theorem TickY.setg (h : TickY wx w1 I F F' G P s t m Aw Ax cw cx xs) {cs : Array Value} (na : Blk wx g 39 cs) (fz : Frm (isB g) wx wy) (hg : w1.heap.size ≤ g) (hP : ∀ k, P k → k < w1.heap.size) : TickY wy w1 I F F' G P s t m Aw Ax cw cx xs := by
  have s1 := h.fr.size
  have s2 := fz.size
  have ng : ∀ {v : Value} {b e n : Nat} {ys : List Value}, wx.ownsRow b e 1 v n ys → e ≠ 39 → ∀ q, oB v q → ¬ isB g q := fun ho he q hq e => na.own_ne (own_base ho fun _ _ => Nat.zero_le _) he ((show q = g from e) ▸ hq)
  refine ⟨(h.M.frmE fz fun k hk e => by have := hP k (h.old k hk); have : k = g := e; omega).more (fun k hk => More.up s2 k hk) (fun k hk => ?_), h.fr.trans fz fun k hk e => by have : k = g := e; omega,
    own_frm h.who fz (ng h.who (by decide)), own_frm h.row fz (ng h.row (by decide)), h.box.frm fz fun i hi => ng (h.box.2.1 i hi (by have := h.box.1; omega)) (by decide), h.inF, h.sub, h.old⟩
  rcases hk with hk | hk
  · have := hP k hk; omega
  · exact hk.2
theorem TickY.pre_ (h : TickY wx w1 I F F' G P s t m Aw Ax cw cx xs) (fd : Frm noB w w1) (hP : ∀ k, P k → k < w.heap.size) : TickY wx w I F F' G P s t m Aw Ax cw cx xs := by
  have s0 := fd.size
  have s1 := h.fr.size
  refine ⟨h.M.more (fun k hk => ?_) (fun k hk => ?_), fd.any.trans' h.fr, own_base h.who fun q hq => Nat.le_trans s0 (own_lt h.who q hq).1, h.row, h.box, h.inF, h.sub, h.old⟩
  · rcases hk with hk | hk
    · exact .inl hk
    · exact .inr ⟨by omega, hk.2⟩
  · rcases hk with hk | hk
    · have := hP k hk; omega
    · exact hk.2
end
theorem RdRows.lt_ {w : World} {A : Option Addr} {xss : List (List UInt8)} {N : Nat → Prop} (h : RdRows w A xss N) : RdRows w A xss (fun k => N k ∧ k < w.heap.size) := by
  obtain ⟨vs, h1, h2, h3, h4⟩ := h
  refine ⟨vs, h1, h2, fun i hi hi' => ?_, fun e k hk => ⟨h4 e k hk, h1.lt (List.length_pos_iff.2 e) k hk⟩⟩
  obtain ⟨A', c, e, hc, hr, hn⟩ := h3 i hi hi'
  exact ⟨A', c, e, hc, hr, fun hne k hk => ⟨hn hne k hk, hr.lt (by simpa [List.length_pos_iff] using hne) k hk⟩⟩

/-- the document's Tick has closed the round: from w1 to wx -/
structure TickR (wx w1 : World) (base rb : Nat) (G : Nat → Prop) (t : RS) (Bw Bx : Option Addr) : Prop where
  ent : EntR wx rb (rclosed t) G
  fr : Frm (isB rb) w1 wx
  rw1 : Rd wx Bw ((t.tk.map (·.1)).map iv)
  rx1 : RdRows wx Bx (t.tk.map (·.2)) (fun k => base ≤ k ∧ k < wx.heap.size)
  aw : (t.tk.map (·.1)).map iv ≠ [] → ∀ k, aB Bw k → base ≤ k ∧ k < wx.heap.size
theorem TickR.start {w wx : World} {rb : Nat} {G : Nat → Prop} {t : RS} {Bw Bx : Option Addr} (hE : EntR wx rb (rclosed t) G) (hf : Frm (isB rb) w wx) (h1 : Rd wx Bw ((t.tk.map (·.1)).map iv)) (h2 : ∀ k, aB Bw k → w.heap.size ≤ k) (h3 : RdRows wx Bx (t.tk.map (·.2)) (fun k => w.heap.size ≤ k)) : TickR wx w w.heap.size rb G t Bw Bx :=
  ⟨hE, hf, h1, h3.lt_, fun hne k hk => ⟨h2 k hk, h1.lt (List.length_pos_iff.2 hne) k hk⟩⟩
theorem TickR.pre_ {w w1 wx : World} {base rb : Nat} {G : Nat → Prop} {t : RS} {Bw Bx : Option Addr} (h : TickR wx w1 base rb G t Bw Bx) (hf : Frm noB w w1) : TickR wx w base rb G t Bw Bx :=
  ⟨h.ent, hf.any.trans' h.fr, h.rw1, h.rx1, h.aw⟩
theorem TickR.frmS {w1 wx wy : World} {base rb : Nat} {G S : Nat → Prop} {t : RS} {Bw Bx : Option Addr} (h : TickR wx w1 base rb G t Bw Bx) (hf : Frm S wx wy) (hS : ∀ k, (G k ∨ base ≤ k ∧ k < wx.heap.size) → ¬ S k) (hS1 : ∀ k, k < w1.heap.size → ¬ S k) : TickR wy w1 base rb G t Bw Bx := by
  have sz := hf.size
  exact ⟨h.ent.frm hf fun k hk => hS k (.inl hk), h.fr.trans hf fun k hk e => absurd e (hS1 k hk), h.rw1.frmN hf fun hne k hk => hS k (.inr (h.aw hne k hk)), (h.rx1.frm hf fun k hk => hS k (.inr hk)).mono fun k hk => ⟨hk.1, by omega⟩, fun hne k hk => by have := h.aw hne k hk; omega⟩
end Go.Proofs.Ytjnoddbhfcpniaa
