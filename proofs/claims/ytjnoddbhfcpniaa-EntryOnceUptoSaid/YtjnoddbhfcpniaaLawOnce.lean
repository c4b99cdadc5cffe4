/-
  EntryOnce: the walk.
-/
import Derived.Test.YtjnoddbhfcpniaaOnceR
import Derived.Deep.RegionHeld3
import Derived.Deep.DeepCutAuto
namespace Go.Proofs.Ytjnoddbhfcpniaa
open Go.RowKit
set_option linter.unusedVariables false
set_option linter.unusedSimpArgs false

/-- the law's own rows -/
def onN (wv xv : Value) : Nat → Prop := fun k => oB wv k ∨ oB xv k
/-- when k have come: the entry, and what the law keeps -/
structure OnW (w0 w : World) (b : Nat) (fv : Value) (l : Coms) (most kind round : Int) (k : Nat) (s : ES) (wv xv : Value) (bs : List Value) : Prop where
  ons : OnS l most kind round k s
  ent : Ent0 w0 w b fv s (onN wv xv)
  who : w.ownsRow w0.heap.size 3 1 wv s.who.length (s.who.map iv)
  row : w.ownsRow w0.heap.size 35 1 xv bs.length bs
  bl : bs.length = s.boxes.length
  box : ∀ i (h : i < bs.length) (h' : i < s.boxes.length), ∃ A c, bs[i] = .slice A s.boxes[i].length c ∧ Rd w A (s.boxes[i].map bv) ∧ (s.boxes[i] ≠ [] → ∀ k, aB A k → k < w0.heap.size)
theorem OnW.lt {w0 w : World} {b : Nat} {fv : Value} {l : Coms} {most kind round : Int} {k : Nat} {s : ES} {wv xv : Value} {bs : List Value} (h : OnW w0 w b fv l most kind round k s wv xv bs) : ∀ k, onN wv xv k → w0.heap.size ≤ k ∧ k < w.heap.size := fun k hk => by
  rcases hk with hk | hk
  · exact own_lt h.who k hk
  · exact own_lt h.row k hk

section
variable {w0 wr w9 wA wB : World} {b : Nat} {fv : Value} {l : Coms} {most kind round : Int} {k : Nat} {s : ES} {wv xv : Value} {bs : List Value}
theorem OnS.whoNil {l : Coms} {most kind round : Int} {s : ES} (h : OnS l most kind round 0 s) : s.who = [] := by
  rcases hw : s.who with _ | ⟨c, t⟩
  · rfl
  · obtain ⟨_, _, j, _, hj, _⟩ := h.frm c (by rw [hw]; simp)
    omega
theorem Ent0.ln256 {N : Nat → Prop} (h : Ent0 w0 wr b fv s N) : (s.who.length : Int) ≤ s.most ∧ s.most ≤ 256 := by
  obtain ⟨F, h1, _⟩ := h
  exact h1.ln
theorem OnW.boxes_ {w' : World} (h : OnW w0 wr b fv l most kind round k s wv xv bs) (T : Frm (fun k => w0.heap.size ≤ k) wr w') :
    ∀ i (h : i < bs.length) (h' : i < s.boxes.length), ∃ A c, bs[i] = .slice A s.boxes[i].length c ∧ Rd w' A (s.boxes[i].map bv) ∧ (s.boxes[i] ≠ [] → ∀ k, aB A k → k < w0.heap.size) := fun i hi hi' => by
  obtain ⟨A, c, e, hr, hn⟩ := h.box i hi hi'
  exact ⟨A, c, e, hr.frmN T fun hne q hq h => by have := hn (by intro e; apply hne; rw [e]; rfl) q hq; omega, hn⟩
theorem OnW.skip (h : OnW w0 wr b fv l most kind round k s wv xv bs) (hk : k < l.length) (hn : subErr s l[k].1 l[k].2 ≠ 0) (hE : Ent0 w0 w9 b fv (subTo s l[k].1 l[k].2) (onN wv xv)) (hf : Frm (nN w0 (onN wv xv)) wr w9) : OnW w0 w9 b fv l most kind round (k + 1) s wv xv bs := by
  have e : subTo s l[k].1 l[k].2 = s := if_neg hn
  have hO := h.ons.next hk
  rw [e] at hE hO
  exact ⟨hO, hE, own_frm h.who hf fun q hq hn => hn.2 (.inl hq), own_frm h.row hf fun q hq hn => hn.2 (.inr hq), h.bl, h.boxes_ (hf.mono fun q _ hq => hq.1)⟩
theorem OnW.take_ (h : OnW w0 wr b fv l most kind round k s wv xv bs) (hk : k < l.length) (e0 : subErr s l[k].1 l[k].2 = 0) (hE : Ent0 w0 w9 b fv (subTo s l[k].1 l[k].2) (onN wv xv)) (hf : Frm (nN w0 (onN wv xv)) wr w9)
    {wv' xv' : Value} {Ai : Option Addr} {ci : Nat} (hri : Rd wr Ai (l[k].2.map bv)) (hni : l[k].2 ≠ [] → ∀ q, aB Ai q → q < w0.heap.size)
    (fA : Frm (oB wv) w9 wA) (oA : wA.ownsRow w0.heap.size 3 1 wv' (s.who.length + 1) (s.who.map iv ++ [iv l[k].1])) (vA : ∀ q, oB wv' q → oB wv q ∨ w9.heap.size ≤ q)
    (fB : Frm (oB xv) wA wB) (o_B : wB.ownsRow w0.heap.size 35 1 xv' (bs.length + 1) (bs ++ [.slice Ai l[k].2.length ci])) (vB : ∀ q, oB xv' q → oB xv q ∨ wA.heap.size ≤ q) :
    OnW w0 wB b fv l most kind round (k + 1) (subTo s l[k].1 l[k].2) wv' xv' (bs ++ [.slice Ai l[k].2.length ci]) := by
  have hO := h.ons.next hk
  have e : subTo s l[k].1 l[k].2 = taken s l[k].1 l[k].2 := if_pos e0
  have w9who := own_frm h.who hf fun q hq hn => hn.2 (.inl hq)
  have w9row := own_frm h.row hf fun q hq hn => hn.2 (.inr hq)
  have wArow := own_frm w9row fA fun q hq hn => own_own_ne w9row w9who (by decide) hq hn
  have hs := hE.size
  have hsA := fA.size
  have geN : ∀ q, onN wv xv q → w0.heap.size ≤ q := fun q hq => (h.lt q hq).1
  have T : Frm (fun k => w0.heap.size ≤ k) wr wB := ((hf.mono fun q _ hq => hq.1).trans' (fA.mono fun q _ hq => geN q (.inl hq))).trans' (fB.mono fun q _ hq => geN q (.inr hq))
  have E1 := (hE.more (M := fun q => onN wv xv q ∨ oB wv' q) fun q hq => by
    rcases hq with hq | hq
    · exact .inl hq
    · rcases vA q hq with hq | hq
      · exact .inl (.inl hq)
      · exact .inr (.inl hq)).put (fA.mono fun q _ hq => .inl (.inl hq)) fun q hq => by
    rcases hq with hq | hq
    · exact geN q hq
    · rcases vA q hq with hq | hq
      · exact geN q (.inl hq)
      · omega
  have E2 := (E1.more (M := fun q => (onN wv xv q ∨ oB wv' q) ∨ oB xv' q) fun q hq => by
    rcases hq with hq | hq
    · exact .inl hq
    · rcases vB q hq with hq | hq
      · exact .inl (.inl (.inr hq))
      · exact .inr (.inl hq)).put (fB.mono fun q _ hq => .inl (.inl (.inr hq))) fun q hq => by
    rcases hq with (hq | hq) | hq
    · exact geN q hq
    · rcases vA q hq with hq | hq
      · exact geN q (.inl hq)
      · omega
    · rcases vB q hq with hq | hq
      · exact geN q (.inr hq)
      · omega
  refine ⟨hO, E2.more fun q hq => .inl ?_, ?_, by simpa using o_B, ?_, fun i hi hi' => ?_⟩
  · rcases hq with hq | hq
    · exact .inl (.inr hq)
    · exact .inr hq
  · rw [e]
    have := own_frm oA fB fun q hq hn => own_own_ne oA wArow (by decide) hq hn
    simpa [taken] using this
  · rw [e]; simp [taken, h.bl]
  · have hB := h.boxes_ T
    have eb : (subTo s l[k].1 l[k].2).boxes = s.boxes ++ [l[k].2] := by rw [e]; rfl
    simp only [eb]
    by_cases q : i < bs.length
    · have q' : i < s.boxes.length := by have := h.bl; omega
      rw [List.getElem_append_left q, List.getElem_append_left q']
      exact hB i q q'
    · have e1 : i = bs.length := by simp at hi; omega
      subst e1
      have hbl := h.bl
      have e3 : (bs ++ [Value.slice Ai l[k].2.length ci])[bs.length] = .slice Ai l[k].2.length ci := by simp
      have e4 : (s.boxes ++ [l[k].2])[bs.length]'(by simp; omega) = l[k].2 := by
        rw [List.getElem_append_right (by omega)]; simp
      rw [e3, e4]
      exact ⟨Ai, ci, rfl, hri.frmN T fun hne q hq h => by have := hni (by intro e; apply hne; rw [e]; rfl) q hq; omega, hni⟩
end

set_option maxRecDepth 100000 in
set_option maxHeartbeats 4000000 in
theorem entryOnce_any (Al : Option Addr) (l : Coms) (cl : Nat) (x y r : Int) (w : World) (hx : -9223372036854775808 ≤ x ∧ x ≤ 9223372036854775807) (hy : -9223372036854775808 ≤ y ∧ y ≤ 9223372036854775807) (hr : 0 ≤ r ∧ r < 18446744073709551616)
    (hl : RdCom w Al l (fun k => k < w.heap.size)) (h1 : Len l.length) (h2 : ∀ x ∈ l, Len x.2.length) :
    Calls Try.prog 3 #[.agg #[.slice Al l.length cl, .int .i64 x, .int .i64 y, .int .u64 r]] w fun e w' => e = .returned (.bool true) ∧ Frm noB w w' := by
  have HL := Lib.hid hl
  have H1 := Lib.hid h1
  have H2 := Lib.hid h2
  clear hl h1 h2
  go_enter Try.func3, Try.ntmps3
  go_wp2_with fail
  refine (awake_any _).mono ?_
  rintro e w1 ⟨rfl, hf⟩
  have hb := (Blk.new w 25 #[.slice Al l.length cl, .int .i64 x, .int .i64 y, .int .u64 r]).frm' hf
  have z0 := hb.cell 0
  have z1 := hb.cell 1
  have z2 := hb.cell 2
  have z3 := hb.cell 3
  simp at z0 z1 z2 z3
  have HF1 := Lib.hid (((Frm.refl noB w).alloc (.cells #[.slice Al l.length cl, .int .i64 x, .int .i64 y, .int .u64 r] 25)).trans' hf)
  clear hb hf
  try dsimp only
  go_wp2_with fail
  refine (at_any x 256 w1 hx (by omega)).mono ?_
  rintro e w1 ⟨⟨m, rfl, hm1, hm2⟩, rfl⟩
  try dsimp only
  go_wp2_with fail
  refine (at_any y 2 w1 hy (by omega)).mono ?_
  rintro e w1 ⟨⟨kk, rfl, hk1, hk2⟩, rfl⟩
  try dsimp only
  go_upto_region 6 with fail
  go_cut [6] (fun v wx => (∃ rd : Int, v = .int .u64 rd ∧ rd ≠ 0) ∧ wx = w1)
  case first =>
    go_wp2_with fail
    all_goals go_meet
    all_goals exact ⟨⟨_, rfl, by omega⟩, rfl⟩
  case rest =>
    obtain ⟨⟨rd, rfl, hrd⟩, hwc⟩ := hcut
    rw [hwc]
    clear hwc z0 z1 z2 z3
    have HLA := Lib.hid (HL.out.frm' HF1.out)
    have HSZ := Lib.hid HF1.out.size
    go_wp2_with fail
    refine (new0 (.func 11) #[] 64 (1 + m) w1 (by omega)).mono ?_
    rintro e w2 ⟨b, rfl, hE, _⟩
    have HE := Lib.hid hE
    clear hE
    try dsimp only
    go_wp2_with fail
    refine (open0 HE.out (3 - (1 + kk)) 5 0).mono ?_
    rintro e w3 ⟨rfl, hE, _⟩
    have e0 : openErr (es0 64 (1 + m)) (3 - (1 + kk)) 5 = 0 := by
      unfold openErr
      rw [if_neg (by omega), if_neg (by decide), if_neg (by simp [es0])]
    rw [e0] at hE ⊢
    have HE3 : Hid (Ent0 w1 w3 b _ (opened (es0 64 (1 + m)) (3 - (1 + kk)) 5 0 2) noB) := hE
    clear hE e0 HE
    try dsimp only
    go_wp2_with fail
    refine (sub0 HE3.out (fun _ h => h.elim) 0 [1, 1] (some ⟨w3.heap.size, 0, none⟩) 2 ((Frm.refl _ _).alloc _) (Rd.laid w3 5 [1, 1]) (fun k ⟨a, ha, hk⟩ => by cases ha; simp at hk; omega) (Len.of (by decide))).mono ?_
    rintro e w4 ⟨rfl, hE, _⟩
    have e0 : subErr (opened (es0 64 (1 + m)) (3 - (1 + kk)) 5 0 2) 0 [1, 1] = 0 := by
      simp [subErr, opened, es0, mget, mfind]; omega
    rw [subTo, e0] at hE
    rw [e0]
    have HE4 : Hid (Ent0 w1 w4 b _ (taken (opened (es0 64 (1 + m)) (3 - (1 + kk)) 5 0 2) 0 [1, 1]) noB) := hE
    clear hE e0 HE3
    try dsimp only
    go_wp2_with fail
    refine (close0 HE4.out rfl).mono ?_
    rintro e w5 ⟨Aw, cw, Ax, cx, M, rfl, _, _, _, _, hE, _⟩
    have HE5 : Hid (Ent0 w1 w5 b _ (closed (taken (opened (es0 64 (1 + m)) (3 - (1 + kk)) 5 0 2) 0 [1, 1])) noB) := hE.more (M := noB) fun k h => h.elim
    clear hE HE4
    try dsimp only
    go_wp2_with fail
    refine (ans0 HE5.out (fun k h => h.elim) (some ⟨w5.heap.size + 1, 0, none⟩) [[77]] 1 (((Frm.refl _ _).alloc _).alloc _) (laid1 w5 [77] 1) (fun k hk => .inr (.inl hk)) (by intro l hl; simp at hl; subst hl; exact Len.of (by decide))).mono ?_
    rintro e w6 ⟨rfl, hE, _⟩
    have e0 : ansErr (closed (taken (opened (es0 64 (1 + m)) (3 - (1 + kk)) 5 0 2) 0 [1, 1])) ([[77]] : List (List UInt8)).length = 0 := by simp [ansErr, closed, taken, opened]
    rw [e0] at hE ⊢
    have HE6 : Hid (Ent0 w1 w6 b _ (answered (closed (taken (opened (es0 64 (1 + m)) (3 - (1 + kk)) 5 0 2) 0 [1, 1])) [[77]]) noB) := hE
    clear hE e0 HE5
    try dsimp only
    go_wp2_with fail
    refine (open0 HE6.out (1 + kk) rd 0).mono ?_
    rintro e w7 ⟨rfl, hE, _⟩
    have e0 : openErr (answered (closed (taken (opened (es0 64 (1 + m)) (3 - (1 + kk)) 5 0 2) 0 [1, 1])) [[77]]) (1 + kk) rd = 0 := by
      unfold openErr
      rw [if_neg (by omega), if_neg hrd, if_neg (by simp [answered])]
    rw [e0] at hE ⊢
    obtain ⟨s1, hO, hE⟩ : ∃ s1, OnS l (1 + m) (1 + kk) rd 0 s1 ∧ Ent0 w1 w7 b _ s1 noB := ⟨opened (answered (closed (taken (opened (es0 64 (1 + m)) (3 - (1 + kk)) 5 0 2) 0 [1, 1])) [[77]]) (1 + kk) rd 0 2, OnS.start rfl rfl rfl rfl rfl rfl rfl rfl rfl, hE⟩
    have HO := Lib.hid hO
    have HE7 := Lib.hid hE
    clear hO hE e0 HE6
    try dsimp only
    go_wp2_with fail
    go_loopw [9, 10, 11] (fun wv xv i wr => ∃ (k : Nat) (s : ES) (bs : List Value), k ≤ l.length ∧ i = .int .i64 k ∧ OnW w1 wr b (.func (.func 11) #[] #[]) l (1 + m) (1 + kk) rd k s wv xv bs) (fun _ _ i _ => l.length - (intOf i).toNat)
    case atStart =>
      refine ⟨0, s1, [], Nat.zero_le _, rfl, HO.out, HE7.out.more fun k hk => ?_, ?_, World.ownsRow_nil _ _ _ _, ?_, fun i h => absurd h (by simp)⟩
      · rcases hk with hk | hk <;> simp [oB, Value.ownBlock] at hk
      · rw [HO.out.whoNil]; exact World.ownsRow_nil _ _ _ _
      · rw [HO.out.bx, HO.out.whoNil]; rfl
    case round =>
      obtain ⟨i, s, bs, hi, rfl, hI⟩ := hrel
      obtain ⟨Aw, cw, rfl, _⟩ := own_slice hI.who
      obtain ⟨Ax, cx, rfl, _⟩ := own_slice hI.row
      have HI := Lib.hid hI
      clear hI
      have h1l := H1.out.le
      by_cases hlt : i < l.length
      · obtain ⟨bl, ol, Ai, ci, rfl, hc, hs, hri, hb1, hb2⟩ := (HLA.out.frm' HI.out.ent.old) i hlt
        have HRI := Lib.hid hri
        have HLI := Lib.hid (H2.out _ (List.getElem_mem hlt))
        have hnb : ¬ nN w1 (onN (.slice Aw s.who.length cw) (.slice Ax bs.length cx)) bl := fun h => by have := h.1; have := HSZ.out; omega
        have HNB := Lib.hid hnb
        have HNL := Lib.hid fun k hk => (HI.out.lt k hk).2
        have HB2 := Lib.hid fun hne q hq => Nat.lt_of_lt_of_le (hb2 hne q hq) HSZ.out
        have HBL := Lib.hid (Nat.lt_of_lt_of_le hb1 HSZ.out)
        clear hri hb1 hb2 hnb
        have hcd : wr.drew.cell? ⟨bl, ol + i * 2, none⟩ = some (.int .i64 l[i].1) := hc
        have hsd : wr.drew.cell? ⟨bl, ol + i * 2 + 1, none⟩ = some (.slice Ai l[i].2.length ci) := hs
        go_wp2_with fail
        go_region_held3 (fun w' => w'.cell? ⟨bl, ol + i * 2, none⟩ = some (.int .i64 l[i].1) ∧ w'.cell? ⟨bl, ol + i * 2 + 1, none⟩ = some (.slice Ai l[i].2.length ci)) (first | exact ⟨hc, hs⟩ | exact ⟨hcd, hsd⟩ | exact ⟨hc8, hs8⟩ | exact ⟨hc9, hs9⟩) ((first | (go_simp; go_at_call 16; refine (copyBytes_any Ai l[i].2 ci wr.drew HRI.out.drew HLI.out).mono ?_; rintro e w8 ⟨v, rfl, ho, hf⟩; obtain ⟨A8, c8, rfl, _⟩ := own_slice ho; have HF8 := Lib.hid (((Frm.refl noB wr).drew).trans' hf); have HO8 := Lib.hid ho; have hc8 := HF8.out.cell_some hc (fun h => h); have hs8 := HF8.out.cell_some hs (fun h => h); clear ho hf) | (go_simp; go_at_call 13; refine (sub0 HI.out.ent HNL.out l[i].1 l[i].2 A8 c8 HF8.out (Rd.of_own HO8.out) (fun k ⟨a, ha, hk⟩ => .inl (own_lt HO8.out k (by subst ha; subst hk; rfl)).1) HLI.out).mono ?_; rintro e w9 ⟨rfl, hE, hf⟩; have HE9 := Lib.hid hE; have HF9 := Lib.hid ((HF8.out.any (S := nN w1 (onN (.slice Aw s.who.length cw) (.slice Ax bs.length cx)))).trans' hf); have hc9 := HF9.out.cell_some hc HNB.out; have hs9 := HF9.out.cell_some hs HNB.out; clear hE hf)))
        have hn256 := HI.out.ent.ln256
        have hmo := HI.out.ons.mo
        have hbl := HI.out.bl
        have hbx := HI.out.ons.bx
        have hn : s.who.length ≤ 256 := by omega
        have hnb : bs.length ≤ 256 := by omega
        clear hn256 hmo hbl hbx hcd hsd hc hs hc8 hs8
        go_wp2_with fail
        refine (first_q (some ⟨bl, ol, none⟩) l cl i w9 (HLA.out.frm' HE9.out.old) hlt H1.out H2.out).mono ?_
        rintro e wf ⟨rfl, nq, hwf⟩
        have HFf : Hid (Frm noB w9 wf) := Lib.hid (by rw [hwf]; exact Frm.of_drewN _ _ _)
        have HE10 := Lib.hid (HE9.out.frm HFf.out)
        have HF10 := Lib.hid (HF9.out.trans' HFf.out.any)
        have hc10 := HFf.out.cell_some hc9 (fun h => h)
        have hs10 := HFf.out.cell_some hs9 (fun h => h)
        have herr := HI.out.ons.err hlt
        clear hwf hc9 hs9
        try dsimp only
        by_cases hf1 : fst1 l i l[i].1 l[i].2.length = true
        · by_cases hroom : (s.who.length : Int) < 1 + m
          · have e0 := herr.2 ⟨hf1, hroom⟩
            have HE0 := Lib.hid e0
            rw [e0, hf1]
            have hdr : decide ((s.who.length : Int) < 1 + m) = true := by simpa using hroom
            have WHO := Lib.hid (own_frm HI.out.who HF10.out fun q hq hn => hn.2 (.inl hq))
            have ROW := Lib.hid (own_frm HI.out.row HF10.out fun q hq hn => hn.2 (.inr hq))
            clear e0 herr hf1 hroom
            go_wp2_with (first | (at_builtin; refine app1 info36 rfl w1.heap.size WHO.out _ _ rfl rfl rfl rfl (by omega) (by omega) HE10.out.size ?_; intro Aa ca wa hoa hca hfa hva; have HOa := Lib.hid hoa; have HFa := Lib.hid hfa; have HVa := Lib.hid hva; have hsa := hfa.cell_some hs10 (fun h => absurd (own_lt WHO.out _ h).1 (Nat.not_le.2 HBL.out)); have ROWa := Lib.hid (own_frm ROW.out hfa fun q hq hn => own_own_ne ROW.out WHO.out (by decide) hq hn); clear hoa hca hfa hva) | (at_builtin; refine app1 info37 rfl w1.heap.size ROWa.out _ _ rfl rfl rfl rfl (by omega) (by omega) (Nat.le_trans HE10.out.size HFa.out.size) ?_; intro Ab cb wb hob hcb hfb hvb; have HOb := Lib.hid hob; have HFb := Lib.hid hfb; have HVb := Lib.hid hvb; clear hob hcb hfb hvb) | fail)
            refine ⟨⟨i + 1, subTo s l[i].1 l[i].2, bs ++ [.slice Ai l[i].2.length ci], by omega, by go_num, ?_⟩, by simp [intOf]; omega⟩
            have ew : (subTo s l[i].1 l[i].2).who.length = s.who.length + 1 := by rw [subTo, if_pos HE0.out]; simp [taken]
            exact HI.out.take_ hlt HE0.out HE10.out HF10.out HRI.out HB2.out HFa.out HOa.out HVa.out HFb.out HOb.out HVb.out
          · have e0 : (subErr s l[i].1 l[i].2 == 0) = false := by simp; exact fun h => hroom (herr.1 h).2
            have hdr : decide ((s.who.length : Int) < 1 + m) = false := by simpa using hroom
            have HE0 : Hid (subErr s l[i].1 l[i].2 ≠ 0) := Lib.hid fun h => hroom (herr.1 h).2
            rw [hf1]
            clear herr hf1 hroom
            go_wp2_with fail
            exact ⟨⟨i + 1, s, bs, by omega, by go_num, HI.out.skip hlt HE0.out HE10.out HF10.out⟩, by simp [intOf]; omega⟩
        · have hf2 : fst1 l i l[i].1 l[i].2.length = false := by simpa using hf1
          have e0 : (subErr s l[i].1 l[i].2 == 0) = false := by simp; exact fun h => hf1 (herr.1 h).1
          have HE0 : Hid (subErr s l[i].1 l[i].2 ≠ 0) := Lib.hid fun h => hf1 (herr.1 h).1
          rw [hf2]
          clear herr hf1 hf2
          go_wp2_with fail
          exact ⟨⟨i + 1, s, bs, by omega, by go_num, HI.out.skip hlt HE0.out HE10.out HF10.out⟩, by simp [intOf]; omega⟩
      · have e : i = l.length := by omega
        subst e
        have hrows : RdRows wr Ax s.boxes (fun k => onN (.slice Aw s.who.length cw) (.slice Ax bs.length cx) k ∨ k < w1.heap.size) := by
          refine ⟨bs, Rd.of_own HI.out.row, HI.out.bl, fun j hj hj' => ?_, fun _ q ⟨a, ha, hq⟩ => .inl (.inr (by subst ha; subst hq; rfl))⟩
          obtain ⟨A', c', e', hr', hn'⟩ := HI.out.box j hj' hj
          exact ⟨A', c', e', hr', fun hne q hq => .inr (hn' hne q hq)⟩
        have HROWS := Lib.hid hrows
        have hbl := HI.out.bl
        have HBL := Lib.hid hbl
        rw [hbl]
        clear hrows hbl
        go_wp2_with fail
        refine (close0 HI.out.ent HI.out.ons.ph).mono ?_
        rintro e w8 ⟨Au, cu, Av, cvv, M, rfl, hW, hAu, hX, hM, hE, hf⟩
        rw [HI.out.ons.kd, HI.out.ons.rd]
        have HW8 := Lib.hid hW
        have HX8 := Lib.hid hX
        have HE8 := Lib.hid hE
        have HF8 := Lib.hid hf
        have HM8 := Lib.hid hM
        have HAU := Lib.hid hAu
        clear hW hX hE hf hM hAu
        try dsimp only
        go_wp2_with fail
        have hb9 := Blk.new w8 39 #[.int .i64 (1 + kk), .int .u64 rd, .slice Au s.who.length cu, .slice Av s.boxes.length cvv]
        have hf9 : Frm noB w8 (w8.alloc (.cells #[.int .i64 (1 + kk), .int .u64 rd, .slice Au s.who.length cu, .slice Av s.boxes.length cvv] 39)) := (Frm.refl _ _).alloc _
        generalize (w8.alloc (.cells #[.int .i64 (1 + kk), .int .u64 rd, .slice Au s.who.length cu, .slice Av s.boxes.length cvv] 39)) = w9 at *
        have HF9 := Lib.hid hf9
        have HFW := Lib.hid (HF8.out.trans' hf9.any)
        have HB9 := Lib.hid hb9
        have WHO := Lib.hid (own_frm HI.out.who HFW.out fun q hq hn => hn.2 (.inl hq))
        have ROWS := Lib.hid (HROWS.out.frm HFW.out fun q hq hn => by
          rcases hq with hq | hq
          · exact hn.2 hq
          · have := hn.1; omega)
        have hln := HI.out.ent.ln256
        have hmo := HI.out.ons.mo
        have hbx := HI.out.ons.bx
        have hn : s.who.length ≤ 256 := by omega
        have hnb : s.boxes.length ≤ 256 := by omega
        have HB2 := Lib.hid HI.out.ons.b2
        clear hb9 hf9 hln hmo hbx
        refine (eqInts_any Au Aw s.who s.who cu cw _ (HW8.out.frm' HF9.out) (Rd.of_own WHO.out) (Len.of (by omega)) (Len.of (by omega))).mono ?_
        rintro e wA ⟨rfl, hf⟩
        rw [show eql s.who s.who = true from eql_true rfl]
        have HFA := Lib.hid hf
        have hbA := HB9.out.frm' hf
        have k3 := hbA.cell 3
        simp at k3
        clear hf hbA
        try dsimp only
        go_wp2_with fail
        refine (eqRows_any Av Ax s.boxes s.boxes cvv cx _ ((HX8.out.frm' HF9.out).frm' HFA.out) (ROWS.out.frm' HFA.out) (Len.of (by omega)) (Len.of (by omega)) (fun l hl => Len.of (by rw [HB2.out l hl]; decide)) (fun l hl => Len.of (by rw [HB2.out l hl]; decide))).mono ?_
        rintro e wB ⟨rfl, hf⟩
        rw [show eql s.boxes s.boxes = true from eql_true rfl]
        have HFB := Lib.hid (HFA.out.trans' hf)
        clear hf k3
        try dsimp only
        go_wp2_with fail
        go_loopw [14, 15] (fun v i wr => ∃ (k : Nat) (vs : List Value), k ≤ s.who.length ∧ i = .int .i64 k ∧ OwnedRows wr wB.heap.size v vs ((repsOf s.who).take k) ∧ Frm noB wB wr) (fun _ i _ => s.who.length - (intOf i).toNat)
        case atStart => exact ⟨0, [], Nat.zero_le _, rfl, ⟨World.ownsRow_nil _ _ _ _, rfl, fun i h => absurd h (by simp), fun i j h => absurd h (by simp)⟩, Frm.refl _ _⟩
        case round =>
          obtain ⟨k, vs, hk, rfl, ho, hf⟩ := hrel
          have hvs : vs.length = k := by rw [ho.len, List.length_take, repsOf_length]; omega
          obtain ⟨Ar, cr, rfl, _⟩ := own_slice ho.row
          have HO := Lib.hid ho
          have HF := Lib.hid hf
          have HVS := Lib.hid hvs
          have hvs' : vs.length ≤ 256 := by omega
          clear ho hf hvs
          by_cases hlt : k < s.who.length
          · obtain ⟨bw, ow, rfl, hc⟩ := (Rd.of_own (own_frm' (own_frm' WHO.out HFB.out) HF.out)).i hlt
            obtain ⟨hc0, hc64, _⟩ := HI.out.ons.frm _ (List.getElem_mem hlt)
            have HFR : Hid (Frm noB wr (wr.alloc (.cells #[.int .u8 ↑k, .int .u8 s.who[k], .int .u8 3] 5))) := Lib.hid ((Frm.refl _ _).alloc _)
            have hsz := HF.out.size
            go_wp2_with (at_builtin; go_loud (refine app1g info37 rfl wB.heap.size (own_frm' HO.out.row HFR.out) _ _ rfl rfl (by simp) rfl rfl (by omega) (by omega) (Nat.le_trans hsz HFR.out.size) ?_; intro A2 c2 w2 ho2 hc2 hf2 hv2; have HO2 := Lib.hid ho2; have HF2 := Lib.hid hf2; clear ho2 hf2 hv2 hc2))
            refine ⟨⟨k + 1, vs ++ [.slice (some ⟨wr.heap.size, 0, none⟩) 3 3], by omega, by go_num, ?_, ?_⟩, by simp [intOf]; omega⟩
            · rw [repsOf_take s.who hlt]
              refine HO.out.push hsz HFR.out (l := rep1 k s.who[k]) ?_ HO2.out HF2.out
              rw [rep1_bv (by omega) ⟨hc0, hc64⟩]
              exact own_laid wr 5 [.int .u8 ↑k, .int .u8 s.who[k], .int .u8 3] (by simp)
            · exact (HF.out.trans' HFR.out).trans HF2.out fun q hq h => absurd (own_lt HO.out.row q h).1 (Nat.not_le.2 hq)
          · have e : k = s.who.length := by omega
            have hvl : vs.length = (repsOf s.who).length := by rw [repsOf_length, HVS.out]; omega
            have HVL := Lib.hid hvl
            have HO1 : Hid (RdRows wr Ar (repsOf s.who) (fun q => wB.heap.size ≤ q ∧ q < wr.heap.size)) := Lib.hid (by have := HO.out.rd.2; rw [List.take_of_length_le (by rw [repsOf_length]; omega)] at this; exact this)
            have H3 : Hid (∀ l ∈ repsOf s.who, Len l.length) := Lib.hid fun l hl => Len.of (by rw [repsOf_len _ l hl]; decide)
            have hszB : w9.heap.size ≤ wB.heap.size := HFB.out.size
            have hsz9 : w8.heap.size ≤ w9.heap.size := HF9.out.size
            have hsz := HF.out.size
            have LT := Lib.hid HI.out.lt
            have hszI := HFW.out.size
            have HEr : Hid (Ent0 w1 wr b (.func (.func 11) #[] #[]) (closed s) (fun q => onN (.slice Aw s.who.length cw) (.slice Ax bs.length cx) q ∨ wB.heap.size ≤ q ∧ q < wr.heap.size)) :=
              Lib.hid ((((HE8.out.frm HF9.out).frm HFB.out).more fun q hq => hq.elim (fun h => .inl (.inl h)) fun h => .inr (.inl h.1)).frm HF.out)
            have WHOr := Lib.hid (own_frm' (own_frm' WHO.out HFB.out) HF.out)
            have HNL : Hid (∀ q, (onN (.slice Aw s.who.length cw) (.slice Ax bs.length cx) q ∨ wB.heap.size ≤ q ∧ q < wr.heap.size) → q < wr.heap.size) := Lib.hid fun q hq => by
              rcases hq with hq | hq
              · have := (LT.out q hq).2; omega
              · exact hq.2
            have hr256 : (repsOf s.who).length ≤ 256 := by rw [repsOf_length]; omega
            rw [hvl]
            clear hk hvs' e hvl hsz hszI hsz9 hszB
            go_wp2_with fail
            refine (copyRows_any Ar (repsOf s.who) cr wr HO1.out (by omega) H3.out).mono ?_
            rintro e wc1 ⟨v, vs1, rfl, ho1, hf1⟩
            obtain ⟨Ac, cc, rfl, _⟩ := own_slice ho1.row
            obtain ⟨hl1, hr1⟩ := ho1.rd
            rw [hl1]
            have HC1 := Lib.hid hr1
            have HFC1 := Lib.hid hf1
            clear ho1 hf1 hl1 hr1
            try dsimp only
            go_wp2_with fail
            refine (ans0 HEr.out HNL.out Ac (repsOf s.who) cc HFC1.out HC1.out (fun q hq => .inr (.inl hq.1)) H3.out).mono ?_
            rintro e wD ⟨rfl, hE, hf⟩
            have e0 : ansErr (closed s) (repsOf s.who).length = 0 := by simp [ansErr, closed, repsOf_length]
            rw [e0] at hE ⊢
            have HED : Hid (Ent0 w1 wD b (.func (.func 11) #[] #[]) (answered (closed s) (repsOf s.who)) (fun q => onN (.slice Aw s.who.length cw) (.slice Ax bs.length cx) q ∨ wB.heap.size ≤ q ∧ q < wr.heap.size)) := hE
            have HFD := Lib.hid (HFC1.out.any.trans' hf)
            have HND : Hid (∀ q, (onN (.slice Aw s.who.length cw) (.slice Ax bs.length cx) q ∨ wB.heap.size ≤ q ∧ q < wr.heap.size) → q < wD.heap.size) := Lib.hid fun q hq => Nat.lt_of_lt_of_le (HNL.out q hq) HFD.out.size
            have HOD := Lib.hid (HO1.out.frm HFD.out fun q hq hn => hn.2 (.inr hq))
            clear hE hf e0
            try dsimp only
            go_wp2_with fail
            refine (copyRows_any Ar (repsOf s.who) cr wD HOD.out (by omega) H3.out).mono ?_
            rintro e wc2 ⟨v, vs2, rfl, ho2, hf2⟩
            obtain ⟨Ac2, cc2, rfl, _⟩ := own_slice ho2.row
            obtain ⟨hl2, hr2⟩ := ho2.rd
            rw [hl2]
            have HC2 := Lib.hid hr2
            have HFC2 := Lib.hid hf2
            clear ho2 hf2 hl2 hr2
            try dsimp only
            go_wp2_with fail
            refine (ans0 HED.out HND.out Ac2 (repsOf s.who) cc2 HFC2.out HC2.out (fun q hq => .inr (.inl hq.1)) H3.out).mono ?_
            rintro e wE ⟨rfl, hE, hf⟩
            have e0 : ansErr (answered (closed s) (repsOf s.who)) (repsOf s.who).length = 251 := by simp [ansErr, answered]
            rw [e0] at hE ⊢
            have HEE : Hid (Ent0 w1 wE b (.func (.func 11) #[] #[]) (answered (closed s) (repsOf s.who)) (fun q => onN (.slice Aw s.who.length cw) (.slice Ax bs.length cx) q ∨ wB.heap.size ≤ q ∧ q < wr.heap.size)) := hE
            have HFE := Lib.hid (HFD.out.trans' (HFC2.out.any.trans' hf))
            have HOE := Lib.hid (HO1.out.frm HFE.out fun q hq hn => hn.2 (.inr hq))
            have WHOE := Lib.hid (own_frm WHOr.out HFE.out fun q hq hn => hn.2 (.inl (.inl hq)))
            clear hE hf e0
            try dsimp only
            have HNE : Hid (∀ q, (fun q => onN (.slice Aw s.who.length cw) (.slice Ax bs.length cx) q ∨ wB.heap.size ≤ q ∧ q < wr.heap.size) q → q < wE.heap.size) := Lib.hid fun q hq => Nat.lt_of_lt_of_le (HNL.out q hq) HFE.out.size
            generalize hNN : (fun q => onN (.slice Aw s.who.length cw) (.slice Ax bs.length cx) q ∨ wB.heap.size ≤ q ∧ q < wr.heap.size) = NN at *
            have HNN := Lib.hid hNN
            clear hNN
            have HRW : Hid (Rd wE Aw (s.who.map iv) ∧ ∀ q, aB Aw q → NN q) := Lib.hid ⟨Rd.of_own WHOE.out, fun q ⟨a, ha, hq⟩ => by rw [← HNN.out]; exact .inl (.inl (by subst ha; subst hq; rfl))⟩
            have HRR : Hid (RdRows wE Ar (repsOf s.who) NN) := Lib.hid (HOE.out.mono fun q hq => by rw [← HNN.out]; exact .inr hq)
            clear HNN WHOE HOE WHOr HOD HC2 HC1 HO1 HFE HFD HFC1 HFC2 HED HND HNL LT HVL HO HF HVS ROWS HFW HB9 HF9 HAU HM8 HF8 HX8 HW8 HE8 HBL HROWS HFA HFB WHO
            go_wp2_with fail
            go_loopw [16] (fun i wq => ∃ (c : Nat) (s' : ES) (N : Nat → Prop), c ≤ 64 ∧ i = .int .i64 c ∧ Ent0 w1 wq b (.func (.func 11) #[] #[]) s' N ∧ (∀ q, NN q → N q) ∧ (∀ q, N q → q < wq.heap.size) ∧ s'.clients = 64 ∧ (∀ x : Int, (c : Int) ≤ x → s'.replies x = repl s.who (repsOf s.who) s.who.length x) ∧ Frm (nN w1 NN) wE wq) (fun i _ => 64 - (intOf i).toNat)
            case atStart =>
              exact ⟨0, _, NN, by omega, rfl, HEE.out, fun q h => h, HNE.out, HI.out.ons.cl, fun x _ => rfl, Frm.refl _ _⟩
            case round =>
              obtain ⟨c, s', N, hc, rfl, hE, hNN, hNq, hcl, hrp, hF⟩ := hrel
              obtain ⟨wq, rfl⟩ : ∃ wq : World, wq = wr := ⟨_, rfl⟩
              have HE := Lib.hid hE
              have HNN := Lib.hid hNN
              have HNq := Lib.hid hNq
              have HCL := Lib.hid hcl
              have HRP := Lib.hid hrp
              have HF := Lib.hid hF
              clear hE hNN hNq hcl hrp hF
              by_cases hlt : c < 64
              · go_wp2_with fail
                go_loopw [17, 18] (fun v i wp => ∃ (k : Nat) (A : Option Addr) (c' : Nat), k ≤ s.who.length ∧ i = .int .i64 k ∧ v = .slice A (wantOf s.who k c).length c' ∧ Rd wE A ((wantOf s.who k c).map bv) ∧ (wantOf s.who k c ≠ [] → ∀ q, aB A q → NN q) ∧ Frm noB wq wp) (fun _ i _ => s.who.length - (intOf i).toNat)
                case atStart => exact ⟨0, none, 0, Nat.zero_le _, rfl, rfl, Rd.nil _ _, fun h => absurd rfl h, Frm.refl _ _⟩
                case round =>
                  obtain ⟨k, A, c', hk, rfl, rfl, hr, hn, hf⟩ := hrel
                  obtain ⟨wp, rfl⟩ : ∃ wp : World, wp = wr := ⟨_, rfl⟩
                  have HR := Lib.hid hr
                  have HN := Lib.hid hn
                  have HFP := Lib.hid hf
                  clear hr hn hf
                  have dis : Hid (∀ q, NN q → ¬ nN w1 NN q) := Lib.hid fun q hq h => h.2 hq
                  have HFW := Lib.hid (HF.out.trans' HFP.out.any)
                  by_cases hlt' : k < s.who.length
                  · have hlr : k < (repsOf s.who).length := by rw [repsOf_length]; exact hlt'
                    obtain ⟨bw, ow, rfl, hcw⟩ := (HRW.out.1.frm HFW.out fun q hq => dis.out q (HRW.out.2 q hq)).i hlt'
                    obtain ⟨br, orr, Ak, ck, rfl, hcr', hrk, hnk, hnb⟩ := HRR.out.at hlr
                    have hcr := HFW.out.cell_some hcr' (dis.out _ hnb)
                    have HRK := Lib.hid hrk
                    have HNK := Lib.hid hnk
                    clear hcr' hrk hnk hnb
                    by_cases he : s.who[k] = (c : Int)
                    · have hb : (s.who[k] == (c : Int)) = true := by simpa using he
                      have HW1 := Lib.hid (wantOf_hit s.who hlt' he)
                      have HE1 : Hid ((repsOf s.who)[k] = rep1 k c) := Lib.hid (by rw [repsOf_at s.who hlt', he])
                      clear he
                      go_wp2_with fail
                      refine ⟨⟨k + 1, Ak, ck, by omega, by go_num, by rw [HW1.out, HE1.out], by rw [HW1.out, ← HE1.out]; exact HRK.out, by rw [HW1.out, ← HE1.out]; exact HNK.out, HFP.out⟩, by simp [intOf]; omega⟩
                    · have hb : (s.who[k] == (c : Int)) = false := by simpa using he
                      have HW1 := Lib.hid (wantOf_miss s.who hlt' he)
                      clear he
                      go_wp2_with fail
                      refine ⟨⟨k + 1, A, c', by omega, by go_num, by rw [HW1.out], by rw [HW1.out]; exact HR.out, by rw [HW1.out]; exact HN.out, HFP.out⟩, by simp [intOf]; omega⟩
                  · have e : k = s.who.length := by omega
                    subst e
                    have hrep := HRP.out c (Int.le_refl _)
                    have hws := (wantOf_some s.who c s.who.length (Nat.le_refl _))
                    have HLEN : Hid (((s'.replies c).getD []).length = (wantOf s.who s.who.length c).length) := Lib.hid (by rw [hrep]; rfl)
                    have HYES : Hid ((s'.replies c).isSome = decide (0 < (wantOf s.who s.who.length c).length)) := Lib.hid (by rw [hrep]; exact hws.1)
                    have HGET : Hid ((s'.replies c).getD [] = wantOf s.who s.who.length c) := Lib.hid (by rw [hrep]; rfl)
                    have hw3 := hws.2
                    clear hrep hws hk
                    generalize wantOf s.who s.who.length (c : Int) = W at *
                    go_wp2_with fail
                    refine (col0 (HE.out.frm HFP.out) c ⟨by omega, by rw [HCL.out]; omega⟩).mono ?_
                    rintro e wF ⟨A9, c9, rfl, hG, hA9, hE, hf⟩
                    rw [HLEN.out, HYES.out]
                    have HR9 : Hid (Rd wF A9 (W.map bv)) := Lib.hid (by have := hG.rd; rw [HGET.out] at this; exact this)
                    have HE9 := Lib.hid hE
                    have HF9 := Lib.hid hf
                    have HA9 := Lib.hid hA9
                    clear hG hA9 hE hf
                    obtain ⟨bb, hbb⟩ : ∃ bb, decide (0 < W.length) = bb := ⟨_, rfl⟩
                    have hd : decide ((0 : Int) < (W.length : Int)) = bb := by rw [← hbb]; simp
                    rw [hbb]
                    try dsimp only
                    go_wp2_with fail
                    refine (col0 HE9.out c ⟨by omega, by show (c : Int) < s'.clients; rw [HCL.out]; omega⟩).mono ?_
                    rintro e wG ⟨AA, cA, rfl, hG, hAA, hE, hf⟩
                    have e1 : ((collected s' c).replies c).isSome = false := by simp [collected]
                    have e2 : (((collected s' c).replies c).getD []).length = 0 := by simp [collected]
                    rw [e1, e2]
                    have HEA := Lib.hid hE
                    have HFA := Lib.hid hf
                    have HAA := Lib.hid hAA
                    clear hG hAA hE hf e1 e2
                    have up1 : Hid (Frm (nN w1 NN) wE wF) := Lib.hid (HFW.out.trans' (HF9.out.mono fun q _ hq => ⟨hq.1, fun h => hq.2 (HNN.out q h)⟩))
                    have up2 : Hid (Frm (nN w1 NN) wE wG) := Lib.hid (up1.out.trans' (HFA.out.mono fun q _ hq => ⟨hq.1, fun h => hq.2 (.inl (HNN.out q h))⟩))
                    have HX : Hid (Rd wG A9 (W.map bv)) := Lib.hid (HR9.out.frm HFA.out fun q hq h => h.2 (.inr hq))
                    have HY : Hid (Rd wG A (W.map bv)) := Lib.hid (HR.out.frmN up2.out fun hne q hq => dis.out q (HN.out (by intro e; apply hne; rw [e]; rfl) q hq))
                    try dsimp only
                    cases bb
                    all_goals
                      go_wp2_with fail
                      refine (eqBytes_any A9 A W W c9 c' _ HX.out HY.out (Len.of (by omega)) (Len.of (by omega))).mono ?_
                      rintro e wH ⟨rfl, hf⟩
                      rw [show eql W W = true from eql_true rfl]
                      have HFH := Lib.hid hf
                      clear hf
                      try dsimp only
                      go_wp2_with fail
                      refine ⟨⟨c + 1, collected (collected s' c) c, fun q => (N q ∨ aB A9 q) ∨ aB AA q, by omega, by go_num, HEA.out.frm HFH.out, fun q hq => .inl (.inl (HNN.out q hq)), fun q hq => ?_, HCL.out, fun x hx => ?_, up2.out.trans' HFH.out.any⟩, by simp [intOf]; omega⟩
                      · have g1 := HFP.out.size
                        have g2 := HF9.out.size
                        have g3 := HFA.out.size
                        have g4 := HFH.out.size
                        rcases hq with (hq | hq) | hq
                        · have := HNq.out q hq; omega
                        · have := (HA9.out q hq).2; omega
                        · have := (HAA.out q hq).2; omega
                      · have hne : ¬ (c : Int) = x := by omega
                        simp only [collected, if_neg hne]
                        exact HRP.out x (by omega)
              · have HEX := Lib.hid HE.out.old
                go_wp2_with fail
                go_ret
                exact ⟨rfl, HF1.out.trans' HEX.out⟩
end Go.Proofs.Ytjnoddbhfcpniaa
