/-
  EntryPlays: the walk.
-/
import Derived.Test.YtjnoddbhfcpniaaTwo
import Derived.Deep.RegionHeld3
namespace Go.Proofs.Ytjnoddbhfcpniaa
open Go.RowKit
open Go.BigFrame
set_option linter.unusedVariables false
set_option linter.unusedSimpArgs false

set_option maxRecDepth 100000 in
set_option maxHeartbeats 4000000 in
theorem entryPlays_any (z1 z2 c m y1 y2 d n : Int) (A1 A2 : Option Addr) (l1 l2 : List PStep) (c1 c2 : Nat) (w : World) (hR1 : RdSt w A1 l1 1048576) (hR2 : RdSt w A2 l2 1048576) (hn1 : l1.length ≤ 1048576) (hn2 : l2.length ≤ 1048576) :
    Calls Try.prog 5 #[.agg #[.int .i64 z1, .int .i64 z2, .int .i64 c, .int .i64 m, .slice A1 l1.length c1], .agg #[.int .i64 y1, .int .i64 y2, .int .i64 d, .int .i64 n, .slice A2 l2.length c2]] w fun e w' => e = .returned (.bool true) ∧ Frm noB w w' := by
  have s1 : (w.alloc (.cells #[.int .i64 z1, .int .i64 z2, .int .i64 c, .int .i64 m, .slice A1 l1.length c1] 58)).heap.size = w.heap.size + 1 := by simp
  have b1 : Blk ((w.alloc (.cells #[.int .i64 z1, .int .i64 z2, .int .i64 c, .int .i64 m, .slice A1 l1.length c1] 58)).alloc (.cells #[.int .i64 y1, .int .i64 y2, .int .i64 d, .int .i64 n, .slice A2 l2.length c2] 58)) w.heap.size 58 #[.int .i64 z1, .int .i64 z2, .int .i64 c, .int .i64 m, .slice A1 l1.length c1] := (Blk.new _ _ _).alloc _
  have b2 : Blk ((w.alloc (.cells #[.int .i64 z1, .int .i64 z2, .int .i64 c, .int .i64 m, .slice A1 l1.length c1] 58)).alloc (.cells #[.int .i64 y1, .int .i64 y2, .int .i64 d, .int .i64 n, .slice A2 l2.length c2] 58)) (w.heap.size + 1) 58 #[.int .i64 y1, .int .i64 y2, .int .i64 d, .int .i64 n, .slice A2 l2.length c2] := by rw [← s1]; exact Blk.new _ _ _
  have f1 : Frm noB w ((w.alloc (.cells #[.int .i64 z1, .int .i64 z2, .int .i64 c, .int .i64 m, .slice A1 l1.length c1] 58)).alloc (.cells #[.int .i64 y1, .int .i64 y2, .int .i64 d, .int .i64 n, .slice A2 l2.length c2] 58)) := ((Frm.refl _ _).alloc _).alloc _
  have B1 := Lib.hid b1
  have B2 := Lib.hid b2
  have F1 := Lib.hid f1
  have R1 := Lib.hid (hR1.frm' f1)
  have R2 := Lib.hid (hR2.frm' f1)
  have HN1 := Lib.hid hn1
  have HN2 := Lib.hid hn2
  clear s1 b1 b2 f1 hR1 hR2 hn1 hn2
  go_enter Try.func5, Try.ntmps5
  go_upto_region 1 with fail
  generalize (w.alloc (.cells #[.int .i64 z1, .int .i64 z2, .int .i64 c, .int .i64 m, .slice A1 l1.length c1] 58)).alloc (.cells #[.int .i64 y1, .int .i64 y2, .int .i64 d, .int .i64 n, .slice A2 l2.length c2] 58) = w1 at *
  have d0 := B1.out.cell 0
  have d1 := B1.out.cell 1
  have d2 := B1.out.cell 2
  have d3 := B1.out.cell 3
  have d4 := B1.out.cell 4
  have e0 := B2.out.cell 0
  have e1 := B2.out.cell 1
  have e2 := B2.out.cell 2
  have e3 := B2.out.cell 3
  have e4 := B2.out.cell 4
  simp at d0 d1 d2 d3 d4 e0 e1 e2 e3 e4
  go_wp2_with fail
  refine (made_any z1 z2 c m A1 l1.length c1 w1).mono ?_
  rintro _ w2 ⟨bb1, rfl, f2, m1⟩
  replace e0 := f2.cell_some e0 fun h => h
  replace e1 := f2.cell_some e1 fun h => h
  replace e2 := f2.cell_some e2 fun h => h
  replace e3 := f2.cell_some e3 fun h => h
  replace e4 := f2.cell_some e4 fun h => h
  have F2 := Lib.hid f2
  have M1 := Lib.hid m1
  clear f2 m1 d0 d1 d2 d3 d4
  try dsimp only
  go_upto_region 2 with fail
  go_wp2_with fail
  refine (made_any y1 y2 d n A2 l2.length c2 w2).mono ?_
  rintro _ w3 ⟨bb2, rfl, f3, m2⟩
  obtain ⟨p1, p2, hT⟩ := TwoI.start M1.out m2 F2.out f3
  have T3 := Lib.hid hT
  clear hT M1 m2 F2 f3 e0 e1 e2 e3 e4
  try dsimp only
  go_upto_region 5 with fail
  go_wp2_with fail
  go_loopw [9] (fun i wr => ∃ k : Nat, (k ≤ l1.length ∨ k ≤ l2.length) ∧ i = .int .i64 k ∧ TwoI w1 wr bb1 bb2 p1 p2 noB) (fun i _ => l1.length + l2.length - (intOf i).toNat)
  case atStart => exact ⟨0, .inl (Nat.zero_le _), rfl, T3.out⟩
  case round =>
    obtain ⟨k, hk, rfl, hT⟩ := hrel
    have T := Lib.hid hT
    have d4 := hT.old (B1.out.cell 4) (by have := B1.out.lt; exact this)
    have e4 := hT.old (B2.out.cell 4) (by have := B2.out.lt; exact this)
    have q1 := hT.c1
    have q2 := hT.c2
    simp at d4 e4
    clear hT T3
    have h1l := HN1.out
    have h2l := HN2.out
    by_cases h1 : k < l1.length
    · rcases p1 with _ | r1
      · by_cases h2 : k < l2.length
        · rcases p2 with _ | r2
          · go_wp2_with fail
            exact ⟨⟨k + 1, by omega, by go_num, T.out⟩, by simp [intOf]; omega⟩
          · obtain ⟨g2, o2, A2', e2', Ar2, er2, rfl, gl2, hr2, hd2, hrr2, u21, u22, u23⟩ := R2.out.at_ h2
            have HR2 := Lib.hid hr2
            have HD2 := Lib.hid hd2
            have HS2 := Lib.hid hrr2
            have x2 := hr2.frm T.out.frm (Nat.not_le.2 gl2)
            have x20 := x2.c0
            have x21 := x2.c1
            have x22 := x2.c2
            have x23 := x2.c3
            have x24 := x2.c4
            have x25 := x2.c5
            have x26 := x2.c6
            clear hr2 hd2 hrr2 x2

            go_wp2_with fail
            refine (T.out.step2 _ _ _ _ _ _ _ _ _ _ _ HD2.out HS2.out u21 u22 u23).mono ?_
            rintro _ wA ⟨rfl, hT, _⟩
            clear T d4 e4 q1 q2 x20 x21 x22 x23 x24 x25 x26
            have T := Lib.hid hT
            have d4 := hT.old (B1.out.cell 4) (by have := B1.out.lt; exact this)
            have e4 := hT.old (B2.out.cell 4) (by have := B2.out.lt; exact this)
            have q1 := hT.c1
            have q2 := hT.c2
            simp at d4 e4
            clear hT
            try dsimp only
            go_wp2_with fail
            exact ⟨⟨k + 1, by omega, by go_num, T.out⟩, by simp [intOf]; omega⟩
        · go_wp2_with fail
          exact ⟨⟨k + 1, by omega, by go_num, T.out⟩, by simp [intOf]; omega⟩
      · obtain ⟨g1, o1, A1', e1', Ar1, er1, rfl, gl1, hr1, hd1, hrr1, u11, u12, u13⟩ := R1.out.at_ h1
        have HR1 := Lib.hid hr1
        have HD1 := Lib.hid hd1
        have HS1 := Lib.hid hrr1
        have x1 := hr1.frm T.out.frm (Nat.not_le.2 gl1)
        have x10 := x1.c0
        have x11 := x1.c1
        have x12 := x1.c2
        have x13 := x1.c3
        have x14 := x1.c4
        have x15 := x1.c5
        have x16 := x1.c6
        clear hr1 hd1 hrr1 x1

        go_wp2_with fail
        refine (T.out.step1 _ _ _ _ _ _ _ _ _ _ _ HD1.out HS1.out u11 u12 u13).mono ?_
        rintro _ wA ⟨rfl, hT, _⟩
        clear T d4 e4 q1 q2 x10 x11 x12 x13 x14 x15 x16
        have T := Lib.hid hT
        have d4 := hT.old (B1.out.cell 4) (by have := B1.out.lt; exact this)
        have e4 := hT.old (B2.out.cell 4) (by have := B2.out.lt; exact this)
        have q1 := hT.c1
        have q2 := hT.c2
        simp at d4 e4
        clear hT
        try dsimp only
        by_cases h2 : k < l2.length
        · rcases p2 with _ | r2
          · go_wp2_with fail
            exact ⟨⟨k + 1, by omega, by go_num, T.out⟩, by simp [intOf]; omega⟩
          · obtain ⟨g2, o2, A2', e2', Ar2, er2, rfl, gl2, hr2, hd2, hrr2, u21, u22, u23⟩ := R2.out.at_ h2
            have HR2 := Lib.hid hr2
            have HD2 := Lib.hid hd2
            have HS2 := Lib.hid hrr2
            have x2 := hr2.frm T.out.frm (Nat.not_le.2 gl2)
            have x20 := x2.c0
            have x21 := x2.c1
            have x22 := x2.c2
            have x23 := x2.c3
            have x24 := x2.c4
            have x25 := x2.c5
            have x26 := x2.c6
            clear hr2 hd2 hrr2 x2

            go_wp2_with fail
            refine (T.out.step2 _ _ _ _ _ _ _ _ _ _ _ HD2.out HS2.out u21 u22 u23).mono ?_
            rintro _ wB ⟨rfl, hT, _⟩
            clear T d4 e4 q1 q2 x20 x21 x22 x23 x24 x25 x26
            have T := Lib.hid hT
            have d4 := hT.old (B1.out.cell 4) (by have := B1.out.lt; exact this)
            have e4 := hT.old (B2.out.cell 4) (by have := B2.out.lt; exact this)
            have q1 := hT.c1
            have q2 := hT.c2
            simp at d4 e4
            clear hT
            try dsimp only
            go_wp2_with fail
            exact ⟨⟨k + 1, by omega, by go_num, T.out⟩, by simp [intOf]; omega⟩
        · go_wp2_with fail
          exact ⟨⟨k + 1, by omega, by go_num, T.out⟩, by simp [intOf]; omega⟩
    · by_cases h2 : k < l2.length
      · rcases p2 with _ | r2
        · go_wp2_with fail
          exact ⟨⟨k + 1, by omega, by go_num, T.out⟩, by simp [intOf]; omega⟩
        · obtain ⟨g2, o2, A2', e2', Ar2, er2, rfl, gl2, hr2, hd2, hrr2, u21, u22, u23⟩ := R2.out.at_ h2
          have HR2 := Lib.hid hr2
          have HD2 := Lib.hid hd2
          have HS2 := Lib.hid hrr2
          have x2 := hr2.frm T.out.frm (Nat.not_le.2 gl2)
          have x20 := x2.c0
          have x21 := x2.c1
          have x22 := x2.c2
          have x23 := x2.c3
          have x24 := x2.c4
          have x25 := x2.c5
          have x26 := x2.c6
          clear hr2 hd2 hrr2 x2

          go_wp2_with fail
          refine (T.out.step2 _ _ _ _ _ _ _ _ _ _ _ HD2.out HS2.out u21 u22 u23).mono ?_
          rintro _ wA ⟨rfl, hT, _⟩
          clear T d4 e4 q1 q2 x20 x21 x22 x23 x24 x25 x26
          have T := Lib.hid hT
          have d4 := hT.old (B1.out.cell 4) (by have := B1.out.lt; exact this)
          have e4 := hT.old (B2.out.cell 4) (by have := B2.out.lt; exact this)
          have q1 := hT.c1
          have q2 := hT.c2
          simp at d4 e4
          clear hT
          try dsimp only
          go_wp2_with fail
          exact ⟨⟨k + 1, by omega, by go_num, T.out⟩, by simp [intOf]; omega⟩
      · go_wp2_with fail
        clear d4 e4 q1 q2 B1 B2 R1 R2 HN1 HN2 h1l h2l hk h1 h2
        go_loopw [10] (fun i wz => ∃ j : Nat, j ≤ 64 ∧ i = .int .i64 j ∧ TwoI w1 wz bb1 bb2 p1 p2 noB) (fun i _ => 64 - (intOf i).toNat)
        case atStart => exact ⟨0, Nat.zero_le _, rfl, T.out⟩
        case round =>
          obtain ⟨j, hj, rfl, hT⟩ := hrel
          clear T
          have T := Lib.hid hT
          clear hT
          by_cases hj' : j < 64
          · have b := Blk.new wr 68 #[.int .i64 6, .int .i64 0, .int .u64 0, .int .i64 0, .int .i64 j, .slice none 0 0, .slice none 0 0]
            have hT := T.out.new_ (.cells #[.int .i64 6, .int .i64 0, .int .u64 0, .int .i64 0, .int .i64 j, .slice none 0 0, .slice none 0 0] 68)
            clear T
            have B := Lib.hid b
            have T := Lib.hid hT
            clear b hT
            go_upto_region 14 with fail
            generalize wr.alloc (.cells #[.int .i64 6, .int .i64 0, .int .u64 0, .int .i64 0, .int .i64 j, .slice none 0 0, .slice none 0 0] 68) = wa at *
            have q1 := T.out.c1
            have q2 := T.out.c2
            have x0 := B.out.cell 0
            have x1 := B.out.cell 1
            have x2 := B.out.cell 2
            have x3 := B.out.cell 3
            have x4 := B.out.cell 4
            have x5 := B.out.cell 5
            have x6 := B.out.cell 6
            simp at x0 x1 x2 x3 x4 x5 x6
            rcases p1 with _ | r1
            · rcases p2 with _ | r2
              · go_wp2_with fail
                exact ⟨⟨j + 1, by omega, by go_num, T.out.no⟩, by simp [intOf]; omega⟩
              · go_wp2_with fail
                refine (T.out.col2 _).mono ?_
                rintro _ wb ⟨rfl, hT, hf⟩
                clear T q1 q2 x0 x1 x2 x3 x4 x5 x6
                have T := Lib.hid hT
                replace B := Lib.hid (B.out.frm hf fun h => h rfl)
                clear hT hf
                have q1 := T.out.c1
                have q2 := T.out.c2
                have x0 := B.out.cell 0
                have x1 := B.out.cell 1
                have x2 := B.out.cell 2
                have x3 := B.out.cell 3
                have x4 := B.out.cell 4
                have x5 := B.out.cell 5
                have x6 := B.out.cell 6
                simp at x0 x1 x2 x3 x4 x5 x6

                try dsimp only
                go_wp2_with fail
                exact ⟨⟨j + 1, by omega, by go_num, T.out.no⟩, by simp [intOf]; omega⟩
            · go_wp2_with fail
              refine (T.out.col1 _).mono ?_
              rintro _ wb ⟨rfl, hT, hf⟩
              clear T q1 q2 x0 x1 x2 x3 x4 x5 x6
              have T := Lib.hid hT
              replace B := Lib.hid (B.out.frm hf fun h => h rfl)
              clear hT hf
              have q1 := T.out.c1
              have q2 := T.out.c2
              have x0 := B.out.cell 0
              have x1 := B.out.cell 1
              have x2 := B.out.cell 2
              have x3 := B.out.cell 3
              have x4 := B.out.cell 4
              have x5 := B.out.cell 5
              have x6 := B.out.cell 6
              simp at x0 x1 x2 x3 x4 x5 x6

              try dsimp only
              rcases p2 with _ | r2
              · go_wp2_with fail
                exact ⟨⟨j + 1, by omega, by go_num, T.out.no⟩, by simp [intOf]; omega⟩
              · go_wp2_with fail
                refine (T.out.col2 _).mono ?_
                rintro _ wc ⟨rfl, hT, hf⟩
                clear T q1 q2 x0 x1 x2 x3 x4 x5 x6
                have T := Lib.hid hT
                replace B := Lib.hid (B.out.frm hf fun h => h rfl)
                clear hT hf
                have q1 := T.out.c1
                have q2 := T.out.c2
                have x0 := B.out.cell 0
                have x1 := B.out.cell 1
                have x2 := B.out.cell 2
                have x3 := B.out.cell 3
                have x4 := B.out.cell 4
                have x5 := B.out.cell 5
                have x6 := B.out.cell 6
                simp at x0 x1 x2 x3 x4 x5 x6

                try dsimp only
                go_wp2_with fail
                exact ⟨⟨j + 1, by omega, by go_num, T.out.no⟩, by simp [intOf]; omega⟩
          · obtain ⟨a1, a2, m1, m2, x1, x2, x3, x4, x5, x6⟩ := T.out.fin
            have F0 := T.out.frm
            go_wp2_with fail
            go_quiet (fail)
            go_wp2_with fail
            go_ret
            exact ⟨rfl, (F1.out.trans F0 fun x hx hge => absurd (Nat.le_trans F1.out.size hge) (Nat.not_le.2 hx)).drewN _⟩
end Go.Proofs.Ytjnoddbhfcpniaa
