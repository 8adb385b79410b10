/- The walk of the law OpTable. -/
import Derived.Test.YtmmdkpnoncnjnaaRfNm
import Derived.Test.YtmmdkpnoncnjnaaOpTabG
import Derived.Test.YtmmdkpnoncnjnaaInsJ
namespace Go.Proofs.Ytmmdkpnoncnjnaa
open Go.RowKit
attribute [local go_sem] rowVal

theorem four_cells {w : World} {g : Nat} {t : TypeId} {a b c d : Value} (h : Blk w g t #[a, b, c, d]) : w.cell? ⟨g, 0, none⟩ = some a ∧ w.cell? ⟨g, 1, none⟩ = some b ∧ w.cell? ⟨g, 2, none⟩ = some c ∧ w.cell? ⟨g, 3, none⟩ = some d ∧ g < w.heap.size :=
  ⟨h.cell 0, h.cell 1, h.cell 2, h.cell 3, h.lt⟩
set_option maxRecDepth 100000 in
set_option maxHeartbeats 4000000 in
theorem table_walk (n : Int) (name : ByteArray) (w : World) :
    Calls Try.prog 9 #[.int .i64 n, .string name] w fun e w' => e = .returned (.bool true) ∧ Below w.heap.size w w' := by
  go_enter Try.func9, Try.ntmps9
  go_wp2_with fail
  refine (known_any _).mono ?_
  rintro e w1 ⟨rfl, hb1⟩
  go_wp2_with fail
  go_loopw [5] (fun i wr => ∃ j : Int, -2 ≤ j ∧ j ≤ 49 ∧ i = .int .i64 j ∧ Below w.heap.size w wr) (fun i _ => (49 - intOf i).toNat)
  case atStart => exact ⟨-2, by decide, by decide, rfl, hb1⟩
  case round =>
    rename World => w2
    obtain ⟨j, hj1, hj2, rfl, hB⟩ := hrel
    have hz2 := hB.size
    have HB2 := Lib.hid hB
    clear hB
    by_cases hlt : j < 49
    · obtain ⟨rA, hrA⟩ : ∃ rA, rowAt shapeTab j = rA := ⟨_, rfl⟩
      obtain ⟨rS, hrS⟩ : ∃ rS, rowAt callTab j = rS := ⟨_, rfl⟩
      have hnA := tab_named shapeTab shape_named j
      have hnS := tab_named callTab call_named j
      rw [hrA] at hnA
      rw [hrS] at hnS
      obtain ⟨⟨nm, qa, qb, qc⟩, oa⟩ := rA
      obtain ⟨⟨sm, sa, sb, sc⟩, os⟩ := rS
      dsimp only at hnA hnS
      have HnA := Lib.hid hnA
      have HnS := Lib.hid hnS
      have h1 := of_any j w2
      rw [hrA] at h1
      have H1 := Lib.hid h1
      have h2 := fun w => refOf_any j w
      unfold OfPost at h2
      rw [hrA] at h2
      have H2 := Lib.hid h2
      have h3 := fun w => sys_any j w
      rw [hrS] at h3
      have H3 := Lib.hid h3
      have h4 := fun w => refSys_any j w
      unfold OfPost at h4
      rw [hrS] at h4
      have H4 := Lib.hid h4
      clear h1 h2 h3 h4 hnA hnS hrA hrS
      go_wp2_with fail
      refine H1.out.mono ?_
      rintro e w3 ⟨rfl, hb3⟩
      have hz3 := hb3.size
      have HB3 := Lib.hid (HB2.out.trans (hb3.mono hz2))
      clear hb3
      go_wp2_with fail
      obtain ⟨w4, hw4⟩ : ∃ w4, w4 = w3.alloc (.cells #[.string ⟨nm.toArray⟩, .int .i64 qa, .int .i64 qb, .int .i64 qc] 23) := ⟨_, rfl⟩
      rw [← hw4]
      have hA4 : Blk w4 w3.heap.size 23 #[.string ⟨nm.toArray⟩, .int .i64 qa, .int .i64 qb, .int .i64 qc] := by rw [hw4]; exact Blk.new _ _ _
      have HB4 := Lib.hid (show Below w.heap.size w w4 from by rw [hw4]; exact HB3.out.alloc HB3.out.size _)
      have hz4 : w3.heap.size ≤ w4.heap.size := by have := hA4.lt; omega
      clear hw4
      refine (H2.out w4).mono ?_
      rintro e w5 ⟨rfl, hb5⟩
      have hz5 := hb5.size
      have hA5 := hA4.below hb5 hA4.lt
      have HB5 := Lib.hid (HB4.out.trans (hb5.mono HB4.out.size))
      clear hb5 hA4
      go_wp2_with fail
      obtain ⟨w6, hw6⟩ : ∃ w6, w6 = w5.alloc (.cells #[.string ⟨nm.toArray⟩, .int .i64 qa, .int .i64 qb, .int .i64 qc] 56) := ⟨_, rfl⟩
      rw [← hw6]
      have hR6 : Blk w6 w5.heap.size 56 #[.string ⟨nm.toArray⟩, .int .i64 qa, .int .i64 qb, .int .i64 qc] := by rw [hw6]; exact Blk.new _ _ _
      have hA6 : Blk w6 w3.heap.size 23 #[.string ⟨nm.toArray⟩, .int .i64 qa, .int .i64 qb, .int .i64 qc] := by rw [hw6]; exact hA5.alloc _
      have HB6 := Lib.hid (show Below w.heap.size w w6 from by rw [hw6]; exact HB5.out.alloc HB5.out.size _)
      have hz6 : w5.heap.size ≤ w6.heap.size := by have := hR6.lt; omega
      clear hw6 hA5
      refine (H3.out w6).mono ?_
      rintro e w7 ⟨rfl, hb7⟩
      have hz7 := hb7.size
      have hA7 := hA6.below hb7 hA6.lt
      have hR7 := hR6.below hb7 hR6.lt
      have HB7 := Lib.hid (HB6.out.trans (hb7.mono HB6.out.size))
      clear hb7 hA6 hR6
      go_wp2_with fail
      obtain ⟨w8, hw8⟩ : ∃ w8, w8 = w7.alloc (.cells #[.string ⟨sm.toArray⟩, .int .i64 sa, .int .i64 sb, .int .i64 sc] 23) := ⟨_, rfl⟩
      rw [← hw8]
      have hS8 : Blk w8 w7.heap.size 23 #[.string ⟨sm.toArray⟩, .int .i64 sa, .int .i64 sb, .int .i64 sc] := by rw [hw8]; exact Blk.new _ _ _
      have hA8 : Blk w8 w3.heap.size 23 #[.string ⟨nm.toArray⟩, .int .i64 qa, .int .i64 qb, .int .i64 qc] := by rw [hw8]; exact hA7.alloc _
      have hR8 : Blk w8 w5.heap.size 56 #[.string ⟨nm.toArray⟩, .int .i64 qa, .int .i64 qb, .int .i64 qc] := by rw [hw8]; exact hR7.alloc _
      have HB8 := Lib.hid (show Below w.heap.size w w8 from by rw [hw8]; exact HB7.out.alloc HB7.out.size _)
      have hz8 : w7.heap.size ≤ w8.heap.size := by have := hS8.lt; omega
      clear hw8 hA7 hR7
      refine (H4.out w8).mono ?_
      rintro e w9 ⟨rfl, hb9⟩
      have hz9 := hb9.size
      have hA9 := hA8.below hb9 hA8.lt
      have hR9 := hR8.below hb9 hR8.lt
      have hS9 := hS8.below hb9 hS8.lt
      have HB9 := Lib.hid (HB8.out.trans (hb9.mono HB8.out.size))
      clear hb9 hA8 hR8 hS8
      obtain ⟨a0, a1, a2, a3, al⟩ := four_cells hA9
      obtain ⟨r0, r1, r2, r3, rl⟩ := four_cells hR9
      have HA9 := Lib.hid hA9
      have HR9 := Lib.hid hR9
      have HS9 := Lib.hid hS9
      clear hA9 hR9 hS9
      go_wp2_with fail
      obtain ⟨w10, hw10⟩ : ∃ w10, w10 = w9.alloc (.cells #[.string ⟨sm.toArray⟩, .int .i64 sa, .int .i64 sb, .int .i64 sc] 56) := ⟨_, rfl⟩
      rw [← hw10]
      have hT10 : Blk w10 w9.heap.size 56 #[.string ⟨sm.toArray⟩, .int .i64 sa, .int .i64 sb, .int .i64 sc] := by rw [hw10]; exact Blk.new _ _ _
      have hR10 : Blk w10 w5.heap.size 56 #[.string ⟨nm.toArray⟩, .int .i64 qa, .int .i64 qb, .int .i64 qc] := by rw [hw10]; exact HR9.out.alloc _
      have hS10 : Blk w10 w7.heap.size 23 #[.string ⟨sm.toArray⟩, .int .i64 sa, .int .i64 sb, .int .i64 sc] := by rw [hw10]; exact HS9.out.alloc _
      have HB10 := Lib.hid (show Below w.heap.size w w10 from by rw [hw10]; exact HB9.out.alloc HB9.out.size _)
      clear hw10 HA9 HR9 HS9
      have HS10 := Lib.hid hS10
      have HT10 := Lib.hid hT10
      have HR10 := Lib.hid hR10
      clear hR10 hS10 hT10 a0 a1 a2 a3 r0 r1 r2 r3
      refine (shape_same ⟨nm.toArray⟩ qa qb qc w10).mono ?_
      rintro e w11 ⟨rfl, hb11⟩
      obtain ⟨s0, s1, s2, s3, sl⟩ := four_cells (HS10.out.below hb11 HS10.out.lt)
      obtain ⟨t0, t1, t2, t3, tl⟩ := four_cells (HT10.out.below hb11 HT10.out.lt)
      have HS11 := Lib.hid (HS10.out.below hb11 HS10.out.lt)
      have HT11 := Lib.hid (HT10.out.below hb11 HT10.out.lt)
      have HR11 := Lib.hid (HR10.out.below hb11 HR10.out.lt)
      have HB11 := Lib.hid (HB10.out.trans (hb11.mono HB10.out.size))
      clear hb11
      go_wp2_with fail
      refine (shape_same ⟨sm.toArray⟩ sa sb sc w11).mono ?_
      rintro e w12 ⟨rfl, hb12⟩
      have hT12 := HT11.out.below hb12 HT11.out.lt
      have hR12 := HR11.out.below hb12 HR11.out.lt
      have r0 : w12.cell? ⟨w5.heap.size, 0, none⟩ = some (.string ⟨nm.toArray⟩) := hR12.cell 0
      have t0' : w12.cell? ⟨w9.heap.size, 0, none⟩ = some (.string ⟨sm.toArray⟩) := hT12.cell 0
      have rl' := hR12.lt
      have tl' := hT12.lt
      have HB12 := Lib.hid (HB11.out.trans (hb12.mono HB11.out.size))
      have HT12 := Lib.hid hT12
      clear hb12 s0 s1 s2 s3 t0 t1 t2 t3 hT12 hR12
      have hnamA : oa = true → Hid (∀ w, Calls Try.prog 11 #[.string ⟨nm.toArray⟩] w fun e w' => e = .returned (.tuple #[.int .i64 j, .bool true]) ∧ Below w.heap.size w w') := fun h => Lib.hid fun w => by
        have h2 := named_any ⟨nm.toArray⟩ w
        rw [toList_mk, HnA.out h] at h2
        exact h2
      have hnamS : os = true → Hid (∀ w, Calls Try.prog 14 #[.string ⟨sm.toArray⟩] w fun e w' => e = .returned (.tuple #[.int .i64 j, .bool true]) ∧ Below w.heap.size w w') := fun h => Lib.hid fun w => by
        have h2 := sysNamed_any ⟨sm.toArray⟩ w
        rw [toList_mk, HnS.out h] at h2
        exact h2
      cases oa with
      | false =>
        clear hnamA
        cases os with
        | false =>
          clear hnamS
          go_wp2_with fail
          exact ⟨⟨j + 1, by omega, by omega, rfl, HB12.out⟩, by simp [intOf]; omega⟩
        | true =>
          have HnS2 := hnamS rfl
          clear hnamS
          go_wp2_with fail
          refine (HnS2.out _).mono ?_
          rintro e w13 ⟨rfl, hb13⟩
          have HB13 := Lib.hid (HB12.out.trans (hb13.mono HB12.out.size))
          clear hb13
          go_wp2_with fail
          exact ⟨⟨j + 1, by omega, by omega, rfl, HB13.out⟩, by simp [intOf]; omega⟩
      | true =>
        have HnA2 := hnamA rfl
        clear hnamA
        go_wp2_with fail
        refine (HnA2.out _).mono ?_
        rintro e w13 ⟨rfl, hb13⟩
        have HB13 := Lib.hid (HB12.out.trans (hb13.mono HB12.out.size))
        have hT13 := HT12.out.below hb13 HT12.out.lt
        have t0'' : w13.cell? ⟨w9.heap.size, 0, none⟩ = some (.string ⟨sm.toArray⟩) := hT13.cell 0
        have tl'' := hT13.lt
        clear hb13 hT13 t0' r0
        cases os with
        | false =>
          clear hnamS
          go_wp2_with fail
          exact ⟨⟨j + 1, by omega, by omega, rfl, HB13.out⟩, by simp [intOf]; omega⟩
        | true =>
          have HnS2 := hnamS rfl
          clear hnamS
          go_wp2_with fail
          refine (HnS2.out _).mono ?_
          rintro e w14 ⟨rfl, hb14⟩
          have HB14 := Lib.hid (HB13.out.trans (hb14.mono HB13.out.size))
          clear hb14
          go_wp2_with fail
          exact ⟨⟨j + 1, by omega, by omega, rfl, HB14.out⟩, by simp [intOf]; omega⟩
    · have hnl : ¬ j < 49 := hlt
      obtain ⟨rA, hrA⟩ : ∃ rA, rowAt shapeTab n = rA := ⟨_, rfl⟩
      obtain ⟨rS, hrS⟩ : ∃ rS, rowAt callTab n = rS := ⟨_, rfl⟩
      obtain ⟨⟨nm, qa, qb, qc⟩, oa⟩ := rA
      obtain ⟨⟨sm, sa, sb, sc⟩, os⟩ := rS
      have h1 := of_any n w2
      rw [hrA] at h1
      have H1 := Lib.hid h1
      have h2 := fun w => refOf_any n w
      unfold OfPost at h2
      rw [hrA] at h2
      have H2 := Lib.hid h2
      have h3 := fun w => sys_any n w
      rw [hrS] at h3
      have H3 := Lib.hid h3
      have h4 := fun w => refSys_any n w
      unfold OfPost at h4
      rw [hrS] at h4
      have H4 := Lib.hid h4
      clear h1 h2 h3 h4 hrA hrS
      go_wp2_with fail
      refine H1.out.mono ?_
      rintro e w3 ⟨rfl, hb3⟩
      have hz3 := hb3.size
      have HB3 := Lib.hid (HB2.out.trans (hb3.mono hz2))
      clear hb3
      go_wp2_with fail
      obtain ⟨w4, hw4⟩ : ∃ w4, w4 = w3.alloc (.cells #[.string ⟨nm.toArray⟩, .int .i64 qa, .int .i64 qb, .int .i64 qc] 23) := ⟨_, rfl⟩
      rw [← hw4]
      have hA4 : Blk w4 w3.heap.size 23 #[.string ⟨nm.toArray⟩, .int .i64 qa, .int .i64 qb, .int .i64 qc] := by rw [hw4]; exact Blk.new _ _ _
      have HB4 := Lib.hid (show Below w.heap.size w w4 from by rw [hw4]; exact HB3.out.alloc HB3.out.size _)
      have hz4 : w3.heap.size ≤ w4.heap.size := by have := hA4.lt; omega
      clear hw4
      refine (H2.out w4).mono ?_
      rintro e w5 ⟨rfl, hb5⟩
      have hz5 := hb5.size
      have hA5 := hA4.below hb5 hA4.lt
      have HB5 := Lib.hid (HB4.out.trans (hb5.mono HB4.out.size))
      clear hb5 hA4
      go_wp2_with fail
      obtain ⟨w6, hw6⟩ : ∃ w6, w6 = w5.alloc (.cells #[.string ⟨nm.toArray⟩, .int .i64 qa, .int .i64 qb, .int .i64 qc] 56) := ⟨_, rfl⟩
      rw [← hw6]
      have hR6 : Blk w6 w5.heap.size 56 #[.string ⟨nm.toArray⟩, .int .i64 qa, .int .i64 qb, .int .i64 qc] := by rw [hw6]; exact Blk.new _ _ _
      have hA6 : Blk w6 w3.heap.size 23 #[.string ⟨nm.toArray⟩, .int .i64 qa, .int .i64 qb, .int .i64 qc] := by rw [hw6]; exact hA5.alloc _
      have HB6 := Lib.hid (show Below w.heap.size w w6 from by rw [hw6]; exact HB5.out.alloc HB5.out.size _)
      have hz6 : w5.heap.size ≤ w6.heap.size := by have := hR6.lt; omega
      clear hw6 hA5
      refine (H3.out w6).mono ?_
      rintro e w7 ⟨rfl, hb7⟩
      have hz7 := hb7.size
      have hA7 := hA6.below hb7 hA6.lt
      have hR7 := hR6.below hb7 hR6.lt
      have HB7 := Lib.hid (HB6.out.trans (hb7.mono HB6.out.size))
      clear hb7 hA6 hR6
      go_wp2_with fail
      obtain ⟨w8, hw8⟩ : ∃ w8, w8 = w7.alloc (.cells #[.string ⟨sm.toArray⟩, .int .i64 sa, .int .i64 sb, .int .i64 sc] 23) := ⟨_, rfl⟩
      rw [← hw8]
      have hS8 : Blk w8 w7.heap.size 23 #[.string ⟨sm.toArray⟩, .int .i64 sa, .int .i64 sb, .int .i64 sc] := by rw [hw8]; exact Blk.new _ _ _
      have hA8 : Blk w8 w3.heap.size 23 #[.string ⟨nm.toArray⟩, .int .i64 qa, .int .i64 qb, .int .i64 qc] := by rw [hw8]; exact hA7.alloc _
      have hR8 : Blk w8 w5.heap.size 56 #[.string ⟨nm.toArray⟩, .int .i64 qa, .int .i64 qb, .int .i64 qc] := by rw [hw8]; exact hR7.alloc _
      have HB8 := Lib.hid (show Below w.heap.size w w8 from by rw [hw8]; exact HB7.out.alloc HB7.out.size _)
      have hz8 : w7.heap.size ≤ w8.heap.size := by have := hS8.lt; omega
      clear hw8 hA7 hR7
      refine (H4.out w8).mono ?_
      rintro e w9 ⟨rfl, hb9⟩
      have hz9 := hb9.size
      have hA9 := hA8.below hb9 hA8.lt
      have hR9 := hR8.below hb9 hR8.lt
      have hS9 := hS8.below hb9 hS8.lt
      have HB9 := Lib.hid (HB8.out.trans (hb9.mono HB8.out.size))
      clear hb9 hA8 hR8 hS8
      obtain ⟨pA, hpA⟩ : ∃ pA, placeFrom name.toList shapeTab 0 = pA := ⟨_, rfl⟩
      obtain ⟨pS, hpS⟩ : ∃ pS, placeFrom name.toList callTab 0 = pS := ⟨_, rfl⟩
      obtain ⟨ia, ba⟩ := pA
      obtain ⟨is, bs⟩ := pS
      have n1 := fun w => named_any name w
      have n2 := fun w => refNamed_any name w
      have n3 := fun w => sysNamed_any name w
      have n4 := fun w => refSysNamed_any name w
      rw [hpA] at n1 n2
      rw [hpS] at n3 n4
      have N1 := Lib.hid n1
      have N2 := Lib.hid n2
      have N3 := Lib.hid n3
      have N4 := Lib.hid n4
      clear n1 n2 n3 n4 hpA hpS
      have HA9 := Lib.hid hA9
      have HR9 := Lib.hid hR9
      have HS9 := Lib.hid hS9
      clear hA9 hR9 hS9
      go_wp2_with fail
      obtain ⟨w10, hw10⟩ : ∃ w10, w10 = w9.alloc (.cells #[.string ⟨sm.toArray⟩, .int .i64 sa, .int .i64 sb, .int .i64 sc] 56) := ⟨_, rfl⟩
      rw [← hw10]
      have hT10 : Blk w10 w9.heap.size 56 #[.string ⟨sm.toArray⟩, .int .i64 sa, .int .i64 sb, .int .i64 sc] := by rw [hw10]; exact Blk.new _ _ _
      have hA10 : Blk w10 w3.heap.size 23 #[.string ⟨nm.toArray⟩, .int .i64 qa, .int .i64 qb, .int .i64 qc] := by rw [hw10]; exact HA9.out.alloc _
      have hR10 : Blk w10 w5.heap.size 56 #[.string ⟨nm.toArray⟩, .int .i64 qa, .int .i64 qb, .int .i64 qc] := by rw [hw10]; exact HR9.out.alloc _
      have hS10 : Blk w10 w7.heap.size 23 #[.string ⟨sm.toArray⟩, .int .i64 sa, .int .i64 sb, .int .i64 sc] := by rw [hw10]; exact HS9.out.alloc _
      have HB10 := Lib.hid (show Below w.heap.size w w10 from by rw [hw10]; exact HB9.out.alloc HB9.out.size _)
      clear hw10 HA9 HR9 HS9
      refine (N1.out w10).mono ?_
      rintro e w11 ⟨rfl, hb11⟩
      have hA11 := hA10.below hb11 hA10.lt
      have hR11 := hR10.below hb11 hR10.lt
      have hS11 := hS10.below hb11 hS10.lt
      have hT11 := hT10.below hb11 hT10.lt
      have HB11 := Lib.hid (HB10.out.trans (hb11.mono HB10.out.size))
      have HA11 := Lib.hid hA11
      have HR11 := Lib.hid hR11
      have HS11 := Lib.hid hS11
      have HT11 := Lib.hid hT11
      clear hb11 hA10 hR10 hS10 hT10 hA11 hR11 hS11 hT11
      go_wp2_with fail
      refine (N2.out w11).mono ?_
      rintro e w12 ⟨rfl, rfl⟩
      go_wp2_with fail
      refine (N3.out w12).mono ?_
      rintro e w13 ⟨rfl, hb13⟩
      obtain ⟨a0, a1, a2, a3, al⟩ := four_cells (HA11.out.below hb13 HA11.out.lt)
      obtain ⟨r0, r1, r2, r3, rl⟩ := four_cells (HR11.out.below hb13 HR11.out.lt)
      have HS13 := Lib.hid (HS11.out.below hb13 HS11.out.lt)
      have HT13 := Lib.hid (HT11.out.below hb13 HT11.out.lt)
      have HB13 := Lib.hid (HB11.out.trans (hb13.mono HB11.out.size))
      clear hb13 HA11 HR11 HS11 HT11
      go_wp2_with fail
      refine (N4.out w13).mono ?_
      rintro e w14 ⟨rfl, rfl⟩
      have e1 : (oa == oa) = true := by simp
      have e2 : (os == os) = true := by simp
      have e3 : (ba == ba) = true := by simp
      have e4 : (bs == bs) = true := by simp
      go_wp2_with fail
      refine (shape_same ⟨nm.toArray⟩ qa qb qc w14).mono ?_
      rintro e w15 ⟨rfl, hb15⟩
      obtain ⟨s0, s1, s2, s3, sl⟩ := four_cells (HS13.out.below hb15 HS13.out.lt)
      obtain ⟨t0, t1, t2, t3, tl⟩ := four_cells (HT13.out.below hb15 HT13.out.lt)
      have HB15 := Lib.hid (HB13.out.trans (hb15.mono HB13.out.size))
      clear hb15 a0 a1 a2 a3 r0 r1 r2 r3
      go_wp2_with fail
      refine (shape_same ⟨sm.toArray⟩ sa sb sc w15).mono ?_
      rintro e w16 ⟨rfl, hb16⟩
      have HB16 := Lib.hid (HB15.out.trans (hb16.mono HB15.out.size))
      clear hb16
      go_wp2_with fail
      go_ret
      exact ⟨rfl, HB16.out⟩
end Go.Proofs.Ytmmdkpnoncnjnaa
