/- The walk of op's Encode. -/
import Derived.Test.YtmmdkpnoncnjnaaOpKind
namespace Go.Proofs.Ytmmdkpnoncnjnaa
open Go.RowKit
attribute [local go_sem] rowVal

theorem insCells_len (l : List Ins) : (l.flatMap insCells).length = l.length * 2 := by
  induction l with
  | nil => rfl
  | cons x l ih => rw [List.flatMap_cons, List.length_append, ih, List.length_cons]; simp [insCells]; omega
theorem insCells_get (l : List Ins) (k j : Nat) (hk : k < l.length) (hj : j < 2) : (l.flatMap insCells)[k * 2 + j]? = (insCells l[k])[j]? := by
  induction l generalizing k with
  | nil => cases hk
  | cons x l ih =>
    rw [List.flatMap_cons]
    cases k with
    | zero =>
      rw [Nat.zero_mul, Nat.zero_add, List.getElem?_append_left (by simp [insCells]; omega)]
      rfl
    | succ k =>
      rw [List.getElem?_append_right (by simp [insCells]; omega), show (k + 1) * 2 + j - (insCells x).length = k * 2 + j from by simp [insCells]; omega]
      exact ih k (by simpa using hk)
/-- An instruction's numbers are ints. -/
structure InsOk (i : Ins) : Prop where
  o1 : -9223372036854775808 ≤ i.op
  o2 : i.op ≤ 9223372036854775807
  a1 : -9223372036854775808 ≤ i.a
  a2 : i.a ≤ 9223372036854775807
def EncPost (w : World) (r : List UInt8 × Int) (e : Ending) (w' : World) : Prop :=
  ∃ A2 c2, e = .returned (.tuple #[.slice A2 r.1.length c2, .int .i64 r.2]) ∧ OwnB w' w.heap.size A2 r.1.length c2 r.1 ∧ Below w.heap.size w w'
set_option maxRecDepth 100000 in
set_option maxHeartbeats 2000000 in
theorem encode_any (A : Option Addr) (c : Nat) (l : List Ins) (w : World) (hR : RV w A (l.flatMap insCells)) (hok : ∀ i ∈ l, InsOk i) (hl : l.length ≤ maxLen) :
    Calls Try.prog 17 #[.slice A l.length c] w (EncPost w (encL l)) := by
  unfold maxLen at hl
  have HR := Lib.hid hR
  have Hok := Lib.hid hok
  clear hR hok
  by_cases hbig : 4096 < l.length
  · have g1 : (4096 : Int) < (l.length : Int) := by omega
    have e : encL l = ([], 2) := by unfold encL; rw [if_pos hbig]
    rw [e]
    go_enter Try.func17, Try.ntmps17
    go_wp2_with fail
    go_ret2
    exact ⟨none, 0, rfl, Own.nil _ _ _ _, Below.refl _ _⟩
  have g1 : ¬ (4096 : Int) < (l.length : Int) := by omega
  have e : encL l = encFrom [] l := by unfold encL; rw [if_neg hbig]
  rw [e]
  obtain ⟨R, hRe⟩ : ∃ R, R = encFrom [] l := ⟨_, rfl⟩
  rw [← hRe]
  have HRe := Lib.hid hRe
  clear e hRe
  go_enter Try.func17, Try.ntmps17
  go_wp2_with fail
  refine (new_any _).mono ?_
  rintro e w1 ⟨rfl, hw1⟩
  have hW1 : Wr w1 w.heap.size w.heap.size none 0 [] 0 := by rw [hw1]; exact ⟨Blk.new w _ _, Own.nil _ _ _ _⟩
  have hb1 : Below w.heap.size w w1 := by rw [hw1]; exact (Below.refl _ _).alloc (Nat.le_refl _) _
  have hz1 := hW1.blk.lt
  clear hw1
  go_wp2_with fail
  refine (operands_any w1).mono ?_
  rintro e w2 ⟨go, p, rfl, hops, hgo, hpk, hb2⟩
  have hz2 := hb2.size
  go_wp2_with fail
  refine (shapes_any w2).mono ?_
  rintro e w3 ⟨gs, rfl, hgs, htab, hb3⟩
  have htab : TabAt w3 gs shapeTab := htab
  have hz3 := hb3.size
  have hops3 : OpsAt w3 go p := ⟨hops.row.below hb3 hops.row.lt, fun k h1 h2 => (hops.box k h1 h2).below hb3 (hops.box k h1 h2).lt⟩
  have hW3 : Wr w3 w3.heap.size w.heap.size none 0 [] 0 := ⟨(hW1.blk.below hb2 hz1).below hb3 (by omega), Own.nil _ _ _ _⟩
  have Hb3 := Lib.hid (hb1.trans ((hb2.mono (by omega)).trans (hb3.mono (by omega))))
  have Hops := Lib.hid hops3
  have Htab := Lib.hid htab
  have HW3 := Lib.hid hW3
  have hgsl := htab.lt
  have hgol := hops3.row.lt
  have hpl : ∀ k, 2 ≤ k → k ≤ 6 → p k < w3.heap.size := fun k h1 h2 => (hops3.box k h1 h2).lt
  have hgw : w.heap.size < w3.heap.size := by omega
  have hgne : w.heap.size ≠ gs ∧ w.heap.size ≠ go ∧ ∀ k, 2 ≤ k → k ≤ 6 → w.heap.size ≠ p k := ⟨by omega, by omega, fun k h1 h2 => by have := hpk k h1 h2; omega⟩
  clear hops hops3 hW1 hW3 hb1 hb2 hb3 hgo hgs hpk htab hz1 hz2 hz3
  go_wp2_with fail
  go_loopw [20] (fun i wr => ∃ (k : Nat) (A' : Option Addr) (c' : Nat) (xs : List UInt8), k ≤ l.length ∧ i = .int .i64 k ∧ Wr wr w3.heap.size w.heap.size A' c' xs 0 ∧ xs.length ≤ 18 * k ∧ Hid (R = encFrom xs (l.drop k)) ∧ Only (fun b => b = w.heap.size) w3 wr) (fun i _ => l.length - (intOf i).toNat)
  case atStart => exact ⟨0, none, 0, [], Nat.zero_le _, rfl, HW3.out, by simp, HRe, Only.refl _ _⟩
  case round =>
    rename World => w4
    obtain ⟨k, A', c', xs, hk, rfl, hW, hxl, hRk, hO⟩ := hrel
    have hz4 := hO.size
    have hwl := hW.blk.lt
    have HW := Lib.hid hW
    have HO := Lib.hid hO
    clear hW hO
    by_cases hlt : k < l.length
    · have g2 : (k : Int) < (l.length : Int) := by omega
      have hB4 : Below w.heap.size w w4 := Hb3.out.trans (HO.out.below (by omega) fun b hb e => by omega)
      have hRr := HR.out.below hB4
      obtain ⟨b, off, rfl, hb, hc⟩ := hRr.at_ (by rw [insCells_len]; omega)
      have q0 := hc _ _ (insCells_get l k 0 hlt (by omega))
      have q1 := hc _ _ (insCells_get l k 1 hlt (by omega))
      have hx := Hok.out _ (List.getElem_mem hlt)
      have hdr : l.drop k = l[k] :: l.drop (k + 1) := List.drop_eq_getElem_cons hlt
      rw [hdr] at hRk
      obtain ⟨x, hxe⟩ : ∃ x : Ins, x = l[k] := ⟨_, rfl⟩
      rw [← hxe] at q0 q1 hx hRk
      rw [← Nat.add_assoc] at q1
      replace q0 : w4.cell? ⟨b, off + k * 2, none⟩ = some (.int .i64 x.op) := q0
      replace q1 : w4.cell? ⟨b, off + k * 2 + 1, none⟩ = some (.int .i64 x.a) := q1
      have HB4 := Lib.hid hB4
      clear hc hRr hdr hxe hB4
      go_wp2_with fail
      obtain ⟨w5, hw5⟩ : ∃ w5, w5 = w4.alloc (.cells #[.int .i64 x.op, .int .i64 x.a] 48) := ⟨_, rfl⟩
      rw [← hw5]
      have hb45 : Below w4.heap.size w4 w5 := by rw [hw5]; exact (Below.refl _ _).alloc (Nat.le_refl _) _
      have hX5 : Blk w5 w4.heap.size 48 #[.int .i64 x.op, .int .i64 x.a] := by rw [hw5]; exact Blk.new _ _ _
      have htab4 : TabAt w4 gs shapeTab := (Blk.only (show Blk w3 gs 23 (tabCells shapeTab).toArray from Htab.out) HO.out (by omega))
      have hops4 : OpsAt w4 go p := ⟨Hops.out.row.only HO.out (by omega), fun k h1 h2 => (Hops.out.box k h1 h2).only HO.out (by have := hgne.2.2 k h1 h2; omega)⟩
      have hrow := row_any gs 46 x.op w5 shapeTab rfl (by omega) (htab4.below hb45)
      obtain ⟨rv, hrv⟩ : ∃ rv, rv = (rowAt shapeTab x.op).1 := ⟨_, rfl⟩
      rw [← hrv, show (rowAt shapeTab x.op).2 = isOp x.op from rfl] at hrow
      have Hrv := Lib.hid hrv
      have Hrow := Lib.hid hrow
      have Hb45 := Lib.hid hb45
      have HX5 := Lib.hid hX5
      have Hops4 := Lib.hid hops4
      have Htab4 := Lib.hid htab4
      have hz5 := hX5.lt
      clear hrow hw5 hb45 hX5 hops4 htab4 hrv q0 q1
      refine Hrow.out.mono ?_
      rintro e w6 ⟨rfl, hb56⟩
      have hX6 := HX5.out.below hb56 hz5
      have x0 : w6.cell? ⟨w4.heap.size, 0, none⟩ = some (.int .i64 x.op) := hX6.cell 0
      have x1 : w6.cell? ⟨w4.heap.size, 1, none⟩ = some (.int .i64 x.a) := hX6.cell 1
      have hz6 := hX6.lt
      have Hb46 := Lib.hid (Hb45.out.trans (hb56.mono (by omega)))
      have HX6 := Lib.hid hX6
      clear hb56 hX6 Hrow HX5 Hb45
      cases hop : isOp x.op with
      | false =>
        have hRx : R = ([], 111) := by rw [hRk.out]; unfold encFrom; rw [if_pos hop]
        have hB : Below w.heap.size w w6 := HB4.out.trans (Hb46.out.mono (by omega))
        have HF := Lib.hid (show ∀ w', Below w6.heap.size w6 w' → EncPost w R (.returned (.tuple #[.slice none 0 0, .int .i64 111])) w' from fun w' h => by rw [hRx]; exact ⟨none, 0, rfl, Own.nil _ _ _ _, hB.trans (h.mono (by have := hB.size; omega))⟩)
        clear hRx hB
        go_wp2_with fail
        go_ret2
        exact HF.out _ ((Below.refl _ _).alloc (Nat.le_refl _) _)
      | true =>
        obtain ⟨nn, hnn, hn46, r, hr1, hr2, hkd, hk6⟩ := isOp_row hop
        rw [← Hrv.out] at hr2
        subst hr2
        obtain ⟨kd, hkde⟩ : ∃ kd, kd = kindN x.op := ⟨_, rfl⟩
        rw [← hkde] at hkd hk6
        have Hkde := Lib.hid hkde
        clear hkde
        obtain ⟨nm, q1, q2, q3⟩ := rv
        dsimp only at hkd
        subst hkd
        have hge : (0 : Int) ≤ (kd : Int) := by omega
        have hl7 : (kd : Int) < 7 := by omega
        go_wp2_with (refine wpList_at 36 rfl ?_; refine wp_stop ?_)
        refine ⟨?_⟩
        obtain ⟨w7, hw7⟩ : ∃ w7, w7 = w6.alloc (.cells #[.string ⟨nm.toArray⟩, .int .i64 (kd : Int), .int .i64 q2, .int .i64 q3] 23) := ⟨_, rfl⟩
        rw [← hw7]
        have hb67 : Below w6.heap.size w6 w7 := by rw [hw7]; exact (Below.refl _ _).alloc (Nat.le_refl _) _
        have hz67 := hb67.size
        have hb47 : Below w4.heap.size w4 w7 := Hb46.out.trans (hb67.mono (by omega))
        have hops7 : OpsAt w7 go p := ⟨Hops4.out.row.below hb47 (by omega), fun k h1 h2 => (Hops4.out.box k h1 h2).below hb47 (by have := hpl k h1 h2; omega)⟩
        obtain ⟨mf, mc, pf, tf, hK⟩ := kind_at p kd hk6
        have y0 : w7.cell? ⟨go, kd * 3, none⟩ = some (.func (.func mf) #[] mc) := by rw [hops7.row.at_]; exact hK.m0
        have y1 : w7.cell? ⟨go, kd * 3 + 1, none⟩ = some (.func (.func pf) #[] #[]) := by rw [hops7.row.at_]; exact hK.m1
        have y2 : w7.cell? ⟨go, kd * 3 + 2, none⟩ = some (.func (.func tf) #[] #[]) := by rw [hops7.row.at_]; exact hK.m2
        have x0' : w7.cell? ⟨w4.heap.size, 0, none⟩ = some (.int .i64 x.op) := by rw [(bcell hb67).1 _ _ hz6]; exact x0
        have x1' : w7.cell? ⟨w4.heap.size, 1, none⟩ = some (.int .i64 x.a) := by rw [(bcell hb67).1 _ _ hz6]; exact x1
        have hgl7 := hops7.row.lt
        have hxl7 : w4.heap.size < w7.heap.size := by omega
        have hcm := hK.cm
        have hcp := hK.cp
        have HK := Lib.hid hK
        have Hops7 := Lib.hid hops7
        have Hb47 := Lib.hid hb47
        clear hw7 hb67 hb47 hops7 hK x0 x1 Hb46 Hops4
        go_wp2_with (refine wpList_atStore 73 (.tmp 11) (.tmp 37) rfl ?_; refine wp_stop ?_)
        refine ⟨?_⟩
        refine wpList_storeB rfl 73 (.tmp 11) (.tmp 37) rfl [.func (.func mf) #[] mc, .func (.func pf) #[] #[], .func (.func tf) #[] #[]] rfl rfl (Blk.new w7 73 #[.nilFunc, .nilFunc, .nilFunc]) size_operand rfl (by intro v hv; simp only [List.mem_cons, List.not_mem_nil, or_false] at hv; rcases hv with rfl | rfl | rfl <;> rfl) ?_
        intro w8 hP8 hO8 hz8
        have hb78 : Below w7.heap.size w7 w8 := ((Below.refl _ _).alloc (Nat.le_refl _) _).trans ((hO8.below (B := w7.heap.size) (by simp) fun q hq e => by omega))
        have z0 : w8.cell? ⟨w7.heap.size, 0, none⟩ = some (.func (.func mf) #[] mc) := hP8.cell 0
        have z1 : w8.cell? ⟨w7.heap.size, 1, none⟩ = some (.func (.func pf) #[] #[]) := hP8.cell 1
        have x0 : w8.cell? ⟨w4.heap.size, 0, none⟩ = some (.int .i64 x.op) := by rw [(bcell hb78).1 _ _ hxl7]; exact x0'
        have x1 : w8.cell? ⟨w4.heap.size, 1, none⟩ = some (.int .i64 x.a) := by rw [(bcell hb78).1 _ _ hxl7]; exact x1'
        have hzl8 := hP8.lt
        have hxl8 : w4.heap.size < w8.heap.size := by omega
        have hops8 : OpsAt w8 go p := ⟨Hops7.out.row.below hb78 hgl7, fun k h1 h2 => (Hops7.out.box k h1 h2).below hb78 (by have := hpl k h1 h2; omega)⟩
        have hmay := HK.out.may x.a w8 go hops8
        have Hmay := Lib.hid hmay
        have Hb48 := Lib.hid (Hb47.out.trans (hb78.mono (by omega)))
        clear hP8 hO8 hz8 hb78 hops8 hmay x0' x1' y0 y1 y2 Hops7 Hb47
        go_wp2_with fail
        refine Hmay.out.mono ?_
        rintro e w8 ⟨rfl, rfl⟩
        clear Hmay
        cases hmb : mayB kd x.a with
        | false =>
          have hRx : R = ([], 112) := by rw [hRk.out]; unfold encFrom; rw [if_neg (by rw [hop]; decide), ← Hkde.out, if_pos hmb]
          have hB : Below w.heap.size w w8 := HB4.out.trans (Hb48.out.mono (by omega))
          have HF := Lib.hid (show EncPost w R (.returned (.tuple #[.slice none 0 0, .int .i64 112])) w8 from by rw [hRx]; exact ⟨none, 0, rfl, Own.nil _ _ _ _, hB⟩)
          clear hRx hB
          go_wp2_with fail
          go_ret2
          exact HF.out
        | true =>
          have hb48s := Hb48.out.size
          have hW8 := HW.out.below Hb48.out
          have hnum := num_any w3.heap.size w.heap.size A' c' xs 0 x.op w8 hW8 (by have := hx.o2; omega) (by omega) (by omega)
          unfold numL at hnum
          have hf9 := formL_le9 x.op.toNat
          rw [if_neg (by omega), putL_room (by omega)] at hnum
          have Hnum := Lib.hid hnum
          have hgl8 := hW8.blk.lt
          clear hnum hW8
          go_wp2_with fail
          refine Hnum.out.mono ?_
          rintro e w9 ⟨rfl, A9, c9, hW9, hA9, hO9⟩
          have hz9 := hO9.size
          have hfar : ∀ b, w4.heap.size ≤ b → ¬ wrS w.heap.size A' b := fun b hb h => by
            rcases h with h | h
            · omega
            · have := (HW.out.lenA b h).2.1; omega
          have z1' : w9.cell? ⟨w7.heap.size, 1, none⟩ = some (.func (.func pf) #[] #[]) := by rw [(ocell hO9).1 _ _ hzl8 (hfar _ (by omega))]; exact z1
          have x1' : w9.cell? ⟨w4.heap.size, 1, none⟩ = some (.int .i64 x.a) := by rw [(ocell hO9).1 _ _ hxl8 (hfar _ (by omega))]; exact x1
          have hzl9 : w7.heap.size < w9.heap.size := by omega
          have hxl9 : w4.heap.size < w9.heap.size := by omega
          have hput := HK.out.put x.a w9 w3.heap.size w.heap.size A9 c9 (xs ++ formL x.op.toNat) hmb hx.a1 hx.a2 hW9 (by rw [List.length_append]; omega) (by omega)
          have Hput := Lib.hid hput
          have HO9 : Hid (Only (fun b => b = w.heap.size) w3 w9) := Lib.hid (((HO.out.trans (Only.of_fresh Hb48.out)).more hO9 fun b hb h => by
            rcases h with h | h
            · exact h
            · have := (HW.out.lenA b h).1; omega))
          have HA9 := Lib.hid (fun b (h : A9.map (·.block) = some b) => (hW9.lenA b h).1)
          have hgl9 := hW9.blk.lt
          clear hput hW9 hA9 hO9 z1 x1 Hnum hfar
          go_wp2_with fail
          refine Hput.out.mono ?_
          rintro e w10 ⟨rfl, A10, c10, hW10, hA10, hO10⟩
          have HO10 : Hid (Only (fun b => b = w.heap.size) w3 w10) := Lib.hid (HO9.out.more hO10 fun b hb h => by
            rcases h with h | h
            · exact h
            · have := HA9.out b h; omega)
          have HW10 := Lib.hid hW10
          have hRn : Hid (R = encFrom (xs ++ insL x) (l.drop (k + 1))) := Lib.hid (by
            rw [hRk.out]
            conv => lhs; unfold encFrom
            rw [if_neg (by rw [hop]; decide), ← Hkde.out, if_neg (by rw [hmb]; decide)])
          have hxs : xs ++ formL x.op.toNat ++ argL kd x.a = xs ++ insL x := by unfold insL; rw [← Hkde.out, List.append_assoc]
          have hal : (argL kd x.a).length ≤ 9 := by
            unfold argL
            split
            · simp
            · split
              · exact formL_le9 _
              · exact formL_le9 _
          have hil : (insL x).length ≤ 18 := by unfold insL; rw [← Hkde.out, List.length_append]; omega
          have Hxs := Lib.hid hxs
          clear hW10 hA10 hO10 Hput HO9 hxs
          go_wp2_with fail
          exact ⟨⟨k + 1, A10, c10, xs ++ insL x, by omega, by go_num, by rw [← Hxs.out]; exact HW10.out, by rw [List.length_append]; omega, hRn, HO10.out⟩, by simp [intOf]; omega⟩
    · obtain rfl : k = l.length := by omega
      have hd := done_any w3.heap.size w.heap.size A' c' xs 0 w4 HW.out (by omega)
      have Hd := Lib.hid hd
      clear hd
      go_wp2_with fail
      refine Hd.out.mono ?_
      rintro e w5 ⟨A5, c5, rfl, hown5, hb5⟩
      have e0 : doneL xs 0 = xs := by unfold doneL; rw [if_pos rfl]
      rw [e0] at hown5 ⊢
      have hRx : R = (xs, 0) := by rw [hRk.out, List.drop_length]; rfl
      have hB : Below w.heap.size w w5 := (Hb3.out.trans (HO.out.below (by omega) fun b hb e => by omega)).trans (hb5.mono (by omega))
      have HF := Lib.hid (show EncPost w R (.returned (.tuple #[.slice A5 xs.length c5, .int .i64 0])) w5 from by rw [hRx]; exact ⟨A5, c5, rfl, hown5.mono (by omega), hB⟩)
      clear hown5 hb5 hB e0 hRx Hd
      go_wp2_with fail
      go_ret2
      exact HF.out
end Go.Proofs.Ytmmdkpnoncnjnaa
