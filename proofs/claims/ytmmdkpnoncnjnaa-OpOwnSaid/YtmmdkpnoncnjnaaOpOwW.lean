/- The walk of the law OpOwn. -/
import Derived.Test.YtmmdkpnoncnjnaaSoleG
import Derived.Test.YtmmdkpnoncnjnaaGrI
import Derived.Test.YtmmdkpnoncnjnaaGrB
import Derived.Test.YtmmdkpnoncnjnaaRfEnc
import Derived.Test.YtmmdkpnoncnjnaaRfDec
import Derived.Test.YtmmdkpnoncnjnaaInsJ
import Derived.Test.YtmmdkpnoncnjnaaMiscK
import Derived.Test.YtmmdkpnoncnjnaaDecK
namespace Go.Proofs.Ytmmdkpnoncnjnaa
open Go.RowKit

theorem bits_x2 (a : UInt8) : ∃ u : UInt8, Value.int .u8 (bits .xor .u8 (a.toNat : Int) 2) = bv u := by
  have h : bits .xor .u8 (a.toNat : Int) 2 = IntKind.u8.wrap (((BitVec.ofInt 8 (a.toNat : Int)) ^^^ (BitVec.ofInt 8 2)).toNat : Int) := rfl
  rw [h, IntKind.wrap_u8]
  refine ⟨UInt8.ofNat ((((BitVec.ofInt 8 (a.toNat : Int)) ^^^ (BitVec.ofInt 8 2)).toNat : Int) % 256).toNat, ?_⟩
  unfold bv
  congr 1
  rw [UInt8.toNat_ofNat']
  omega
theorem insSet (ls : List Ins) (k : Nat) (x : Ins) (h : k < ls.length) : ((ls.flatMap insCells).set (k * 2) (.int .i64 x.op)).set (k * 2 + 1) (.int .i64 x.a) = (ls.set k x).flatMap insCells := by
  induction ls generalizing k with
  | nil => cases h
  | cons y ls ih =>
    cases k with
    | zero => rfl
    | succ k =>
      rw [List.set_cons_succ, List.flatMap_cons, List.flatMap_cons, ← ih k (by simpa using h), show (k + 1) * 2 = k * 2 + 2 from by omega]
      rfl
theorem lent2_sl {w : World} {g : Nat} {bs : List UInt8} (h : Blk w g 5 ((lent bs).map bv).toArray) : Sl w ⟨some ⟨g, 0, none⟩, bs.length + 67, bs⟩ := by
  refine ⟨?_, fun e => by cases e⟩
  have h1 := (RV.of_blk h).cut 0 bs.length
  rw [List.drop_zero, ← List.map_take] at h1
  unfold lent at h1
  rwa [List.take_append_of_le_length (Nat.le_refl _), List.take_length] at h1
/-- What the law holds: two rows of lists, all the law's own. -/
structure OSt (w : World) (B : Nat) (AB : Option Addr) (cB : Nat) (qb : List (LG × List Value)) (AR : Option Addr) (cR : Nat) (qr : List (LG × List Value)) (m : Nat) : Prop where
  br : Own w B 32 1 AB qb.length cB (hdrs qb)
  bl : SoleG w B 5 1 qb
  rr : Own w B 30 1 AR qr.length cR (hdrs qr)
  rl : SoleG w B 48 2 qr
  nb : qb.length ≤ m ∧ ∀ q ∈ qb, q.1.n ≤ 2000000
  nr : qr.length ≤ m ∧ ∀ q ∈ qr, q.1.n ≤ 2000000
theorem OSt.below {w w' : World} {B : Nat} {AB AR : Option Addr} {cB cR m : Nat} {qb qr : List (LG × List Value)} (h : OSt w B AB cB qb AR cR qr m) (hb : Below w.heap.size w w') : OSt w' B AB cB qb AR cR qr m :=
  ⟨Own.below h.br hb (Nat.le_refl _), h.bl.below hb, Own.below h.rr hb (Nat.le_refl _), h.rl.below hb, h.nb, h.nr⟩
theorem OSt.mono {w : World} {B : Nat} {AB AR : Option Addr} {cB cR m m' : Nat} {qb qr : List (LG × List Value)} (h : OSt w B AB cB qb AR cR qr m) (hm : m ≤ m') : OSt w B AB cB qb AR cR qr m' :=
  ⟨h.br, h.bl, h.rr, h.rl, ⟨Nat.le_trans h.nb.1 hm, h.nb.2⟩, ⟨Nat.le_trans h.nr.1 hm, h.nr.2⟩⟩
theorem OSt.only {w0 w w' : World} {B : Nat} {AB AR : Option Addr} {cB cR m g : Nat} {qb qr : List (LG × List Value)} (h0 : OSt w0 B AB cB qb AR cR qr m) (h : OSt w B AB cB qb AR cR qr m) (hg : w0.heap.size ≤ g) (ho : Only (fun b => b = g) w w') : OSt w' B AB cB qb AR cR qr m :=
  ⟨Own.only h.br ho fun b o e e2 => by have := (Own.lt h0.br b o e).2.1; omega, h.bl.only ho fun q hq b e e2 => by have := (h0.bl.lt q hq b e).2; omega,
    Own.only h.rr ho fun b o e e2 => by have := (Own.lt h0.rr b o e).2.1; omega, h.rl.only ho fun q hq b e e2 => by have := (h0.rl.lt q hq b e).2; omega, h.nb, h.nr⟩
set_option maxRecDepth 100000 in
set_option maxHeartbeats 8000000 in
theorem opOwn_walk (A0 : Option Addr) (c0 : Nat) (l0 : List Ins) (A1 : Option Addr) (c1 : Nat) (l1 : List Ins) (w : World) (h0 : RV w A0 (l0.flatMap insCells) ∧ (∀ i ∈ l0, InsOk i) ∧ (A0 = none → l0.length = 0 ∧ c0 = 0)) (hl0 : l0.length ≤ 8796093021952) (h1 : RV w A1 (l1.flatMap insCells) ∧ ∀ i ∈ l1, InsOk i) (hl1 : l1.length ≤ 8796093021952) :
    Calls Try.prog 8 #[.slice A0 l0.length c0, .slice A1 l1.length c1] w fun e w' => e = .returned (.bool true) ∧ Below w.heap.size w w' := by
  have H0 := Lib.hid h0
  have H1 := Lib.hid h1
  clear h0 h1
  go_enter Try.func8, Try.ntmps8
  go_wp2_with fail
  refine (known_any _).mono ?_
  rintro e w1 ⟨rfl, hb1⟩
  have Hb1 := Lib.hid hb1
  obtain ⟨B, hB⟩ : ∃ B, B = w1.heap.size := ⟨_, rfl⟩
  have HB := Lib.hid hB
  have hwB : w.heap.size ≤ B := by rw [hB]; exact hb1.size
  have HSt0 := Lib.hid (show OSt w1 B none 0 [] none 0 [] 0 from ⟨Own.nil _ _ _ _, SoleG.nil _ _ _ _, Own.nil _ _ _ _, SoleG.nil _ _ _ _, ⟨by simp, by simp⟩, ⟨by simp, by simp⟩⟩)
  clear hb1 hB
  go_wp2_with fail
  go_loopw [5, 6, 7] (fun u v i wr => ∃ (k : Nat) (AB : Option Addr) (cB : Nat) (qb : List (LG × List Value)) (AR : Option Addr) (cR : Nat) (qr : List (LG × List Value)), k ≤ 2 ∧ i = .int .i64 k ∧ u = .slice AB qb.length cB ∧ v = .slice AR qr.length cR ∧ OSt wr B AB cB qb AR cR qr (k * 4) ∧ Below w.heap.size w wr ∧ B ≤ wr.heap.size) (fun _ _ i _ => 2 - (intOf i).toNat)
  case atStart => exact ⟨0, none, 0, [], none, 0, [], Nat.zero_le _, rfl, rfl, rfl, HSt0.out, Hb1.out, by rw [HB.out]; exact Nat.le_refl _⟩
  case round =>
    rename World => w2
    obtain ⟨k, AB, cB, qb, AR, cR, qr, hk, rfl, rfl, rfl, hSt, hbw, hBz⟩ := hrel
    by_cases hk2 : k < 2
    · have g1 : (k : Int) < 2 := by omega
      have HSt := Lib.hid (show OSt w2 B AB cB qb AR cR qr (k * 4 + 0 * 2) from hSt)
      have Hbw := Lib.hid hbw
      clear hSt hbw HSt0
      go_wp2_with fail
      go_loopw [5, 6, 8] (fun u v i wr => ∃ (j : Nat) (AB : Option Addr) (cB : Nat) (qb : List (LG × List Value)) (AR : Option Addr) (cR : Nat) (qr : List (LG × List Value)), j ≤ 2 ∧ i = .int .i64 j ∧ u = .slice AB qb.length cB ∧ v = .slice AR qr.length cR ∧ OSt wr B AB cB qb AR cR qr (k * 4 + j * 2) ∧ Below w.heap.size w wr ∧ B ≤ wr.heap.size) (fun _ _ i _ => 2 - (intOf i).toNat)
      case atStart => exact ⟨0, AB, cB, qb, AR, cR, qr, Nat.zero_le _, rfl, rfl, rfl, HSt.out, Hbw.out, hBz⟩
      case round =>
        rename World => w3
        clear HSt Hbw hBz
        obtain ⟨j, AB, cB, qb, AR, cR, qr, hj, rfl, rfl, rfl, hSt, hbw, hBz⟩ := hrel
        by_cases hj2 : j < 2
        · have HSt := Lib.hid hSt
          have Hbw := Lib.hid hbw
          clear hSt hbw
          have hjj : j = 0 ∨ j = 1 := by omega
          rcases hjj with rfl | rfl
          · have HX : Hid (RV w A0 (l0.flatMap insCells) ∧ ∀ i ∈ l0, InsOk i) := Lib.hid ⟨H0.out.1, H0.out.2.1⟩
            obtain ⟨ys, f, hen⟩ : ∃ ys f, encL l0 = (ys, f) := ⟨_, _, rfl⟩
            have Hen := Lib.hid hen
            have hre := refEncode_any A0 c0 l0 w3 (HX.out.1.below Hbw.out) HX.out.2 (by unfold maxLen; omega)
            rw [hen] at hre
            have Hre := Lib.hid hre
            clear hen hre
            go_wp2_with fail
            refine Hre.out.mono ?_
            rintro e w4 ⟨A4, c4, rfl, hown4, hb4⟩
            dsimp only at hown4 ⊢
            have HSt4 := Lib.hid (HSt.out.below hb4)
            have Hbw4 := Lib.hid (Hbw.out.trans (hb4.mono Hbw.out.size))
            have hBz4 : B ≤ w4.heap.size := by have := hb4.size; omega
            have Hown4 := Lib.hid hown4
            clear hown4 hb4 Hre HSt Hbw
            by_cases hf : f = 0
            case neg =>
              have f1 : (f == 0) = false := by simpa using hf
              have f2 : (f != 0) = true := by rw [bne, f1]; rfl
              go_wp2_with fail
              exact ⟨⟨0 + 1, AB, cB, qb, AR, cR, qr, by omega, by go_num, rfl, rfl, HSt4.out.mono (by omega), Hbw4.out, hBz4⟩, by simp [intOf]⟩
            subst hf
            have hys : ys.length ≤ 1000000 ∧ l0.length ≤ 4096 := by
              obtain ⟨h1, h2, h3⟩ := encL_ok Hen.out
              have h4 := flat_le l0 h3
              rw [← h2] at h4
              exact ⟨by omega, h1⟩
            obtain ⟨hys, hlx4⟩ := hys
            have henc := encode_any A0 c0 l0 w4 (HX.out.1.below Hbw4.out) HX.out.2 (by unfold maxLen; omega)
            rw [Hen.out] at henc
            have Henc := Lib.hid henc
            clear henc
            go_wp2_with fail
            refine Henc.out.mono ?_
            rintro e w5 ⟨A5, c5, rfl, hown5, hb5⟩
            dsimp only at hown5 ⊢
            have hz45 := hb5.size
            have HSt5 := Lib.hid (HSt4.out.below hb5)
            have Hbw5 := Lib.hid (Hbw4.out.trans (hb5.mono Hbw4.out.size))
            have Hw5 := Lib.hid (Own.below Hown4.out hb5 (Nat.le_refl _))
            have Hown5 := Lib.hid hown5
            have henc := encode_any A0 c0 l0 w5 (HX.out.1.below Hbw5.out) HX.out.2 (by unfold maxLen; omega)
            rw [Hen.out] at henc
            clear hown5 hb5 Henc Hbw4
            have Henc := Lib.hid henc
            clear henc
            go_wp2_with fail
            refine Henc.out.mono ?_
            rintro e w6 ⟨A6, c6, rfl, hown6, hb6⟩
            dsimp only at hown6 ⊢
            have hz56 := hb6.size
            have HSt6 := Lib.hid (HSt5.out.below hb6)
            have Hbw6 := Lib.hid (Hbw5.out.trans (hb6.mono Hbw5.out.size))
            have Hw6 := Lib.hid (Own.below Hw5.out hb6 (Nat.le_refl _))
            have Hb6' := Lib.hid (Own.below Hown5.out hb6 (Nat.le_refl _))
            have Hown6 := Lib.hid hown6
            have Hlend := Lib.hid (lend2_any ys A4 c4 w6 (RV.of_own Hw6.out) (by omega))
            clear hown6 hb6 Henc HSt5 Hbw5
            go_wp2_with fail
            refine Hlend.out.mono ?_
            rintro e w7 ⟨rfl, hblk, hb7⟩
            obtain ⟨gl, hgl⟩ : ∃ g, g = w6.heap.size := ⟨_, rfl⟩
            rw [← hgl] at hblk ⊢
            have hz67 := hb7.size
            have HSt7 := Lib.hid (HSt6.out.below hb7)
            have Hbw7 := Lib.hid (Hbw6.out.trans (hb7.mono Hbw6.out.size))
            have Hw7 := Lib.hid (Own.below Hw6.out hb7 (Nat.le_refl _))
            have Hb7' := Lib.hid (Own.below Hb6'.out hb7 (Nat.le_refl _))
            have Hc7 := Lib.hid (Own.below Hown6.out hb7 (Nat.le_refl _))
            have HBl7 := Lib.hid hblk
            have hdl : decL ys = (l0, 0) := dec_enc HX.out.2 Hen.out
            have hdc := decode_any (some ⟨gl, 0, none⟩) (ys.length + 67) ys w7 (lent2_sl hblk) (by omega)
            rw [hdl] at hdc
            have Hdc := Lib.hid hdc
            have Hdl := Lib.hid hdl
            have Hgl := Lib.hid hgl
            clear hblk hb7 hgl hdl hdc Hlend Hbw6
            go_wp2_with fail
            refine Hdc.out.mono ?_
            rintro e w8 ⟨A8, c8, rfl, hown8, hb8⟩
            dsimp only at hown8 ⊢
            have hz78 := hb8.size
            have HSt8 := Lib.hid (HSt7.out.below hb8)
            have Hbw8 := Lib.hid (Hbw7.out.trans (hb8.mono Hbw7.out.size))
            have Hw8 := Lib.hid (Own.below Hw7.out hb8 (Nat.le_refl _))
            have Hb8' := Lib.hid (Own.below Hb7'.out hb8 (Nat.le_refl _))
            have Hc8 := Lib.hid (Own.below Hc7.out hb8 (Nat.le_refl _))
            have HBl8 := Lib.hid (HBl7.out.below hb8 HBl7.out.lt)
            have Hown8 := Lib.hid hown8
            have hdc := decode_any (some ⟨gl, 0, none⟩) (ys.length + 67) ys w8 (lent2_sl HBl8.out) (by omega)
            rw [Hdl.out] at hdc
            clear hown8 hb8 Hdc HSt7 Hbw7
            have Hdc := Lib.hid hdc
            clear hdc
            go_wp2_with fail
            refine Hdc.out.mono ?_
            rintro e w9 ⟨A9, c9, rfl, hown9, hb9⟩
            dsimp only at hown9 ⊢
            have hz89 := hb9.size
            have HSt9 := Lib.hid (HSt8.out.below hb9)
            have Hbw9 := Lib.hid (Hbw8.out.trans (hb9.mono Hbw8.out.size))
            have Hw9 := Lib.hid (Own.below Hw8.out hb9 (Nat.le_refl _))
            have Hb9' := Lib.hid (Own.below Hb8'.out hb9 (Nat.le_refl _))
            have Hc9 := Lib.hid (Own.below Hc8.out hb9 (Nat.le_refl _))
            have HBl9 := Lib.hid (HBl8.out.below hb9 HBl8.out.lt)
            have Hp9 := Lib.hid (Own.below Hown8.out hb9 (Nat.le_refl _))
            have Hq9 := Lib.hid hown9
            clear hown9 hb9 Hdc HSt8 Hbw8
            have hs1 := same_ins A8 A0 c8 c0 l0 l0 w9 (RV.of_own Hp9.out) (HX.out.1.below Hbw9.out) (by omega) (by omega)
            rw [sameB_self] at hs1
            have Hs1 := Lib.hid hs1
            clear hs1
            have Ry := Lib.hid (RV.of_own Hb9'.out)
            have Rz := Lib.hid (RV.of_own Hc9.out)
            have Rw := Lib.hid (RV.of_own Hw9.out)
            go_wp2_with (first
              | (refine wpList_at 78 rfl ?_; refine wpList_bytesStrG rfl (.tmp 77) (A := A5) (c := c5) (ys := ys) rfl rfl Ry.out Try.underlying32 Try.underlying5 Try.underlying9 ?_)
              | (refine wpList_at 80 rfl ?_; refine wpList_bytesStrG rfl (.tmp 79) (A := A4) (c := c4) (ys := ys) rfl rfl Rw.out Try.underlying32 Try.underlying5 Try.underlying9 ?_)
              | (refine wpList_at 84 rfl ?_; refine wpList_bytesStrG rfl (.tmp 83) (A := A6) (c := c6) (ys := ys) rfl rfl Rz.out Try.underlying32 Try.underlying5 Try.underlying9 ?_)
              | (refine wpList_at 86 rfl ?_; refine wpList_bytesStrG rfl (.tmp 85) (A := A4) (c := c4) (ys := ys) rfl rfl Rw.out Try.underlying32 Try.underlying5 Try.underlying9 ?_))
            refine Hs1.out.mono ?_
            rintro e w10 ⟨rfl, n10, hw10⟩
            have hb910 : Below w9.heap.size w9 w10 := by rw [hw10]; exact below_drewN (Below.refl _ _) n10
            have hs2 := same_ins A9 A0 c9 c0 l0 l0 w10 ((RV.of_own Hq9.out).below hb910) (HX.out.1.below (Hbw9.out.trans (hb910.mono Hbw9.out.size))) (by omega) (by omega)
            rw [sameB_self] at hs2
            have Hs2 := Lib.hid hs2
            have Hb910 := Lib.hid hb910
            clear hs2 hw10 hb910 Hs1
            go_wp2_with fail
            refine Hs2.out.mono ?_
            rintro e w11 ⟨rfl, n11, hw11⟩
            have hb911 : Below w9.heap.size w9 w11 := by
              rw [hw11]
              exact below_drewN Hb910.out n11
            have hz911 := hb911.size
            have HSt11 := Lib.hid (HSt9.out.below hb911)
            have Hbw11 := Lib.hid (Hbw9.out.trans (hb911.mono Hbw9.out.size))
            have HBl11 := Lib.hid (HBl9.out.below hb911 HBl9.out.lt)
            have Hw11 := Lib.hid (Own.below Hw9.out hb911 (Nat.le_refl _))
            have Hb11' := Lib.hid (Own.below Hb9'.out hb911 (Nat.le_refl _))
            have Hc11 := Lib.hid (Own.below Hc9.out hb911 (Nat.le_refl _))
            have Hp11 := Lib.hid (Own.below Hp9.out hb911 (Nat.le_refl _))
            have Hq11 := Lib.hid (Own.below Hq9.out hb911 (Nat.le_refl _))
            have Hkp := Lib.hid (kept2_any ys gl A4 c4 w11 HBl11.out (RV.of_own Hw11.out) (by omega))
            clear hw11 hb911 Hs2 HSt9 Hbw9
            go_wp2_with fail
            refine Hkp.out.mono ?_
            rintro e w12 ⟨rfl, ho12⟩
            have hz12 := ho12.size
            have hB6 : B ≤ w6.heap.size := by omega
            have HSt12 := Lib.hid (OSt.only HSt6.out HSt11.out (by have := Hgl.out; omega) ho12)
            have Hbw12 := Lib.hid (Hbw11.out.trans ((ho12.below (B := w.heap.size) Hbw11.out.size (by have := Hgl.out; intro k hk e; omega)).mono (Nat.le_refl _)))
            have Hb12' := Lib.hid (Own.only Hb11'.out ho12 fun b o e e2 => by have := (Own.lt Hb6'.out b o e).2.1; have := Hgl.out; omega)
            have Hc12 := Lib.hid (Own.only Hc11.out ho12 fun b o e e2 => by have := (Own.lt Hown6.out b o e).2.1; have := Hgl.out; omega)
            have Hp12 := Lib.hid (Own.only Hp11.out ho12 fun b o e e2 => by have := (Own.lt Hp11.out b o e).1; have := Hgl.out; have := HBl7.out.lt; omega)
            have Hq12 := Lib.hid (Own.only Hq11.out ho12 fun b o e e2 => by have := (Own.lt Hq11.out b o e).1; have := Hgl.out; have := HBl7.out.lt; omega)
            clear ho12 Hkp HSt11 Hbw11
            go_wp2_with (refine wpList_at 111 rfl ?_; refine wp_stop ?_)
            try refine ⟨?_⟩
            obtain ⟨w13, hw13⟩ : ∃ v, v = w12.alloc (.cells #[.slice A5 ys.length c5, .slice A6 ys.length c6] 32) := ⟨_, rfl⟩
            rw [← hw13]
            have hb13 : Below w12.heap.size w12 w13 := by rw [hw13]; exact (Below.refl _ _).alloc (Nat.le_refl _) _
            have hU13 : Blk w13 w12.heap.size 32 #[.slice A5 ys.length c5, .slice A6 ys.length c6] := by rw [hw13]; exact Blk.new _ _ _
            have hSt13 := HSt12.out.below hb13
            have hz13 := hb13.size
            have hqb := hSt13.nb.1
            have hqr := hSt13.nr.1
            refine wpList_app rfl (.tmp 107) (.tmp 110) eBRow rfl rfl hSt13.br (m := 2) (c' := 2) (us := [.slice A5 ys.length c5, .slice A6 ys.length c6]) rfl (RV.of_blk hU13) rfl (by intro v hv; simp only [List.mem_cons, List.not_mem_nil, or_false] at hv; rcases hv with rfl | rfl <;> rfl) (by unfold maxLen; omega) (by omega) (by omega) (fun h => by cases h) ?_
            intro AB2 cB2 w14 hown14 hg14 hA14
            have hT14 : Only (fun b => AB.map (·.block) = some b) w13 w14 := Only.of_grown hg14 fun k e => e
            have hz14 := hT14.size
            have hABlt : ∀ b, AB.map (·.block) = some b → B ≤ b ∧ b < w13.heap.size := Own.row hSt13.br
            have hbl14 := hSt13.bl.only hT14 fun q hq b e e2 => ownG_ne hSt13.br (hSt13.bl.own q hq) (by decide) b e2 e
            have hrr14 := Own.only hSt13.rr hT14 fun b o e e2 => ownG_ne hSt13.br hSt13.rr (by decide) b e2 (by rw [e]; rfl)
            have hrl14 := hSt13.rl.only hT14 fun q hq b e e2 => ownG_ne hSt13.br (hSt13.rl.own q hq) (by decide) b e2 e
            have far14 : ∀ {b0 s0 n0 c0' : Nat} {e0 : TypeId} {X0 : Option Addr} {v0 : List Value}, e0 ≠ 32 → Own w12 b0 e0 s0 X0 n0 c0' v0 → Own w14 b0 e0 s0 X0 n0 c0' v0 := fun hne h => by
              have h1 := Own.below h hb13 (Nat.le_refl _)
              exact Own.only h1 hT14 fun b o e e2 => ownG_ne hSt13.br h1 (fun e3 => hne e3.symm) b e2 (by rw [e]; rfl)
            have hb14' := far14 (by decide) Hb12'.out
            have hc14 := far14 (by decide) Hc12.out
            have hp14 := far14 (by decide) Hp12.out
            have hq14 := far14 (by decide) Hq12.out
            have hbw14 : Below w.heap.size w w14 := (Hbw12.out.trans (hb13.mono Hbw12.out.size)).trans (hT14.below (B := w.heap.size) (by have := Hbw12.out.size; omega) fun k hk e => by have := hABlt k e; omega)
            have hbl2 : SoleG w14 B 5 1 (qb ++ [(⟨A5, ys.length, c5⟩, ys.map bv), (⟨A6, ys.length, c6⟩, ys.map bv)]) := SoleG.push2 HSt4.out.bl hbl14 hb14' hc14 hBz4 (Nat.le_refl _) hz45 fun b e => (Own.row Hown5.out b e).2
            have hbr2 : Own w14 B 32 1 AB2 (qb.length + 2) cB2 (hdrs (qb ++ [(⟨A5, ys.length, c5⟩, ys.map bv), (⟨A6, ys.length, c6⟩, ys.map bv)])) := by
              unfold hdrs
              rw [List.map_append]
              exact hown14
            have HBL := Lib.hid hbl2
            have HBR := Lib.hid hbr2
            have HRR := Lib.hid hrr14
            have HRL := Lib.hid hrl14
            have HP := Lib.hid hp14
            have HQ := Lib.hid hq14
            have Hbw14 := Lib.hid hbw14
            clear hw13 hb13 hU13 hSt13 hown14 hg14 hA14 hT14 hABlt hbl14 hrr14 hrl14 far14 hb14' hc14 hp14 hq14 hbw14 hbl2 hbr2
            go_wp2_with (refine wpList_at 116 rfl ?_; refine wp_stop ?_)
            try refine ⟨?_⟩
            obtain ⟨w15, hw15⟩ : ∃ v, v = w14.alloc (.cells #[.slice A8 l0.length c8, .slice A9 l0.length c9] 30) := ⟨_, rfl⟩
            rw [← hw15]
            have hb15 : Below w14.heap.size w14 w15 := by rw [hw15]; exact (Below.refl _ _).alloc (Nat.le_refl _) _
            have hU15 : Blk w15 w14.heap.size 30 #[.slice A8 l0.length c8, .slice A9 l0.length c9] := by rw [hw15]; exact Blk.new _ _ _
            have hz15 := hb15.size
            have hrr15 := Own.below HRR.out hb15 (Nat.le_refl _)
            refine wpList_app rfl (.tmp 112) (.tmp 115) eIRow rfl rfl hrr15 (m := 2) (c' := 2) (us := [.slice A8 l0.length c8, .slice A9 l0.length c9]) rfl (RV.of_blk hU15) rfl (by intro v hv; simp only [List.mem_cons, List.not_mem_nil, or_false] at hv; rcases hv with rfl | rfl <;> rfl) (by unfold maxLen; omega) (by omega) (by omega) (fun h => by cases h) ?_
            intro AR2 cR2 w16 hown16 hg16 hA16
            have hT16 : Only (fun b => AR.map (·.block) = some b) w15 w16 := Only.of_grown hg16 fun k e => e
            have hz16 := hT16.size
            have hARlt : ∀ b, AR.map (·.block) = some b → B ≤ b ∧ b < w15.heap.size := Own.row hrr15
            have hbl15 := HBL.out.below hb15
            have hbr15 := Own.below HBR.out hb15 (Nat.le_refl _)
            have hrl15 := HRL.out.below hb15
            have hp15 := Own.below HP.out hb15 (Nat.le_refl _)
            have hq15 := Own.below HQ.out hb15 (Nat.le_refl _)
            have hbl16 := hbl15.only hT16 fun q hq b e e2 => ownG_ne hrr15 (hbl15.own q hq) (by decide) b e2 e
            have hbr16 := Own.only hbr15 hT16 fun b o e e2 => ownG_ne hrr15 hbr15 (by decide) b e2 (by rw [e]; rfl)
            have hrl16 := hrl15.only hT16 fun q hq b e e2 => ownG_ne hrr15 (hrl15.own q hq) (by decide) b e2 e
            have hp16 := Own.only hp15 hT16 fun b o e e2 => ownG_ne hrr15 hp15 (by decide) b e2 (by rw [e]; rfl)
            have hq16 := Own.only hq15 hT16 fun b o e e2 => ownG_ne hrr15 hq15 (by decide) b e2 (by rw [e]; rfl)
            have hbw16 : Below w.heap.size w w16 := (Hbw14.out.trans (hb15.mono Hbw14.out.size)).trans (hT16.below (B := w.heap.size) (by have := Hbw14.out.size; omega) fun k hk e => by have := hARlt k e; omega)
            have hrl2 : SoleG w16 B 48 2 (qr ++ [(⟨A8, l0.length, c8⟩, l0.flatMap insCells), (⟨A9, l0.length, c9⟩, l0.flatMap insCells)]) := SoleG.push2 HSt4.out.rl hrl16 hp16 hq16 hBz4 (by omega) hz78 fun b e => (Own.row Hown8.out b e).2
            have hrr2 : Own w16 B 30 1 AR2 (qr.length + 2) cR2 (hdrs (qr ++ [(⟨A8, l0.length, c8⟩, l0.flatMap insCells), (⟨A9, l0.length, c9⟩, l0.flatMap insCells)])) := by
              unfold hdrs
              rw [List.map_append]
              exact hown16
            have hlen : ∀ (qs : List (LG × List Value)) (x y : LG × List Value), (qs ++ [x, y]).length = qs.length + 2 := fun qs x y => by rw [List.length_append]; rfl
            have hStn : OSt w16 B AB2 cB2 (qb ++ [(⟨A5, ys.length, c5⟩, ys.map bv), (⟨A6, ys.length, c6⟩, ys.map bv)]) AR2 cR2 (qr ++ [(⟨A8, l0.length, c8⟩, l0.flatMap insCells), (⟨A9, l0.length, c9⟩, l0.flatMap insCells)]) (k * 4 + (0 + 1) * 2) := by
              refine ⟨by rw [hlen]; exact hbr16, hbl16, by rw [hlen]; exact hrr2, hrl2, ⟨by rw [hlen]; omega, fun q hq => ?_⟩, ⟨by rw [hlen]; omega, fun q hq => ?_⟩⟩
              · rcases List.mem_append.1 hq with hq | hq
                · exact HSt4.out.nb.2 q hq
                · simp only [List.mem_cons, List.not_mem_nil, or_false] at hq
                  rcases hq with rfl | rfl
                  · show ys.length ≤ _; omega
                  · show ys.length ≤ _; omega
              · rcases List.mem_append.1 hq with hq | hq
                · exact HSt4.out.nr.2 q hq
                · simp only [List.mem_cons, List.not_mem_nil, or_false] at hq
                  rcases hq with rfl | rfl
                  · show l0.length ≤ _; omega
                  · show l0.length ≤ _; omega
            have HStn := Lib.hid hStn
            have Hbw16 := Lib.hid hbw16
            have HL1 := Lib.hid (hlen qb (⟨A5, ys.length, c5⟩, ys.map bv) (⟨A6, ys.length, c6⟩, ys.map bv))
            have HL2 := Lib.hid (hlen qr (⟨A8, l0.length, c8⟩, l0.flatMap insCells) (⟨A9, l0.length, c9⟩, l0.flatMap insCells))
            clear hw15 hb15 hU15 hrr15 hown16 hg16 hA16 hT16 hARlt hbl15 hbr15 hrl15 hp15 hq15 hbl16 hbr16 hrl16 hp16 hq16 hbw16 hrl2 hrr2 hlen hStn
            generalize qb ++ [((⟨A5, ys.length, c5⟩ : LG), ys.map bv), (⟨A6, ys.length, c6⟩, ys.map bv)] = qb2 at *
            generalize qr ++ [((⟨A8, l0.length, c8⟩ : LG), l0.flatMap insCells), (⟨A9, l0.length, c9⟩, l0.flatMap insCells)] = qr2 at *
            go_wp2_with fail
            exact ⟨⟨0 + 1, AB2, cB2, qb2, AR2, cR2, qr2, by omega, by go_num, by rw [HL1.out], by rw [HL2.out], HStn.out, Hbw16.out, by omega⟩, by simp [intOf]⟩
          · have HX : Hid (RV w A1 (l1.flatMap insCells) ∧ ∀ i ∈ l1, InsOk i) := H1
            obtain ⟨ys, f, hen⟩ : ∃ ys f, encL l1 = (ys, f) := ⟨_, _, rfl⟩
            have Hen := Lib.hid hen
            have hre := refEncode_any A1 c1 l1 w3 (HX.out.1.below Hbw.out) HX.out.2 (by unfold maxLen; omega)
            rw [hen] at hre
            have Hre := Lib.hid hre
            clear hen hre
            go_wp2_with fail
            refine Hre.out.mono ?_
            rintro e w4 ⟨A4, c4, rfl, hown4, hb4⟩
            dsimp only at hown4 ⊢
            have HSt4 := Lib.hid (HSt.out.below hb4)
            have Hbw4 := Lib.hid (Hbw.out.trans (hb4.mono Hbw.out.size))
            have hBz4 : B ≤ w4.heap.size := by have := hb4.size; omega
            have Hown4 := Lib.hid hown4
            clear hown4 hb4 Hre HSt Hbw
            by_cases hf : f = 0
            case neg =>
              have f1 : (f == 0) = false := by simpa using hf
              have f2 : (f != 0) = true := by rw [bne, f1]; rfl
              go_wp2_with fail
              exact ⟨⟨1 + 1, AB, cB, qb, AR, cR, qr, by omega, by go_num, rfl, rfl, HSt4.out.mono (by omega), Hbw4.out, hBz4⟩, by simp [intOf]⟩
            subst hf
            have hys : ys.length ≤ 1000000 ∧ l1.length ≤ 4096 := by
              obtain ⟨h1, h2, h3⟩ := encL_ok Hen.out
              have h4 := flat_le l1 h3
              rw [← h2] at h4
              exact ⟨by omega, h1⟩
            obtain ⟨hys, hlx4⟩ := hys
            have henc := encode_any A1 c1 l1 w4 (HX.out.1.below Hbw4.out) HX.out.2 (by unfold maxLen; omega)
            rw [Hen.out] at henc
            have Henc := Lib.hid henc
            clear henc
            go_wp2_with fail
            refine Henc.out.mono ?_
            rintro e w5 ⟨A5, c5, rfl, hown5, hb5⟩
            dsimp only at hown5 ⊢
            have hz45 := hb5.size
            have HSt5 := Lib.hid (HSt4.out.below hb5)
            have Hbw5 := Lib.hid (Hbw4.out.trans (hb5.mono Hbw4.out.size))
            have Hw5 := Lib.hid (Own.below Hown4.out hb5 (Nat.le_refl _))
            have Hown5 := Lib.hid hown5
            have henc := encode_any A1 c1 l1 w5 (HX.out.1.below Hbw5.out) HX.out.2 (by unfold maxLen; omega)
            rw [Hen.out] at henc
            clear hown5 hb5 Henc Hbw4
            have Henc := Lib.hid henc
            clear henc
            go_wp2_with fail
            refine Henc.out.mono ?_
            rintro e w6 ⟨A6, c6, rfl, hown6, hb6⟩
            dsimp only at hown6 ⊢
            have hz56 := hb6.size
            have HSt6 := Lib.hid (HSt5.out.below hb6)
            have Hbw6 := Lib.hid (Hbw5.out.trans (hb6.mono Hbw5.out.size))
            have Hw6 := Lib.hid (Own.below Hw5.out hb6 (Nat.le_refl _))
            have Hb6' := Lib.hid (Own.below Hown5.out hb6 (Nat.le_refl _))
            have Hown6 := Lib.hid hown6
            have Hlend := Lib.hid (lend2_any ys A4 c4 w6 (RV.of_own Hw6.out) (by omega))
            clear hown6 hb6 Henc HSt5 Hbw5
            go_wp2_with fail
            refine Hlend.out.mono ?_
            rintro e w7 ⟨rfl, hblk, hb7⟩
            obtain ⟨gl, hgl⟩ : ∃ g, g = w6.heap.size := ⟨_, rfl⟩
            rw [← hgl] at hblk ⊢
            have hz67 := hb7.size
            have HSt7 := Lib.hid (HSt6.out.below hb7)
            have Hbw7 := Lib.hid (Hbw6.out.trans (hb7.mono Hbw6.out.size))
            have Hw7 := Lib.hid (Own.below Hw6.out hb7 (Nat.le_refl _))
            have Hb7' := Lib.hid (Own.below Hb6'.out hb7 (Nat.le_refl _))
            have Hc7 := Lib.hid (Own.below Hown6.out hb7 (Nat.le_refl _))
            have HBl7 := Lib.hid hblk
            have hdl : decL ys = (l1, 0) := dec_enc HX.out.2 Hen.out
            have hdc := decode_any (some ⟨gl, 0, none⟩) (ys.length + 67) ys w7 (lent2_sl hblk) (by omega)
            rw [hdl] at hdc
            have Hdc := Lib.hid hdc
            have Hdl := Lib.hid hdl
            have Hgl := Lib.hid hgl
            clear hblk hb7 hgl hdl hdc Hlend Hbw6
            go_wp2_with fail
            refine Hdc.out.mono ?_
            rintro e w8 ⟨A8, c8, rfl, hown8, hb8⟩
            dsimp only at hown8 ⊢
            have hz78 := hb8.size
            have HSt8 := Lib.hid (HSt7.out.below hb8)
            have Hbw8 := Lib.hid (Hbw7.out.trans (hb8.mono Hbw7.out.size))
            have Hw8 := Lib.hid (Own.below Hw7.out hb8 (Nat.le_refl _))
            have Hb8' := Lib.hid (Own.below Hb7'.out hb8 (Nat.le_refl _))
            have Hc8 := Lib.hid (Own.below Hc7.out hb8 (Nat.le_refl _))
            have HBl8 := Lib.hid (HBl7.out.below hb8 HBl7.out.lt)
            have Hown8 := Lib.hid hown8
            have hdc := decode_any (some ⟨gl, 0, none⟩) (ys.length + 67) ys w8 (lent2_sl HBl8.out) (by omega)
            rw [Hdl.out] at hdc
            clear hown8 hb8 Hdc HSt7 Hbw7
            have Hdc := Lib.hid hdc
            clear hdc
            go_wp2_with fail
            refine Hdc.out.mono ?_
            rintro e w9 ⟨A9, c9, rfl, hown9, hb9⟩
            dsimp only at hown9 ⊢
            have hz89 := hb9.size
            have HSt9 := Lib.hid (HSt8.out.below hb9)
            have Hbw9 := Lib.hid (Hbw8.out.trans (hb9.mono Hbw8.out.size))
            have Hw9 := Lib.hid (Own.below Hw8.out hb9 (Nat.le_refl _))
            have Hb9' := Lib.hid (Own.below Hb8'.out hb9 (Nat.le_refl _))
            have Hc9 := Lib.hid (Own.below Hc8.out hb9 (Nat.le_refl _))
            have HBl9 := Lib.hid (HBl8.out.below hb9 HBl8.out.lt)
            have Hp9 := Lib.hid (Own.below Hown8.out hb9 (Nat.le_refl _))
            have Hq9 := Lib.hid hown9
            clear hown9 hb9 Hdc HSt8 Hbw8
            have hs1 := same_ins A8 A1 c8 c1 l1 l1 w9 (RV.of_own Hp9.out) (HX.out.1.below Hbw9.out) (by omega) (by omega)
            rw [sameB_self] at hs1
            have Hs1 := Lib.hid hs1
            clear hs1
            have Ry := Lib.hid (RV.of_own Hb9'.out)
            have Rz := Lib.hid (RV.of_own Hc9.out)
            have Rw := Lib.hid (RV.of_own Hw9.out)
            go_wp2_with (first
              | (refine wpList_at 78 rfl ?_; refine wpList_bytesStrG rfl (.tmp 77) (A := A5) (c := c5) (ys := ys) rfl rfl Ry.out Try.underlying32 Try.underlying5 Try.underlying9 ?_)
              | (refine wpList_at 80 rfl ?_; refine wpList_bytesStrG rfl (.tmp 79) (A := A4) (c := c4) (ys := ys) rfl rfl Rw.out Try.underlying32 Try.underlying5 Try.underlying9 ?_)
              | (refine wpList_at 84 rfl ?_; refine wpList_bytesStrG rfl (.tmp 83) (A := A6) (c := c6) (ys := ys) rfl rfl Rz.out Try.underlying32 Try.underlying5 Try.underlying9 ?_)
              | (refine wpList_at 86 rfl ?_; refine wpList_bytesStrG rfl (.tmp 85) (A := A4) (c := c4) (ys := ys) rfl rfl Rw.out Try.underlying32 Try.underlying5 Try.underlying9 ?_))
            refine Hs1.out.mono ?_
            rintro e w10 ⟨rfl, n10, hw10⟩
            have hb910 : Below w9.heap.size w9 w10 := by rw [hw10]; exact below_drewN (Below.refl _ _) n10
            have hs2 := same_ins A9 A1 c9 c1 l1 l1 w10 ((RV.of_own Hq9.out).below hb910) (HX.out.1.below (Hbw9.out.trans (hb910.mono Hbw9.out.size))) (by omega) (by omega)
            rw [sameB_self] at hs2
            have Hs2 := Lib.hid hs2
            have Hb910 := Lib.hid hb910
            clear hs2 hw10 hb910 Hs1
            go_wp2_with fail
            refine Hs2.out.mono ?_
            rintro e w11 ⟨rfl, n11, hw11⟩
            have hb911 : Below w9.heap.size w9 w11 := by
              rw [hw11]
              exact below_drewN Hb910.out n11
            have hz911 := hb911.size
            have HSt11 := Lib.hid (HSt9.out.below hb911)
            have Hbw11 := Lib.hid (Hbw9.out.trans (hb911.mono Hbw9.out.size))
            have HBl11 := Lib.hid (HBl9.out.below hb911 HBl9.out.lt)
            have Hw11 := Lib.hid (Own.below Hw9.out hb911 (Nat.le_refl _))
            have Hb11' := Lib.hid (Own.below Hb9'.out hb911 (Nat.le_refl _))
            have Hc11 := Lib.hid (Own.below Hc9.out hb911 (Nat.le_refl _))
            have Hp11 := Lib.hid (Own.below Hp9.out hb911 (Nat.le_refl _))
            have Hq11 := Lib.hid (Own.below Hq9.out hb911 (Nat.le_refl _))
            have Hkp := Lib.hid (kept2_any ys gl A4 c4 w11 HBl11.out (RV.of_own Hw11.out) (by omega))
            clear hw11 hb911 Hs2 HSt9 Hbw9
            go_wp2_with fail
            refine Hkp.out.mono ?_
            rintro e w12 ⟨rfl, ho12⟩
            have hz12 := ho12.size
            have hB6 : B ≤ w6.heap.size := by omega
            have HSt12 := Lib.hid (OSt.only HSt6.out HSt11.out (by have := Hgl.out; omega) ho12)
            have Hbw12 := Lib.hid (Hbw11.out.trans ((ho12.below (B := w.heap.size) Hbw11.out.size (by have := Hgl.out; intro k hk e; omega)).mono (Nat.le_refl _)))
            have Hb12' := Lib.hid (Own.only Hb11'.out ho12 fun b o e e2 => by have := (Own.lt Hb6'.out b o e).2.1; have := Hgl.out; omega)
            have Hc12 := Lib.hid (Own.only Hc11.out ho12 fun b o e e2 => by have := (Own.lt Hown6.out b o e).2.1; have := Hgl.out; omega)
            have Hp12 := Lib.hid (Own.only Hp11.out ho12 fun b o e e2 => by have := (Own.lt Hp11.out b o e).1; have := Hgl.out; have := HBl7.out.lt; omega)
            have Hq12 := Lib.hid (Own.only Hq11.out ho12 fun b o e e2 => by have := (Own.lt Hq11.out b o e).1; have := Hgl.out; have := HBl7.out.lt; omega)
            clear ho12 Hkp HSt11 Hbw11
            go_wp2_with (refine wpList_at 111 rfl ?_; refine wp_stop ?_)
            try refine ⟨?_⟩
            obtain ⟨w13, hw13⟩ : ∃ v, v = w12.alloc (.cells #[.slice A5 ys.length c5, .slice A6 ys.length c6] 32) := ⟨_, rfl⟩
            rw [← hw13]
            have hb13 : Below w12.heap.size w12 w13 := by rw [hw13]; exact (Below.refl _ _).alloc (Nat.le_refl _) _
            have hU13 : Blk w13 w12.heap.size 32 #[.slice A5 ys.length c5, .slice A6 ys.length c6] := by rw [hw13]; exact Blk.new _ _ _
            have hSt13 := HSt12.out.below hb13
            have hz13 := hb13.size
            have hqb := hSt13.nb.1
            have hqr := hSt13.nr.1
            refine wpList_app rfl (.tmp 107) (.tmp 110) eBRow rfl rfl hSt13.br (m := 2) (c' := 2) (us := [.slice A5 ys.length c5, .slice A6 ys.length c6]) rfl (RV.of_blk hU13) rfl (by intro v hv; simp only [List.mem_cons, List.not_mem_nil, or_false] at hv; rcases hv with rfl | rfl <;> rfl) (by unfold maxLen; omega) (by omega) (by omega) (fun h => by cases h) ?_
            intro AB2 cB2 w14 hown14 hg14 hA14
            have hT14 : Only (fun b => AB.map (·.block) = some b) w13 w14 := Only.of_grown hg14 fun k e => e
            have hz14 := hT14.size
            have hABlt : ∀ b, AB.map (·.block) = some b → B ≤ b ∧ b < w13.heap.size := Own.row hSt13.br
            have hbl14 := hSt13.bl.only hT14 fun q hq b e e2 => ownG_ne hSt13.br (hSt13.bl.own q hq) (by decide) b e2 e
            have hrr14 := Own.only hSt13.rr hT14 fun b o e e2 => ownG_ne hSt13.br hSt13.rr (by decide) b e2 (by rw [e]; rfl)
            have hrl14 := hSt13.rl.only hT14 fun q hq b e e2 => ownG_ne hSt13.br (hSt13.rl.own q hq) (by decide) b e2 e
            have far14 : ∀ {b0 s0 n0 c0' : Nat} {e0 : TypeId} {X0 : Option Addr} {v0 : List Value}, e0 ≠ 32 → Own w12 b0 e0 s0 X0 n0 c0' v0 → Own w14 b0 e0 s0 X0 n0 c0' v0 := fun hne h => by
              have h1 := Own.below h hb13 (Nat.le_refl _)
              exact Own.only h1 hT14 fun b o e e2 => ownG_ne hSt13.br h1 (fun e3 => hne e3.symm) b e2 (by rw [e]; rfl)
            have hb14' := far14 (by decide) Hb12'.out
            have hc14 := far14 (by decide) Hc12.out
            have hp14 := far14 (by decide) Hp12.out
            have hq14 := far14 (by decide) Hq12.out
            have hbw14 : Below w.heap.size w w14 := (Hbw12.out.trans (hb13.mono Hbw12.out.size)).trans (hT14.below (B := w.heap.size) (by have := Hbw12.out.size; omega) fun k hk e => by have := hABlt k e; omega)
            have hbl2 : SoleG w14 B 5 1 (qb ++ [(⟨A5, ys.length, c5⟩, ys.map bv), (⟨A6, ys.length, c6⟩, ys.map bv)]) := SoleG.push2 HSt4.out.bl hbl14 hb14' hc14 hBz4 (Nat.le_refl _) hz45 fun b e => (Own.row Hown5.out b e).2
            have hbr2 : Own w14 B 32 1 AB2 (qb.length + 2) cB2 (hdrs (qb ++ [(⟨A5, ys.length, c5⟩, ys.map bv), (⟨A6, ys.length, c6⟩, ys.map bv)])) := by
              unfold hdrs
              rw [List.map_append]
              exact hown14
            have HBL := Lib.hid hbl2
            have HBR := Lib.hid hbr2
            have HRR := Lib.hid hrr14
            have HRL := Lib.hid hrl14
            have HP := Lib.hid hp14
            have HQ := Lib.hid hq14
            have Hbw14 := Lib.hid hbw14
            clear hw13 hb13 hU13 hSt13 hown14 hg14 hA14 hT14 hABlt hbl14 hrr14 hrl14 far14 hb14' hc14 hp14 hq14 hbw14 hbl2 hbr2
            go_wp2_with (refine wpList_at 116 rfl ?_; refine wp_stop ?_)
            try refine ⟨?_⟩
            obtain ⟨w15, hw15⟩ : ∃ v, v = w14.alloc (.cells #[.slice A8 l1.length c8, .slice A9 l1.length c9] 30) := ⟨_, rfl⟩
            rw [← hw15]
            have hb15 : Below w14.heap.size w14 w15 := by rw [hw15]; exact (Below.refl _ _).alloc (Nat.le_refl _) _
            have hU15 : Blk w15 w14.heap.size 30 #[.slice A8 l1.length c8, .slice A9 l1.length c9] := by rw [hw15]; exact Blk.new _ _ _
            have hz15 := hb15.size
            have hrr15 := Own.below HRR.out hb15 (Nat.le_refl _)
            refine wpList_app rfl (.tmp 112) (.tmp 115) eIRow rfl rfl hrr15 (m := 2) (c' := 2) (us := [.slice A8 l1.length c8, .slice A9 l1.length c9]) rfl (RV.of_blk hU15) rfl (by intro v hv; simp only [List.mem_cons, List.not_mem_nil, or_false] at hv; rcases hv with rfl | rfl <;> rfl) (by unfold maxLen; omega) (by omega) (by omega) (fun h => by cases h) ?_
            intro AR2 cR2 w16 hown16 hg16 hA16
            have hT16 : Only (fun b => AR.map (·.block) = some b) w15 w16 := Only.of_grown hg16 fun k e => e
            have hz16 := hT16.size
            have hARlt : ∀ b, AR.map (·.block) = some b → B ≤ b ∧ b < w15.heap.size := Own.row hrr15
            have hbl15 := HBL.out.below hb15
            have hbr15 := Own.below HBR.out hb15 (Nat.le_refl _)
            have hrl15 := HRL.out.below hb15
            have hp15 := Own.below HP.out hb15 (Nat.le_refl _)
            have hq15 := Own.below HQ.out hb15 (Nat.le_refl _)
            have hbl16 := hbl15.only hT16 fun q hq b e e2 => ownG_ne hrr15 (hbl15.own q hq) (by decide) b e2 e
            have hbr16 := Own.only hbr15 hT16 fun b o e e2 => ownG_ne hrr15 hbr15 (by decide) b e2 (by rw [e]; rfl)
            have hrl16 := hrl15.only hT16 fun q hq b e e2 => ownG_ne hrr15 (hrl15.own q hq) (by decide) b e2 e
            have hp16 := Own.only hp15 hT16 fun b o e e2 => ownG_ne hrr15 hp15 (by decide) b e2 (by rw [e]; rfl)
            have hq16 := Own.only hq15 hT16 fun b o e e2 => ownG_ne hrr15 hq15 (by decide) b e2 (by rw [e]; rfl)
            have hbw16 : Below w.heap.size w w16 := (Hbw14.out.trans (hb15.mono Hbw14.out.size)).trans (hT16.below (B := w.heap.size) (by have := Hbw14.out.size; omega) fun k hk e => by have := hARlt k e; omega)
            have hrl2 : SoleG w16 B 48 2 (qr ++ [(⟨A8, l1.length, c8⟩, l1.flatMap insCells), (⟨A9, l1.length, c9⟩, l1.flatMap insCells)]) := SoleG.push2 HSt4.out.rl hrl16 hp16 hq16 hBz4 (by omega) hz78 fun b e => (Own.row Hown8.out b e).2
            have hrr2 : Own w16 B 30 1 AR2 (qr.length + 2) cR2 (hdrs (qr ++ [(⟨A8, l1.length, c8⟩, l1.flatMap insCells), (⟨A9, l1.length, c9⟩, l1.flatMap insCells)])) := by
              unfold hdrs
              rw [List.map_append]
              exact hown16
            have hlen : ∀ (qs : List (LG × List Value)) (x y : LG × List Value), (qs ++ [x, y]).length = qs.length + 2 := fun qs x y => by rw [List.length_append]; rfl
            have hStn : OSt w16 B AB2 cB2 (qb ++ [(⟨A5, ys.length, c5⟩, ys.map bv), (⟨A6, ys.length, c6⟩, ys.map bv)]) AR2 cR2 (qr ++ [(⟨A8, l1.length, c8⟩, l1.flatMap insCells), (⟨A9, l1.length, c9⟩, l1.flatMap insCells)]) (k * 4 + (1 + 1) * 2) := by
              refine ⟨by rw [hlen]; exact hbr16, hbl16, by rw [hlen]; exact hrr2, hrl2, ⟨by rw [hlen]; omega, fun q hq => ?_⟩, ⟨by rw [hlen]; omega, fun q hq => ?_⟩⟩
              · rcases List.mem_append.1 hq with hq | hq
                · exact HSt4.out.nb.2 q hq
                · simp only [List.mem_cons, List.not_mem_nil, or_false] at hq
                  rcases hq with rfl | rfl
                  · show ys.length ≤ _; omega
                  · show ys.length ≤ _; omega
              · rcases List.mem_append.1 hq with hq | hq
                · exact HSt4.out.nr.2 q hq
                · simp only [List.mem_cons, List.not_mem_nil, or_false] at hq
                  rcases hq with rfl | rfl
                  · show l1.length ≤ _; omega
                  · show l1.length ≤ _; omega
            have HStn := Lib.hid hStn
            have Hbw16 := Lib.hid hbw16
            have HL1 := Lib.hid (hlen qb (⟨A5, ys.length, c5⟩, ys.map bv) (⟨A6, ys.length, c6⟩, ys.map bv))
            have HL2 := Lib.hid (hlen qr (⟨A8, l1.length, c8⟩, l1.flatMap insCells) (⟨A9, l1.length, c9⟩, l1.flatMap insCells))
            clear hw15 hb15 hU15 hrr15 hown16 hg16 hA16 hT16 hARlt hbl15 hbr15 hrl15 hp15 hq15 hbl16 hbr16 hrl16 hp16 hq16 hbw16 hrl2 hrr2 hlen hStn
            generalize qb ++ [((⟨A5, ys.length, c5⟩ : LG), ys.map bv), (⟨A6, ys.length, c6⟩, ys.map bv)] = qb2 at *
            generalize qr ++ [((⟨A8, l1.length, c8⟩ : LG), l1.flatMap insCells), (⟨A9, l1.length, c9⟩, l1.flatMap insCells)] = qr2 at *
            go_wp2_with fail
            exact ⟨⟨1 + 1, AB2, cB2, qb2, AR2, cR2, qr2, by omega, by go_num, by rw [HL1.out], by rw [HL2.out], HStn.out, Hbw16.out, by omega⟩, by simp [intOf]⟩
        · obtain rfl : j = 2 := by omega
          have HF := Lib.hid (show OSt w3 B AB cB qb AR cR qr ((k + 1) * 4) from hSt.mono (by omega))
          have Hbw := Lib.hid hbw
          clear hSt hbw
          go_wp2_with fail
          exact ⟨⟨k + 1, AB, cB, qb, AR, cR, qr, by omega, by go_num, rfl, rfl, HF.out, Hbw.out, hBz⟩, by simp [intOf]; omega⟩
    · obtain rfl : k = 2 := by omega
      have HSt := Lib.hid hSt
      have Hbw := Lib.hid hbw
      clear hSt hbw HSt0
      go_wp2_with (refine wpList_at 119 rfl ?_; refine wp_stop ?_)
      try refine ⟨?_⟩
      obtain ⟨w3, hw3⟩ : ∃ v, v = w2.alloc (.cells #[] 48) := ⟨_, rfl⟩
      rw [← hw3]
      have hb23 : Below w2.heap.size w2 w3 := by rw [hw3]; exact (Below.refl _ _).alloc (Nat.le_refl _) _
      have ho3 : Own w3 w2.heap.size 48 2 (some ⟨w2.heap.size, 0, none⟩) 0 0 [] := by rw [hw3]; exact Own.lit w2 48 2 0 #[] (Nat.le_refl _) (Nat.zero_le _) rfl
      have hz23 := hb23.size
      refine wpList_app rfl (.tmp 117) (.tmp 118) eIns rfl rfl ho3 (m := l0.length) (c' := c0) (us := l0.flatMap insCells) rfl (H0.out.1.below (Hbw.out.trans (hb23.mono Hbw.out.size))) (insCells_len l0) (ins_one l0) (by unfold maxLen; omega) (by omega) hz23 H0.out.2.2 ?_
      intro A4 c4 w4 hown4 hg4 hA4
      rw [Nat.zero_add, List.nil_append] at hown4
      have hb34 : Below w2.heap.size w3 w4 := (Below.refl w2.heap.size w3).grown hg4 hz23 fun q hq => by injection hq with hq; exact Nat.le_of_eq hq
      have hb24 := hb23.trans hb34
      have hz24 := hb24.size
      have HSt4 := Lib.hid (HSt.out.below hb24)
      have Hbw4 := Lib.hid (Hbw.out.trans (hb24.mono Hbw.out.size))
      have Hwas := Lib.hid hown4
      have hls := HSt4.out.rl.lists HSt4.out.rr (by decide) (by have := HSt4.out.nr.1; omega) HSt4.out.nr.2
      have hgr := grownI_any AR cR B _ _ w4 hls (fun e => by have h := own_caps' HSt4.out.rr; rw [List.length_map]; exact h.2.2 e) (by omega)
      rw [List.length_map] at hgr
      have Hgr := Lib.hid hgr
      clear hw3 hb23 ho3 hown4 hg4 hA4 hb34 hb24 hls hgr
      simp only [Nat.zero_add]
      go_wp2_with fail
      refine Hgr.out.mono ?_
      rintro e w5 ⟨rfl, ho5⟩
      have hqr : ∀ b, (∃ p ∈ qr.map (·.1), p.A.map (·.block) = some b) → B ≤ b ∧ b < w2.heap.size ∧ ∃ q ∈ qr, q.1.A.map (·.block) = some b := fun b ⟨p, hp, e⟩ => by
        obtain ⟨q, hq, rfl⟩ := List.mem_map.1 hp
        have h1 := HSt.out.rl.lt q hq b e
        exact ⟨h1.1, h1.2, q, hq, e⟩
      have hz45 := ho5.size
      have hbl5 : SoleG w5 B 5 1 qb := HSt4.out.bl.only ho5 fun q hq b e e2 => by
        obtain ⟨-, -, q2, hq2, e3⟩ := hqr b e2
        exact ownG_ne (HSt4.out.bl.own q hq) (HSt4.out.rl.own q2 hq2) (by decide) b e e3
      have hbr5 : Own w5 B 32 1 AB qb.length cB (hdrs qb) := Own.only HSt4.out.br ho5 fun b o e e2 => by
        obtain ⟨-, -, q2, hq2, e3⟩ := hqr b e2
        exact ownG_ne HSt4.out.br (HSt4.out.rl.own q2 hq2) (by decide) b (by rw [e]; rfl) e3
      have hwas5 := Own.only Hwas.out ho5 fun b o e e2 => by
        have h1 := (hqr b e2).2.1
        have := (Own.lt Hwas.out b o e).1
        omega
      have Hbw5 := Lib.hid (Hbw4.out.trans ((ho5.below (B := w.heap.size) Hbw4.out.size (by intro k hk e; have := (hqr k e).1; omega)).mono (Nat.le_refl _)))
      have hls := hbl5.lists hbr5 (by decide) (by have := HSt4.out.nb.1; omega) HSt4.out.nb.2
      have hgr := grownB_any AB cB B _ _ w5 hls (fun e => by have h := own_caps' hbr5; rw [List.length_map]; exact h.2.2 e) (by omega)
      rw [List.length_map] at hgr
      have HgB := Lib.hid hgr
      have Hbl5 := Lib.hid hbl5
      have Hwas5 := Lib.hid hwas5
      clear ho5 hqr hbl5 hbr5 hwas5 hls hgr Hgr
      go_wp2_with fail
      refine HgB.out.mono ?_
      rintro e w6 ⟨rfl, ho6⟩
      have hqb : ∀ b, (∃ p ∈ qb.map (·.1), p.A.map (·.block) = some b) → B ≤ b ∧ b < w2.heap.size := fun b ⟨p, hp, e⟩ => by
        obtain ⟨q, hq, rfl⟩ := List.mem_map.1 hp
        exact HSt.out.bl.lt q hq b e
      have hz56 := ho6.size
      have Hwas6 := Lib.hid (Own.only Hwas5.out ho6 fun b o e e2 => by
        have h1 := (hqb b e2).2
        have := (Own.lt Hwas5.out b o e).1
        omega)
      have Hbw6 := Lib.hid (Hbw5.out.trans ((ho6.below (B := w.heap.size) Hbw5.out.size (by intro k hk e; have := (hqb k e).1; omega)).mono (Nat.le_refl _)))
      have hs := same_ins A0 A4 c0 c4 l0 l0 w6 (H0.out.1.below Hbw6.out) (RV.of_own Hwas6.out) (by omega) (by omega)
      rw [sameB_self] at hs
      have Hs := Lib.hid hs
      clear ho6 hqb hs HgB Hbl5 Hwas5
      go_wp2_with fail
      refine Hs.out.mono ?_
      rintro e w7 ⟨rfl, n7, hw7⟩
      have hb67 : Below w6.heap.size w6 w7 := by rw [hw7]; exact below_drewN (Below.refl _ _) n7
      have Hbw7 := Lib.hid (Hbw6.out.trans (hb67.mono Hbw6.out.size))
      clear hw7 hb67 Hs Hwas6 Hwas Hbw6
      go_wp2_with (refine wpList_at 136 rfl ?_; refine wp_stop ?_)
      try refine ⟨?_⟩
      obtain ⟨w8, hw8⟩ : ∃ v, v = w7.alloc (.cells #[] 48) := ⟨_, rfl⟩
      rw [← hw8]
      have hb78 : Below w7.heap.size w7 w8 := by rw [hw8]; exact (Below.refl _ _).alloc (Nat.le_refl _) _
      have ho8 : Own w8 w7.heap.size 48 2 (some ⟨w7.heap.size, 0, none⟩) 0 0 [] := by rw [hw8]; exact Own.lit w7 48 2 0 #[] (Nat.le_refl _) (Nat.zero_le _) rfl
      have hz78 := hb78.size
      refine wpList_app rfl (.tmp 134) (.tmp 135) eIns rfl rfl ho8 (m := l0.length) (c' := c0) (us := l0.flatMap insCells) rfl (H0.out.1.below (Hbw7.out.trans (hb78.mono Hbw7.out.size))) (insCells_len l0) (ins_one l0) (by unfold maxLen; omega) (by omega) hz78 H0.out.2.2 ?_
      intro A9 c9 w9 hown9 hg9 hA9
      rw [Nat.zero_add, List.nil_append] at hown9
      have hb89 : Below w7.heap.size w8 w9 := (Below.refl w7.heap.size w8).grown hg9 hz78 fun q hq => by injection hq with hq; exact Nat.le_of_eq hq
      have hb79 := hb78.trans hb89
      have Hbw9 := Lib.hid (Hbw7.out.trans (hb79.mono Hbw7.out.size))
      have Hmine := Lib.hid hown9
      have hw7z : w.heap.size ≤ w7.heap.size := Hbw7.out.size
      clear hw8 hb78 ho8 hown9 hg9 hA9 hb89 hb79
      simp only [Nat.zero_add]
      go_wp2_with fail
      go_loopw [23] (fun v wr => ∃ (k : Nat) (ls : List Ins), k ≤ 3 ∧ v = .int .i64 k ∧ Own wr w7.heap.size 48 2 A9 l0.length c9 (ls.flatMap insCells) ∧ Hid (ls.length = l0.length) ∧ Hid (∀ i ∈ ls, InsOk i) ∧ Below w.heap.size w wr) (fun v _ => 3 - (intOf v).toNat)
      case atStart => exact ⟨0, l0, Nat.zero_le _, rfl, Hmine.out, Lib.hid rfl, Lib.hid H0.out.2.1, Hbw9.out⟩
      case round =>
        rename World => v0
        obtain ⟨k, ls, hk, rfl, hown, hlen, hok, hbw⟩ := hrel
        by_cases hk3 : k < 3
        case neg =>
          obtain rfl : k = 3 := by omega
          have g3 : ¬ ((3 : Nat) : Int) < 3 := by omega
          have HF := Lib.hid hbw
          clear hown hbw
          go_wp2_with fail
          go_ret
          exact ⟨rfl, HF.out⟩
        have g3 : (k : Int) < 3 := by omega
        by_cases hl00 : l0.length = 0
        · have g4 : ¬ (0 : Int) < (l0.length : Int) := by omega
          have HF := Lib.hid hbw
          clear hown hbw hl00
          go_wp2_with fail
          go_ret
          exact ⟨rfl, HF.out⟩
        have g4 : (0 : Int) < (l0.length : Int) := by omega
        obtain ⟨ys, f, hen⟩ : ∃ ys f, encL ls = (ys, f) := ⟨_, _, rfl⟩
        have hysl : ys.length ≤ 40960 := by
          rcases encL_snd ls with h | h
          · rw [hen] at h
            dsimp only at h
            subst h
            obtain ⟨h1, h2, h3⟩ := encL_ok hen
            have h4 := flat_le ls h3
            rw [← h2] at h4
            omega
          · rw [hen] at h
            dsimp only at h
            rw [h]
            simp
        have Hen := Lib.hid hen
        have hll : ls.length ≤ maxLen := by rw [hlen.out]; unfold maxLen; omega
        have Hll := Lib.hid hll
        have henc := encode_any A9 c9 ls v0 (RV.of_own hown) hok.out hll
        rw [hen, hlen.out] at henc
        have Henc := Lib.hid henc
        have Hown := Lib.hid hown
        have Hbw0 := Lib.hid hbw
        clear hown hbw hen hll henc
        go_wp2_with fail
        refine Henc.out.mono ?_
        rintro e v1 ⟨A1', c1', rfl, hown1, hb1⟩
        dsimp only at hown1 ⊢
        have Hown1 := Lib.hid (Own.below Hown.out hb1 (Nat.le_refl _))
        have Hbw1 := Lib.hid (Hbw0.out.trans (hb1.mono Hbw0.out.size))
        have Hb1' := Lib.hid hown1
        have hre := refEncode_any A9 c9 ls v1 (RV.of_own Hown1.out) hok.out Hll.out
        rw [Hen.out, hlen.out] at hre
        have Hre := Lib.hid hre
        have hz01 := hb1.size
        clear hown1 hb1 hre Henc
        go_wp2_with fail
        refine Hre.out.mono ?_
        rintro e v2 ⟨A2', c2', rfl, hown2, hb2⟩
        dsimp only at hown2 ⊢
        have Hown2 := Lib.hid (Own.below Hown1.out hb2 (Nat.le_refl _))
        have Hbw2 := Lib.hid (Hbw1.out.trans (hb2.mono Hbw1.out.size))
        have Hb2' := Lib.hid (Own.below Hb1'.out hb2 (Nat.le_refl _))
        have Hc2' := Lib.hid hown2
        have Ry := Lib.hid (RV.of_own Hb2'.out)
        have Rw := Lib.hid (RV.of_own hown2)
        have hz12 := hb2.size
        have e0 : (f == f) = true := by simp
        have e1 : (f != f) = false := by simp
        clear hown2 hb2 Hre
        go_wp2_with (first
          | (refine wpList_at 161 rfl ?_; refine wpList_bytesStrG rfl (.tmp 160) (A := A1') (c := c1') (ys := ys) rfl rfl Ry.out Try.underlying32 Try.underlying5 Try.underlying9 ?_)
          | (refine wpList_at 163 rfl ?_; refine wpList_bytesStrG rfl (.tmp 162) (A := A2') (c := c2') (ys := ys) rfl rfl Rw.out Try.underlying32 Try.underlying5 Try.underlying9 ?_)
          | (refine wpList_at 168 rfl ?_; refine wp_stop ?_))
        try refine ⟨?_⟩
        obtain ⟨v3, hv3⟩ : ∃ v, v = v2.alloc (.cells #[] 5) := ⟨_, rfl⟩
        rw [← hv3]
        have hb23 : Below v2.heap.size v2 v3 := by rw [hv3]; exact (Below.refl _ _).alloc (Nat.le_refl _) _
        have ho3 : Own v3 v2.heap.size 5 1 (some ⟨v2.heap.size, 0, none⟩) 0 0 [] := by rw [hv3]; exact Own.lit v2 5 1 0 #[] (Nat.le_refl _) (Nat.zero_le _) rfl
        have hz23 := hb23.size
        refine wpList_app rfl (.tmp 166) (.tmp 167) eByte rfl rfl ho3 (m := ys.length) (c' := c2') (us := ys.map bv) rfl (Rw.out.below hb23) (by rw [List.length_map, Nat.mul_one]) (map_bv_one _) (by unfold maxLen; omega) (by omega) hz23 (fun e => (own_caps' Hc2'.out).2.2 e) ?_
        intro A4' c4' v4 hown4 hg4 hA4
        rw [Nat.zero_add, List.nil_append] at hown4
        have hb34 : Below v2.heap.size v3 v4 := (Below.refl v2.heap.size v3).grown hg4 hz23 fun q hq => by injection hq with hq; exact Nat.le_of_eq hq
        have hb24 := hb23.trans hb34
        have hz24 := hb24.size
        have Hown4 := Lib.hid (Own.below Hown2.out hb24 (Nat.le_refl _))
        have Hbw4 := Lib.hid (Hbw2.out.trans (hb24.mono Hbw2.out.size))
        have Hbs := Lib.hid hown4
        have hv2z : w.heap.size ≤ v2.heap.size := Hbw2.out.size
        clear hv3 hb23 ho3 hown4 hg4 hA4 hb34 hb24 Ry Rw Hb2' Hc2' Hb1'
        simp only [Nat.zero_add]
        go_wp2_with fail
        go_loopw [29] (fun v wr => ∃ (j : Nat) (zs : List UInt8), j ≤ 2 ∧ v = .int .i64 j ∧ Own wr v2.heap.size 5 1 A4' ys.length c4' (zs.map bv) ∧ Hid (zs.length = ys.length) ∧ Own wr w7.heap.size 48 2 A9 l0.length c9 (ls.flatMap insCells) ∧ Below w.heap.size w wr) (fun v _ => 2 - (intOf v).toNat)
        case atStart => exact ⟨0, ys, Nat.zero_le _, rfl, Hbs.out, Lib.hid rfl, Hown4.out, Hbw4.out⟩
        case round =>
          rename World => u0
          obtain ⟨j, zs, hj, rfl, hbs, hzl, hmn, hbw⟩ := hrel
          have Hmn := Lib.hid hmn
          have Hbwu := Lib.hid hbw
          have Hbs0 := Lib.hid hbs
          clear hbs hmn hbw
          -- out of the inner loop: the last instruction is written over
          have hout : ∀ (hj2 : True), True := fun _ => trivial
          by_cases hgo : j < 2 ∧ 0 < ys.length
          case neg =>
            have hgo' : (¬ (j : Int) < 2) ∨ ((j : Int) < 2 ∧ ¬ (0 : Int) < (ys.length : Int)) := by omega
            obtain ⟨g, hA9, hg1, hg2⟩ := ownG_some Hmn.out (by omega)
            subst hA9
            have hlc : l0.length * 2 ≤ (ls.flatMap insCells).length := by rw [insCells_len, hlen.out]; exact Nat.le_refl _
            obtain ⟨i0, if0, -⟩ := ownG_at Hmn.out ((l0.length - 1) * 2) (by omega)
            obtain ⟨i1, if1, -⟩ := ownG_at Hmn.out ((l0.length - 1) * 2 + 1) (by omega)
            generalize (ls.flatMap insCells)[(l0.length - 1) * 2] = z0 at *
            generalize (ls.flatMap insCells)[(l0.length - 1) * 2 + 1] = z1 at *
            have hset : Own ((u0.setCell ⟨g, (l0.length - 1) * 2, none⟩ (.int .i64 3)).setCell ⟨g, (l0.length - 1) * 2 + 1, none⟩ (.int .i64 (k : Int))) w7.heap.size 48 2 (some ⟨g, 0, none⟩) l0.length c9 ((ls.set (l0.length - 1) ⟨3, (k : Int)⟩).flatMap insCells) := by
              rw [← insSet ls (l0.length - 1) ⟨3, (k : Int)⟩ (by rw [hlen.out]; omega)]
              exact ownG_set (ownG_set Hmn.out _ _) _ _
            have Hset := Lib.hid hset
            have Hbwn := Lib.hid (show Below w.heap.size w ((u0.setCell ⟨g, (l0.length - 1) * 2, none⟩ (.int .i64 3)).setCell ⟨g, (l0.length - 1) * 2 + 1, none⟩ (.int .i64 (k : Int))) from (Hbwu.out.setCell (p := ⟨g, (l0.length - 1) * 2, none⟩) (by show _ ≤ g; omega) _).setCell (p := ⟨g, (l0.length - 1) * 2 + 1, none⟩) (by show _ ≤ g; omega) _)
            have Hlen2 : Hid ((ls.set (l0.length - 1) ⟨3, (k : Int)⟩).length = l0.length) := Lib.hid (by rw [List.length_set, hlen.out])
            have Hok2 : Hid (∀ i ∈ ls.set (l0.length - 1) ⟨3, (k : Int)⟩, InsOk i) := Lib.hid (fun i hi => by
              rcases List.mem_or_eq_of_mem_set hi with hi | rfl
              · exact hok.out i hi
              · exact ⟨of_decide_eq_true rfl, of_decide_eq_true rfl, by dsimp only; omega, by dsimp only; omega⟩)
            obtain ⟨p1, hp1⟩ : ∃ p, p = l0.length - 1 := ⟨_, rfl⟩
            rw [← hp1] at i0 if0 i1 if1 Hset Hbwn Hlen2 Hok2
            have hl1' : (l0.length : Int) - 1 = (p1 : Int) := by omega
            have hp1l : p1 < l0.length := by omega
            have Hp1 := Lib.hid hp1
            clear hset hlc hgo hp1
            rcases hgo' with hgo' | ⟨hgo1, hgo2⟩
            · go_wp2_with fail
              exact ⟨⟨k + 1, _, by omega, by go_num, Hset.out, Hlen2, Hok2, Hbwn.out⟩, by simp [intOf]; omega⟩
            · go_wp2_with fail
              exact ⟨⟨k + 1, _, by omega, by go_num, Hset.out, Hlen2, Hok2, Hbwn.out⟩, by simp [intOf]; omega⟩
          obtain ⟨hj2, hy0⟩ := hgo
          have g5 : (j : Int) < 2 := by omega
          have g6 : (0 : Int) < (ys.length : Int) := by omega
          have hzl2 : zs.length ≤ 200000000000000 := by rw [hzl.out]; omega
          have hdc := decode_any A4' c4' zs u0 (Sl.of_own (show OwnB u0 v2.heap.size A4' ys.length c4' zs from Hbs0.out)) hzl2
          obtain ⟨D, hD⟩ : ∃ D, D = decL zs := ⟨_, rfl⟩
          rw [← hD, hzl.out] at hdc
          have hDl : D.1.length ≤ 4096 := by
            rw [hD]
            rcases dec_back zs with ⟨-, -, -, h2⟩ | ⟨-, h1⟩
            · exact h2
            · rw [h1]; simp
          have Hdc := Lib.hid hdc
          have HD := Lib.hid hD
          clear hdc hD
          go_wp2_with fail
          refine Hdc.out.mono ?_
          rintro e u1 ⟨A5', c5', rfl, hown5, hb1⟩
          have Hx1 := Lib.hid hown5
          have Hmn1 := Lib.hid (Own.below Hmn.out hb1 (Nat.le_refl _))
          have Hbs1 := Lib.hid (Own.below Hbs0.out hb1 (Nat.le_refl _))
          have Hbw1' := Lib.hid (Hbwu.out.trans (hb1.mono Hbwu.out.size))
          have hzu1 := hb1.size
          have hrd := refDecode_any A4' c4' zs u1 (Sl.of_own (show OwnB u1 v2.heap.size A4' ys.length c4' zs from Hbs1.out)) hzl2
          rw [← HD.out, hzl.out] at hrd
          have Hrd := Lib.hid hrd
          clear hown5 hb1 hrd Hdc
          go_wp2_with fail
          refine Hrd.out.mono ?_
          rintro e u2 ⟨A6', c6', rfl, hown6, hb2⟩
          have Hx2 := Lib.hid (Own.below Hx1.out hb2 (Nat.le_refl _))
          have Hy2 := Lib.hid hown6
          have Hmn2 := Lib.hid (Own.below Hmn1.out hb2 (Nat.le_refl _))
          have Hbs2 := Lib.hid (Own.below Hbs1.out hb2 (Nat.le_refl _))
          have Hbw2' := Lib.hid (Hbw1'.out.trans (hb2.mono Hbw1'.out.size))
          have hzu2 := hb2.size
          obtain ⟨DL, DF⟩ := D
          dsimp only at hDl Hx2 Hy2 ⊢
          have hsm := same_ins A5' A6' c5' c6' DL DL u2 (RV.of_own Hx2.out) (RV.of_own Hy2.out) (by omega) (by omega)
          rw [sameB_self] at hsm
          have Hsm := Lib.hid hsm
          have e2 : (DF == DF) = true := by simp
          have e3 : (DF != DF) = false := by simp
          clear hown6 hb2 hsm Hrd HD
          go_wp2_with fail
          refine Hsm.out.mono ?_
          rintro e u3 ⟨rfl, n3, hw3⟩
          have hb23 : Below u2.heap.size u2 u3 := by rw [hw3]; exact below_drewN (Below.refl _ _) n3
          have hbs3 := Own.below Hbs2.out hb23 (Nat.le_refl _)
          have hmn3 := Own.below Hmn2.out hb23 (Nat.le_refl _)
          have hbw3 := Hbw2'.out.trans (hb23.mono Hbw2'.out.size)
          obtain ⟨gb, hAb, hgb1, hgb2⟩ := ownG_some hbs3 (by omega)
          subst hAb
          obtain ⟨p2, hp2⟩ : ∃ p, p = ys.length - 1 := ⟨_, rfl⟩
          have hp2l : p2 < ys.length := by omega
          have hl2' : (ys.length : Int) - 1 = (p2 : Int) := by omega
          obtain ⟨z0, zf0, -⟩ := ownG_at hbs3 p2 (by rw [List.length_map, hzl.out]; exact hp2l)
          rw [List.getElem_map] at z0
          have hx2 := bits_x2 (zs[p2]'(by rw [hzl.out]; exact hp2l))
          generalize zs[p2]'(by rw [hzl.out]; exact hp2l) = xk at *
          obtain ⟨uu, huu⟩ := hx2
          have Huu := Lib.hid huu
          replace z0 : u3.cell? ⟨gb, p2, none⟩ = some (.int .u8 (xk.toNat : Int)) := z0
          have hOs : Only (fun b => b = gb) u3 (u3.setCell ⟨gb, p2, none⟩ (bv uu)) := (Only.refl (fun b => b = gb) u3).setCell (p := ⟨gb, p2, none⟩) (.inl rfl) _
          have Hbs4 := Lib.hid (show Own (u3.setCell ⟨gb, p2, none⟩ (bv uu)) v2.heap.size 5 1 (some ⟨gb, 0, none⟩) ys.length c4' ((zs.set p2 uu).map bv) from by
            rw [List.map_set]
            exact ownG_set hbs3 p2 (bv uu))
          have Hzl4 : Hid ((zs.set p2 uu).length = ys.length) := Lib.hid (by rw [List.length_set, hzl.out])
          have Hmn4 := Lib.hid (Own.only hmn3 hOs fun b o e e2 => ownG_ne hbs3 hmn3 (by decide) gb rfl (by rw [e, ← e2]; rfl))
          have Hbw4' := Lib.hid (show Below w.heap.size w (u3.setCell ⟨gb, p2, none⟩ (bv uu)) from hbw3.setCell (p := ⟨gb, p2, none⟩) (by show _ ≤ gb; omega) _)
          clear hw3 hb23 hbs3 hmn3 hbw3 hOs hp2 huu Hsm
          go_wp2_with fail
          rw [Huu.out]
          exact ⟨⟨j + 1, zs.set p2 uu, by omega, by go_num, Hbs4.out, Hzl4, Hmn4.out, Hbw4'.out⟩, by simp [intOf]; omega⟩
end Go.Proofs.Ytmmdkpnoncnjnaa
