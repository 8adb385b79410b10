/- Contracts of the Reader's calls: Num, Int, Bool, Bytes, Text, Raw, Left, Most. -/
import Derived.Test.YtmmdkpnoncnjnaaRdA
import Derived.Laws.Bits64b
namespace Go.Proofs.Ytmmdkpnoncnjnaa
open Go.RowKit

def rNumL (bs : List UInt8) (at_ : Nat) : Except Int (Nat × Nat) :=
  match numberL bs at_ with
  | .error f => .error f
  | .ok (u, k) => if 9223372036854775808 ≤ u then .error 12 else .ok (u, k)
theorem number_lt {bs : List UInt8} {at_ u k : Nat} (h : numberL bs at_ = .ok (u, k)) : u < 18446744073709551616 ∧ 1 ≤ k ∧ at_ + k ≤ bs.length := by
  unfold numberL at h
  split at h
  · cases h
  split at h
  · injection h with h
    injection h with h1 h2
    have := (bs.getD at_ 0).toNat_lt
    omega
  split at h
  · cases h
  split at h
  · cases h
  · rename_i h1 h2 h3 h4
    injection h with h
    injection h with h5 h6
    have hx := (bs.getD at_ 0).toNat_lt
    refine ⟨?_, by omega, by omega⟩
    rw [← h5]
    have h7 := beNat_lt ((bs.drop (at_ + 1)).take ((bs.getD at_ 0).toNat - 247))
    have h8 : 256 ^ ((bs.drop (at_ + 1)).take ((bs.getD at_ 0).toNat - 247)).length ≤ 256 ^ 8 := Nat.pow_le_pow_right (by omega) (by rw [List.length_take]; omega)
    have h9 : (256 : Nat) ^ 8 = 18446744073709551616 := by decide
    omega
theorem rNum_lt {bs : List UInt8} {at_ u k : Nat} (h : rNumL bs at_ = .ok (u, k)) : u < 9223372036854775808 ∧ 1 ≤ k ∧ at_ + k ≤ bs.length ∧ numberL bs at_ = .ok (u, k) := by
  unfold rNumL at h
  split at h
  · cases h
  · rename_i u2 k2 hn
    split at h
    · cases h
    · injection h with h
      injection h with h1 h2
      subst h1 h2
      have := number_lt hn
      exact ⟨by omega, this.2.1, this.2.2, hn⟩
set_option maxRecDepth 100000 in
theorem rNum_any (g c at_ : Nat) (A : Option Addr) (bs : List UInt8) (w : World) (h : Rd w g A c bs at_ false 0) (hl : bs.length ≤ 140737488351232) :
    Calls Try.prog 47 #[.pointer (some ⟨g, 0, none⟩)] w fun e w' => match rNumL bs at_ with
      | .ok (u, k) => e = .returned (.int .i64 (u : Int)) ∧ Rd w' g A c bs (at_ + k) false 0 ∧ Only (fun b => b = g) w w'
      | .error f => Fell w g A c bs f e w' := by
  have h2 := h.c2
  have hgl := h.blk.lt
  have hc := number_any g c at_ A bs w h hl
  cases hn : numberL bs at_ with
  | error f =>
    rw [hn] at hc
    have e : rNumL bs at_ = .error f := by unfold rNumL; rw [hn]
    rw [e]
    clear h
    go_enter Try.func47, Try.ntmps47
    go_wp2_with fail
    refine hc.mono ?_
    rintro e w' ⟨rfl, hrd, ho⟩
    exact ⟨rfl, rfl, hrd, ho⟩
  | ok uk =>
    obtain ⟨u, k⟩ := uk
    rw [hn] at hc
    obtain ⟨hu, hk⟩ := number_lt hn
    by_cases hbig : 9223372036854775808 ≤ u
    · have e : rNumL bs at_ = .error 12 := by unfold rNumL; rw [hn]; exact if_pos hbig
      rw [e]
      have g1 : ((u : Int) / 9223372036854775808 != 0) = true := by rw [bne_iff_ne]; omega
      clear h hbig
      go_enter Try.func47, Try.ntmps47
      go_wp2_with fail
      refine hc.mono ?_
      rintro e w' ⟨rfl, hrd, ho⟩
      have Hrd := Lib.hid hrd
      have Ho := Lib.hid ho
      clear hc hrd ho
      go_wp2_with fail
      refine (fail_any g c _ A bs 12 (by decide) w' Hrd.out).mono ?_
      rintro e w4 ⟨rfl, hrd4, ho4⟩
      exact ⟨rfl, rfl, hrd4, Ho.out.trans ho4⟩
    · have e : rNumL bs at_ = .ok (u, k) := by unfold rNumL; rw [hn]; exact if_neg hbig
      rw [e]
      have g1 : ((u : Int) / 9223372036854775808 != 0) = false := by rw [bne_eq_false_iff_eq]; omega
      have g2 : (u : Int) < 9223372036854775808 := by omega
      clear h hbig
      go_enter Try.func47, Try.ntmps47
      go_wp2_with fail
      refine hc.mono ?_
      rintro e w' ⟨rfl, hrd, ho⟩
      have Hrd := Lib.hid hrd
      have Ho := Lib.hid ho
      clear hc hrd ho
      go_wp2_with fail
      go_ret
      exact ⟨rfl, Hrd.out, Ho.out⟩
/-- An int out of its fold. -/
def unfoldN (u : Nat) : Int := if u % 2 = 0 then ((u / 2 : Nat) : Int) else -((u / 2 : Nat) : Int) - 1
theorem unfold_bits (u : Nat) (hu : u < 18446744073709551616) : bits .xor .i64 ((u : Int) / 2) (wrap64 (-wrap64 (bits .and .u64 (u : Int) 1))) = unfoldN u := by
  have h1 : bits .and .u64 (u : Int) 1 = ((u % 2 : Nat) : Int) := by
    have h := bits_and_u64_nat u 1 hu (by decide)
    rw [Nat.and_one_is_mod] at h
    exact h
  have h2 : ∀ b : Int, bits .xor .i64 ((u : Int) / 2) b = IntKind.i64.wrap (((BitVec.ofInt 64 ((u : Int) / 2)) ^^^ (BitVec.ofInt 64 b)).toNat : Int) := fun _ => rfl
  have h3 : (u : Int) / 2 = ((u / 2 : Nat) : Int) := by omega
  rw [h1]
  unfold unfoldN
  by_cases h : u % 2 = 0
  · rw [if_pos h, h, h2, h3]
    rw [show wrap64 (-wrap64 ((0 : Nat) : Int)) = 0 from by unfold wrap64; omega, BitVec.ofInt_natCast, show BitVec.ofInt 64 0 = 0#64 from rfl, BitVec.xor_zero, BitVec.toNat_ofNat, Nat.mod_eq_of_lt (by omega)]
    simp only [IntKind.wrap_i64]
    omega
  · rw [if_neg h, show u % 2 = 1 from by omega, h2, h3]
    rw [show wrap64 (-wrap64 ((1 : Nat) : Int)) = -1 from by unfold wrap64; omega, BitVec.ofInt_natCast, show BitVec.ofInt 64 (-1) = BitVec.allOnes 64 from rfl, BitVec.xor_allOnes, BitVec.toNat_not, BitVec.toNat_ofNat, Nat.mod_eq_of_lt (by omega)]
    simp only [IntKind.wrap_i64]
    omega
set_option maxRecDepth 100000 in
theorem rInt_any (g c at_ : Nat) (A : Option Addr) (bs : List UInt8) (w : World) (h : Rd w g A c bs at_ false 0) (hl : bs.length ≤ 140737488351232) :
    Calls Try.prog 59 #[.pointer (some ⟨g, 0, none⟩)] w fun e w' => match numberL bs at_ with
      | .ok (u, k) => e = .returned (.int .i64 (unfoldN u)) ∧ Rd w' g A c bs (at_ + k) false 0 ∧ Only (fun b => b = g) w w'
      | .error f => Fell w g A c bs f e w' := by
  have h2 := h.c2
  have hgl := h.blk.lt
  have hc := number_any g c at_ A bs w h hl
  cases hn : numberL bs at_ with
  | error f =>
    rw [hn] at hc
    clear h
    go_enter Try.func59, Try.ntmps59
    go_wp2_with fail
    refine hc.mono ?_
    rintro e w' ⟨rfl, hrd, ho⟩
    exact ⟨rfl, rfl, hrd, ho⟩
  | ok uk =>
    obtain ⟨u, k⟩ := uk
    rw [hn] at hc
    obtain ⟨hu, hk⟩ := number_lt hn
    clear h
    go_enter Try.func59, Try.ntmps59
    go_wp2_with fail
    refine hc.mono ?_
    rintro e w' ⟨rfl, hrd, ho⟩
    have Hrd := Lib.hid hrd
    have Ho := Lib.hid ho
    clear hc hrd ho
    go_wp2_with fail
    have hub := unfold_bits u hu
    go_ret
    exact ⟨by rw [← hub]; rfl, Hrd.out, Ho.out⟩
def rBoolL (bs : List UInt8) (at_ : Nat) : Except Int Bool :=
  if bs.length < at_ + 1 then .error 11 else if 1 < (bs.getD at_ 0).toNat then .error 12 else .ok ((bs.getD at_ 0).toNat == 1)
/-- Where the taken bytes lie. -/
theorem took_sl {w : World} {A A2 : Option Addr} {bs : List UInt8} {c at_ n : Nat} (hr : RV w A (bs.map bv)) (hm : Moved A c at_ A2) (hc : bs.length ≤ c) (hfit : at_ + n ≤ bs.length) (hA : A = none → bs.length = 0 ∧ c = 0) :
    Sl w ⟨A2, c - at_, (bs.drop at_).take n⟩ := by
  refine ⟨?_, fun h => ?_⟩
  · have h1 := hr.moved hm (by rw [List.length_map]; exact hc)
    show RV w A2 (((bs.drop at_).take n).map bv)
    rw [List.map_take, List.map_drop]
    rcases h1 with h | ⟨b, off, hA, hb, hc⟩
    · left; rw [h, List.take_nil]
    · refine .inr ⟨b, off, hA, hb, fun j v hj => hc j v ?_⟩
      rw [List.getElem?_take] at hj
      split at hj
      · exact hj
      · cases hj
  · have h : A2 = none := h
    have hn : A = none := by
      rcases hm with ⟨h1, _⟩ | ⟨h1, _⟩
      · rw [← h1]; exact h
      · cases A with
        | none => rfl
        | some a => rw [h] at h1; cases h1
    obtain ⟨h1, h2⟩ := hA hn
    show ((bs.drop at_).take n).length = 0 ∧ c - at_ = 0
    rw [List.length_take, List.length_drop]
    omega
def rRawL (bs : List UInt8) (at_ : Nat) (n : Int) : Except Int (List UInt8) :=
  if n < 0 then .error 1 else if (bs.length : Int) < at_ + n then .error 11 else .ok ((bs.drop at_).take n.toNat)
/-- Bytes of the caller's own are handed back. -/
def GotB (w : World) (g : Nat) (A : Option Addr) (c : Nat) (bs : List UInt8) (at2 : Nat) (ys : List UInt8) (e : Ending) (w' : World) : Prop :=
  ∃ A2 c2, e = .returned (.slice A2 ys.length c2) ∧ OwnB w' w.heap.size A2 ys.length c2 ys ∧ Rd w' g A c bs at2 false 0 ∧ Only (fun b => b = g) w w'
theorem Only.freshOwn {S : Nat → Prop} {w w1 w2 : World} (h : Only S w w1) (hb : Below w1.heap.size w1 w2) : Only S w w2 := h.trans (Only.of_fresh hb)
def rBytesL (bs : List UInt8) (at_ : Nat) : Except Int (List UInt8 × Nat) :=
  match rNumL bs at_ with
  | .error f => .error f
  | .ok (n, k) => if bs.length < at_ + k + n then .error 11 else .ok ((bs.drop (at_ + k)).take n, at_ + k + n)
theorem rLeft_any (g c at_ : Nat) (A : Option Addr) (bs : List UInt8) (w : World) (h : Rd w g A c bs at_ false 0) (hl : bs.length ≤ 140737488351232) :
    Calls Try.prog 45 #[.pointer (some ⟨g, 0, none⟩)] w fun e w' => e = .returned (.int .i64 ((bs.length - at_ : Nat) : Int)) ∧ ∃ m, w' = w.drewN m := by
  have h0 := h.c0
  have h1 := h.c1
  have h2 := h.c2
  have hgl := h.blk.lt
  have hle := h.le
  have e : ((bs.length - at_ : Nat) : Int) = (bs.length : Int) - (at_ : Int) := by omega
  rw [e]
  clear h e
  go_enter Try.func45, Try.ntmps45
  go_wp2_with fail
  go_quiet (fail)
  go_wp2_with fail
  go_ret
  exact ⟨rfl, _, rfl⟩
def rMostL (bs : List UInt8) (at_ : Nat) (n : Int) : Except Int (Nat × Nat) :=
  match rNumL bs at_ with
  | .error f => .error f
  | .ok (u, k) => if n < (u : Int) then .error 2 else .ok (u, k)
end Go.Proofs.Ytmmdkpnoncnjnaa
